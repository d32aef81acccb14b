
import Derived.Test.YtikmkimkhngihaaGreatKVc10
import Derived.Deep.CutRange
import Derived.Deep.MidRow
import Derived.Maps.AppendAt
/- Records in memory: a whole record loaded, stored; a row of numbers of one's own that others are appended to. -/
namespace Go.Proofs.YtikmkimkhngihaaGreat
open Go.RowKit

theorem recres {w : World} {b t : Nat} {v0 v1 v2 v3 v4 v5 v6 v7 v8 v9 v10 v11 v12 v13 v14 v15 : Value} (h : Blk w b t [v0, v1, v2, v3, v4, v5, v6, v7, v8, v9, v10, v11, v12, v13, v14, v15]) :
    (w.cell? ⟨b, 0, none⟩ = some v0 ∧ w.cell? ⟨b, 1, none⟩ = some v1 ∧ w.cell? ⟨b, 2, none⟩ = some v2 ∧ w.cell? ⟨b, 3, none⟩ = some v3 ∧ w.cell? ⟨b, 4, none⟩ = some v4 ∧ w.cell? ⟨b, 5, none⟩ = some v5 ∧ w.cell? ⟨b, 6, none⟩ = some v6 ∧ w.cell? ⟨b, 7, none⟩ = some v7 ∧
     w.cell? ⟨b, 8, none⟩ = some v8 ∧ w.cell? ⟨b, 9, none⟩ = some v9 ∧ w.cell? ⟨b, 10, none⟩ = some v10 ∧ w.cell? ⟨b, 11, none⟩ = some v11 ∧ w.cell? ⟨b, 12, none⟩ = some v12 ∧ w.cell? ⟨b, 13, none⟩ = some v13 ∧ w.cell? ⟨b, 14, none⟩ = some v14 ∧ w.cell? ⟨b, 15, none⟩ = some v15) ∧
    (∀ j, w.frozen? ⟨b, j, none⟩ = false) := by
  refine ⟨⟨?_, ?_, ?_, ?_, ?_, ?_, ?_, ?_, ?_, ?_, ?_, ?_, ?_, ?_, ?_, ?_⟩, fun j => h.free j⟩ <;> exact h.cell _ (by simp)

theorem setCells_blk {w : World} {b t : Nat} {cs : List Value} (h : Blk w b t cs) (vs : List Value) (hl : vs.length = cs.length) : Blk (w.setCells b 0 vs) b t vs := by
  have go : ∀ (vs : List Value) (o : Nat) (w : World) (cs : List Value), Blk w b t cs → o + vs.length = cs.length → Blk (w.setCells b o vs) b t (cs.take o ++ vs) := by
    intro vs
    induction vs with
    | nil =>
      intro o w cs h hl
      simp only [List.length_nil, Nat.add_zero] at hl
      rw [World.setCells, List.append_nil, hl, List.take_length]
      exact h
    | cons v r ih =>
      intro o w cs h hl
      rw [World.setCells]
      simp only [List.length_cons] at hl
      have h2 := ih (o + 1) _ _ (h.set o v) (by rw [List.length_set]; omega)
      have e : (cs.set o v).take (o + 1) = cs.take o ++ [v] := by
        rw [List.take_add_one]
        simp [List.take_set, show o < cs.length by omega]
        rw [List.set_eq_of_length_le (by rw [List.length_take]; omega)]
      rw [e, List.append_assoc] at h2
      exact h2
  have := go vs 0 w cs h (by omega)
  simpa using this
theorem setCells_but (w : World) (b : Nat) (vs : List Value) : But b w (w.setCells b 0 vs) := by
  have go : ∀ (vs : List Value) (o : Nat) (u : World), But b w u → But b w (u.setCells b o vs) := by
    intro vs
    induction vs with
    | nil => intro o u h; exact h
    | cons v r ih =>
      intro o u h
      rw [World.setCells]
      exact ih (o + 1) _ (h.setCell o v)
  exact go vs 0 w (But.refl b w)
theorem sizeRecord : (Tryz.prog.info? 47).map (·.size) = some 16 := by kernel_rfl
/-- A whole record is stored into its box. -/
theorem wpList_store_rec {ops : Array Oper} {rest : List Oper} {o : Oper} {a : Act} {Q : Exit → Act → World → Prop} {w : World} (hgd : o.guard = none) (x y : Operand) (ho : o.op = .store 47 x y) (b : Nat) (vs : List Value)
    (hx : a.eval x = .pointer (some ⟨b, 0, none⟩)) (hy : a.eval y = .agg vs.toArray) {cs : List Value} (hb : Blk w b 47 cs) (hc : cs.length = 16) (hv : vs.length = 16) (h1 : vs.all (·.oneCell') = true)
    (h : ∀ w', Blk w' b 47 vs → But b w w' → wpList Tryz.prog ops Q rest (a.put o.dst undef) w') : wpList Tryz.prog ops Q (o :: rest) a w := by
  refine wpList_store_mid hgd _ x y ho b 0 vs.toArray hx hy ?_ (by rw [sizeRecord]; simp [hv]) (by simpa using h1) (h _ (setCells_blk hb vs (by omega)) (setCells_but w b vs))
  intro j hj
  have hj2 : j < cs.length := by
    have : vs.toArray.size = vs.length := by simp
    omega
  refine ⟨?_, by rw [Nat.zero_add]; exact hb.free j⟩
  rw [Nat.zero_add, hb.cell j hj2]
  rfl
theorem wpList_upon_append {P : Program} {ops : Array Oper} {rest : List Oper} {o : Oper} {a : Act} {Q : Exit → Act → World → Prop} {w w' : World} {s x : Operand} {t : TypeId} {v xv v' : Value} (hgd : o.guard = none)
    (ho : o.op = .call { callee := .builtin .append, args := #[s, x], argTypes := #[t, t] }) (hs : a.eval s = v) (hx : a.eval x = xv)
    (hr : (Builtin.append_ #[t, t] o.type #[v, xv]).run P w = .ok v' w') (h : wpList P ops Q rest (a.put o.dst v') w') : wpList P ops Q (o :: rest) a w := by
  refine wpList_plain hgd fun K hK => ?_
  unfold Oper.wp execOp
  simp only [ho, resolve, invoke, builtin, Sem.run_bind, Sem.run_pure, Result.andThen_ok, List.map_toArray, List.map_cons, List.map_nil, hs, hx, hr]
  exact hK _ _ h

theorem infoInt15 : (Tryz.prog.info? 3).map (fun i => (i.zero, i.size, i.bytes)) = some (some (.int .i64 0), 1, 8) := by kernel_rfl
/-- A list of numbers in a row of one's own. -/
def OwnI (N : Nat) (w : World) (v : Value) (l : List Int) : Prop := w.ownsRow N 3 1 v l.length (iCells l)
theorem irow_news {w : World} {v : Value} {l : List Int} (h : Ints w v l) (hl : 0 < l.length) : ∃ ad c, v = .slice (some ad) l.length c ∧ ∀ j u, (iCells l)[j]? = some u → w.cell? (ad.add j) = some u := by
  rcases h with ⟨h1, _⟩ | ⟨c, off, cap, h1, h2⟩
  · omega
  · refine ⟨_, _, h1, fun j u hj => ?_⟩
    obtain ⟨hj2, rfl⟩ := List.getElem?_eq_some_iff.1 hj
    have := h2 j hj2
    unfold Addr.add
    split
    · rename_i h0
      have h9 : j = 0 := by simpa using h0
      subst h9
      exact this
    · exact this
theorem iapp_run (ty : TypeId) (B : Nat) (xs ys : List Int) (v0 v : Value) (w : World) (h0 : OwnI B w v0 xs) (h : Ints w v ys) (hb : xs.length + ys.length ≤ 17592186044416) (hB : B ≤ w.heap.size) :
    ∃ v' w', (Builtin.append_ #[25, 25] ty #[v0, v]).run Tryz.prog w = .ok v' w' ∧ OwnI B w' v' (xs ++ ys) ∧ Below B w w' := by
  obtain ⟨iE, hiE, hzE0, hzE1, hzE2⟩ := info_parts infoInt15
  have below : ∀ {w' : World}, w.grownBy w' v0.ownBlock → Below B w w' := fun g => ⟨g.os, g.tape, g.output, g.size, fun k hk => g.block k (by omega) fun e => by
    have := (h0.lt _ e.symm).1
    omega⟩
  have some_case : ∀ (ad : Addr) (c : Nat), v = .slice (some ad) ys.length c → (∀ j u, (iCells ys)[j]? = some u → w.cell? (ad.add j) = some u) →
      ∃ v' w', (Builtin.append_ #[25, 25] ty #[v0, v]).run Tryz.prog w = .ok v' w' ∧ OwnI B w' v' (xs ++ ys) ∧ Below B w w' := by
    rintro ad c rfl hn
    obtain ⟨v', w', hr, h1, h2, _⟩ := run_append_own_at (P := Tryz.prog) w B 25 ty 3 iE _ 1 8 Tryz.underlying25 hiE hzE0 hzE1 hzE2 rfl (by decide) v0 xs.length (iCells xs) h0 ad ys.length c (iCells ys) (by simp [iCells]) hn (fun u hu => by obtain ⟨y, _, rfl⟩ := List.mem_map.1 hu; rfl) (by unfold maxLen; omega) (by omega) hB
    refine ⟨v', w', hr, ?_, below h2⟩
    unfold OwnI
    have e : iCells (xs ++ ys) = iCells xs ++ iCells ys := by simp [iCells]
    rw [e, List.length_append]
    exact h1
  by_cases hl : 0 < ys.length
  · obtain ⟨ad, c, hv, hn⟩ := irow_news h hl
    exact some_case ad c hv hn
  · have hy : ys = [] := List.eq_nil_of_length_eq_zero (by omega)
    subst hy
    obtain ⟨a, c, rfl⟩ := row_slice h
    cases a with
    | some ad => exact some_case ad c rfl (by simp [iCells])
    | none =>
      refine ⟨v0, w, ?_, by rw [List.append_nil]; exact h0, Below.refl _ _⟩
      rcases h0.2 with ⟨rfl, _⟩ | ⟨g, cap, cur, rfl, _, _, hnc, _⟩
      · simp [Builtin.append_, run_underlying Tryz.underlying25, sizeOf, typeInfo, hiE, Builtin.lenOf, Builtin.firstCells]
      · simp [Builtin.append_, run_underlying Tryz.underlying25, sizeOf, typeInfo, hiE, Builtin.lenOf, Builtin.firstCells, hnc, storeCells]
theorem wpList_iapp {ops : Array Oper} {rest : List Oper} {o : Oper} {a : Act} {Q : Exit → Act → World → Prop} {w : World} (hgd : o.guard = none) (s x : Operand)
    (ho : o.op = .call { callee := .builtin .append, args := #[s, x], argTypes := #[25, 25] }) (B : Nat) (xs ys : List Int) (v0 v : Value) (hs : a.eval s = v0) (hx : a.eval x = v)
    (h0 : OwnI B w v0 xs) (h : Ints w v ys) (hb : xs.length + ys.length ≤ 17592186044416) (hB : B ≤ w.heap.size)
    (hk : ∀ b c w', OwnI B w' (.slice b (xs ++ ys).length c) (xs ++ ys) → Below B w w' → wpList Tryz.prog ops Q rest (a.put o.dst (.slice b (xs ++ ys).length c)) w') : wpList Tryz.prog ops Q (o :: rest) a w := by
  obtain ⟨v', w', hr, h1, h2⟩ := iapp_run o.type B xs ys v0 v w h0 h hb hB
  obtain ⟨b, c, rfl⟩ := own_form h1
  exact wpList_upon_append hgd ho hs hx hr (hk b c w' h1 h2)
theorem underRec : Tryz.prog.underlying 47 = some (Tryz.prog.underlying 47).get! := by kernel_rfl
/-- A whole record is loaded from its box. -/
theorem wpList_load_rec {ops : Array Oper} {rest : List Oper} {o : Oper} {a : Act} {Q : Exit → Act → World → Prop} {w : World} (hgd : o.guard = none) (x : Operand) (ho : o.op = .load 47 x) (b : Nat)
    (hx : a.eval x = .pointer (some ⟨b, 0, none⟩)) {cs : List Value} (hb : Blk w b 47 cs) (hl : cs.length = 16)
    (h : wpList Tryz.prog ops Q rest (a.put o.dst (.agg cs.toArray)) w) : wpList Tryz.prog ops Q (o :: rest) a w := by
  refine wpList_load_mid hgd _ x ho b 0 hx cs _ ?_ underRec (by kernel_rfl) (by rw [sizeRecord, hl]) h
  intro j v hv
  obtain ⟨hj, rfl⟩ := List.getElem?_eq_some_iff.1 hv
  rw [Nat.zero_add, hb.cell j hj]

end Go.Proofs.YtikmkimkhngihaaGreat
