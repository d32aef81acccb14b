import Derived.Test.YtaninphcgeaepaaGreatKRl1
import Derived.Test.YtaninphcgeaepaaGreatKGr2
import Derived.Test.YtaninphcgeaepaaGreatKAw1
import Derived.Deep.CutRange
import Derived.Test.YtaninphcgeaepaaGreatKPt1
import Derived.Maps.AppendAt
/- almonrylaw14.NodeRemoves. -/
namespace Go.Proofs.YtaninphcgeaepaaGreat
open Go.RowKit
attribute [local go_sem] givesF_none givesF_some evalF_tmp evalF_const evalF_global evalF_func lookL isB_bool isB_undef givesUpon_value givesUpon_skip givesUpon_enter

attribute [local go_sem] guard_entry

theorem sameE_self (e : En) : sameE e e = true := by simp [sameE]

/-- An entry of a list in a world, and in those behind it. -/
theorem ens_at {w : World} {v : Value} {l : List En} (h : EnsS w v l) {m : Nat} (hm : m < l.length) : ∃ c off cap, v = .slice (some ⟨c, off, none⟩) l.length cap ∧ ∀ u, Grow w u → (u.cell? ⟨c, off + m * 3, none⟩ = some (.string (str l[m].1)) ∧ u.cell? ⟨c, off + m * 3 + 1, none⟩ = some (.int .i64 l[m].2.1) ∧ u.cell? ⟨c, off + m * 3 + 2, none⟩ = some (.int .i64 l[m].2.2)) := by
  obtain ⟨c, off, cap, e, hc⟩ := ens_cells h.weak (by omega)
  refine ⟨c, off, cap, e, fun u hu => ?_⟩
  have := hc m hm
  exact ⟨(Below.cell hu (World.block_lt_of_cell? w _ this.1)).trans this.1, (Below.cell hu (World.block_lt_of_cell? w _ this.2.1)).trans this.2.1, (Below.cell hu (World.block_lt_of_cell? w _ this.2.2)).trans this.2.2⟩

attribute [local simp] neq_entry sameE_self
end Go.Proofs.YtaninphcgeaepaaGreat

/- almonrylaw14.entries: a list is the same as itself, wherever it lies. -/
namespace Go.Proofs.YtaninphcgeaepaaGreat
open Go.RowKit
attribute [local go_sem] givesF_none givesF_some evalF_tmp evalF_const evalF_global evalF_func lookL isB_bool isB_undef givesUpon_value givesUpon_skip givesUpon_enter

theorem en_at {w : World} {v : Value} {l : List En} (h : Row w 41 v l.length (eCells l)) {m : Nat} (hm : m < l.length) : ∃ c off cap, v = .slice (some ⟨c, off, none⟩) l.length cap ∧ ∀ u, Grow w u → (u.cell? ⟨c, off + m * 3, none⟩ = some (.string (str l[m].1)) ∧ u.cell? ⟨c, off + m * 3 + 1, none⟩ = some (.int .i64 l[m].2.1) ∧ u.cell? ⟨c, off + m * 3 + 2, none⟩ = some (.int .i64 l[m].2.2)) := by
  obtain ⟨c, off, cap, e, hc⟩ := ens_cells h (by omega)
  refine ⟨c, off, cap, e, fun u hu => ?_⟩
  have := hc m hm
  exact ⟨(Below.cell hu (World.block_lt_of_cell? w _ this.1)).trans this.1, (Below.cell hu (World.block_lt_of_cell? w _ this.2.1)).trans this.2.1, (Below.cell hu (World.block_lt_of_cell? w _ this.2.2)).trans this.2.2⟩
theorem en_form {w : World} {v : Value} {l : List En} (h : Row w 41 v l.length (eCells l)) : ∃ a cap, v = .slice a l.length cap := by
  rcases h with ⟨h1, _, a, cap, h2⟩ | ⟨c, off, cap, h1, _⟩
  · exact ⟨a, cap, by rw [h2, h1]⟩
  · exact ⟨_, _, h1⟩

attribute [local simp] neq_entry sameE_self
attribute [local go_sem] guard_entry
end Go.Proofs.YtaninphcgeaepaaGreat

/- The builtin append of lists of entries: what grows, and what may lie in its own row. -/
namespace Go.Proofs.YtaninphcgeaepaaGreat
open Go.RowKit

theorem upon_append {P : Program} {f : Tmp → Value} {o : Oper} {K : Value → World → Prop} {w w' : World} {s x : Operand} {t : TypeId} {v xv v' : Value}
    (ho : o.op = .call { callee := .builtin .append, args := #[s, x], argTypes := #[t, t] }) (hs : evalF f s = v) (hx : evalF f x = xv)
    (hr : (Builtin.append_ #[t, t] o.type #[v, xv]).run P w = .ok v' w') (h : K v' w') : givesUpon P K ((execOp (evalF f) o).run P w) := by
  unfold execOp
  simp only [ho, resolve, invoke, builtin, Sem.run_bind, Sem.run_pure, Result.andThen_ok, List.map_toArray, List.map_cons, List.map_nil, hs, hx, hr]
  exact h
theorem wpList_upon_append {P : Program} {ops : Array Oper} {rest : List Oper} {o : Oper} {a : Act} {Q : Exit → Act → World → Prop} {w w' : World} {s x : Operand} {t : TypeId} {v xv v' : Value} (hgd : o.guard = none)
    (ho : o.op = .call { callee := .builtin .append, args := #[s, x], argTypes := #[t, t] }) (hs : a.eval s = v) (hx : a.eval x = xv)
    (hr : (Builtin.append_ #[t, t] o.type #[v, xv]).run P w = .ok v' w') (h : wpList P ops Q rest (a.put o.dst v') w') : wpList P ops Q (o :: rest) a w := by
  refine wpList_plain hgd fun K hK => ?_
  unfold Oper.wp execOp
  simp only [ho, resolve, invoke, builtin, Sem.run_bind, Sem.run_pure, Result.andThen_ok, List.map_toArray, List.map_cons, List.map_nil, hs, hx, hr]
  exact hK _ _ h
theorem eC_one {v : Value} {l : List En} (h : v ∈ eCells l) : v.oneCell' = true := by
  unfold eCells at h
  obtain ⟨e, _, he⟩ := List.mem_flatMap.1 h
  unfold enC at he
  simp at he
  rcases he with rfl | rfl | rfl <;> rfl
theorem row_news {w : World} {v : Value} {l : List En} (h : Row w 41 v l.length (eCells l)) (hl : 0 < l.length) : ∃ ad c, v = .slice (some ad) l.length c ∧ ∀ j u, (eCells l)[j]? = some u → w.cell? (ad.add j) = some u := by
  rcases h with ⟨h1, _⟩ | ⟨c, off, cap, h1, h2⟩
  · omega
  · refine ⟨_, _, h1, fun j u hj => ?_⟩
    obtain ⟨hj2, rfl⟩ := List.getElem?_eq_some_iff.1 hj
    have := h2 j hj2
    unfold Addr.add
    split
    · rename_i h0
      have h9 : j = 0 := by simpa using h0
      subst h9
      exact this
    · exact this
/-- A list behind what has no room. -/
theorem append_grows (ty : TypeId) (l0 l : List En) (b : Nat) (v : Value) (w : World) (h0 : ∀ j u, (eCells l0)[j]? = some u → w.cell? ((⟨b, 0, none⟩ : Addr).add j) = some u) (h : Row w 41 v l.length (eCells l)) (hl : 0 < l.length)
    (hb : ((l0.length + l.length : Nat) : Int) ≤ 4398046510976) :
    ∃ v' w', (Builtin.append_ #[52, 52] ty #[.slice (some ⟨b, 0, none⟩) l0.length l0.length, v]).run Tryz.prog w = .ok v' w' ∧ w'.ownsRow w.heap.size 41 3 v' (l0.length + l.length) (eCells (l0 ++ l)) ∧ Grow w w' := by
  obtain ⟨iE, hiE, hzE0, hzE1, hzE2⟩ := info_parts infoEntryO
  obtain ⟨ad, c, rfl, hn⟩ := row_news h hl
  have hb' : l0.length + l.length ≤ 4398046510976 := by omega
  have hr := run_append_grow (P := Tryz.prog) w 52 ty 41 iE _ Tryz.underlying52 hiE hzE0 ⟨b, 0, none⟩ l0.length l0.length (eCells l0) (by rw [hzE1, eCells_length]; omega) h0 ad l.length c (eCells l) (by rw [hzE1, eCells_length]; omega) hn (by omega) (by omega) (growslice_fits (by omega) (by rw [hzE2]; omega))
  refine ⟨_, _, hr, ?_, Grow.alloc (Grow.refl w.drew).undrew _⟩
  have hge := grownCap_ge w (l0.length + l.length) l0.length 41
  have hcm : grownCap w (l0.length + l.length) l0.length 41 ≤ maxLen := grownCap_le_maxLen w _ _ _ (by unfold maxLen; omega)
  refine ⟨by rw [eCells_length, List.length_append]; omega, .inr ⟨w.heap.size, _, _, rfl, Nat.le_refl _, heap_alloc_new w.drew _, hge, hcm, ?_, ?_⟩⟩
  · have hz3 : (Value.agg #[.string ⟨#[]⟩, .int .i64 0, .int .i64 0]).cells.size = 3 := rfl
    simp only [Array.size_append, List.size_toArray, size_zeroCells, hz3, eCells_length]
    omega
  · simp only [Array.toList_append, List.append_assoc]
    rw [← List.append_assoc, ← eCells_append]
    have : (l0.length + l.length) * 3 = (eCells (l0 ++ l)).length := by rw [eCells_length, List.length_append]; omega
    rw [this]
    exact List.take_left
/-- At the operation. -/
theorem wpList_append_grows {ops : Array Oper} {rest : List Oper} {o : Oper} {a : Act} {Q : Exit → Act → World → Prop} {w : World} (hgd : o.guard = none) (s x : Operand)
    (ho : o.op = .call { callee := .builtin .append, args := #[s, x], argTypes := #[52, 52] }) (l0 l : List En) (b : Nat) (v : Value) (hs : a.eval s = .slice (some ⟨b, 0, none⟩) l0.length l0.length) (hx : a.eval x = v)
    (h0 : ∀ j u, (eCells l0)[j]? = some u → w.cell? ((⟨b, 0, none⟩ : Addr).add j) = some u) (h : Row w 41 v l.length (eCells l)) (hl : 0 < l.length) (hb : ((l0.length + l.length : Nat) : Int) ≤ 4398046510976) {n : Nat} {l1 : List En} (hn : l0.length + l.length = n) (hl1 : l0 ++ l = l1)
    (hk : ∀ v' w', w'.ownsRow w.heap.size 41 3 v' n (eCells l1) → Grow w w' → wpList Tryz.prog ops Q rest (a.put o.dst v') w') : wpList Tryz.prog ops Q (o :: rest) a w := by
  obtain ⟨v', w', hr, h1, h2⟩ := append_grows o.type l0 l b v w h0 h hl hb
  subst hn hl1
  exact wpList_upon_append hgd ho hs hx hr (hk v' w' h1 h2)
/-- A list behind one of the region's own. -/
theorem append_more (ty : TypeId) (B : Nat) (l0 l : List En) (v0 v : Value) (w : World) (h0 : w.ownsRow B 41 3 v0 l0.length (eCells l0)) (h : Row w 41 v l.length (eCells l)) (hl : 0 < l.length)
    (hb : ((l0.length + l.length : Nat) : Int) ≤ 4398046510976) (hB : B ≤ w.heap.size) :
    ∃ v' w', (Builtin.append_ #[52, 52] ty #[v0, v]).run Tryz.prog w = .ok v' w' ∧ w'.ownsRow B 41 3 v' (l0.length + l.length) (eCells (l0 ++ l)) ∧ From B w w' := by
  obtain ⟨iE, hiE, hzE0, hzE1, hzE2⟩ := info_parts infoEntryO
  obtain ⟨ad, c, rfl, hn⟩ := row_news h hl
  have hb' : l0.length + l.length ≤ 4398046510976 := by omega
  obtain ⟨v', w', hr, h1, h2, _⟩ := run_append_own_at (P := Tryz.prog) w B 52 ty 41 iE _ 3 32 Tryz.underlying52 hiE hzE0 hzE1 hzE2 rfl (by decide) v0 l0.length (eCells l0) h0 ad l.length c (eCells l) (by rw [eCells_length]; omega) hn (fun u hu => eC_one hu) (by unfold maxLen; omega) (by omega) hB
  refine ⟨v', w', hr, by rw [eCells_append]; exact h1, h2.size, fun hB2 => ⟨h2.os, h2.tape, h2.output, h2.size, fun k hk => h2.block k (by omega) fun e => ?_⟩⟩
  rcases h0.2 with ⟨rfl, _⟩ | ⟨g, cap, cur, rfl, hg, _⟩
  · simp [Value.ownBlock] at e
  · simp [Value.ownBlock] at e
    omega
theorem owned_row {w : World} {B : Nat} {v : Value} {l : List En} {n : Nat} (hn : n = l.length) (h : w.ownsRow B 41 3 v n (eCells l)) : Row w 41 v l.length (eCells l) := by
  subst hn
  exact (own_rowO h).weak

/-- Under the law with an operation that changes others' memory: of another one something is known that lasts. -/
theorem lexm_says {P : Program} {ops : Array Oper} {a0 : Act} {w0 : World} {m : Nat} {late : Nat → Bool} {Ext : World → World → Prop} {F : List (Value → World → Prop) → Prop} {i : Nat} {o : Oper} {rest : List Oper} {Ts Us : List (Value → World → Prop)}
    {n : Nat} (hn : a0.tmps.size = n) (T : Value → World → Prop) (hT : ∀ v w w', Grow w w' → T v w → T v w') (hTe : ∀ v w w', Ext w w' → T v w → T v w') (ps : List (Nat × Bool)) (l : List (Tmp × Nat)) (g : Option (Tmp × Bool)) (hb : boundsF n l g = true) (hg : guardAt ops o = some g)
    (h1 : (ps.all fun x => (preds o).contains x.1 && (dstAt ops x.1).isSome == x.2 && decide (x.1 < i)) = true) (h2 : places ops i = l) (h3 : o.dst.isSome = true) (him : i ≠ m)
    (hstep : ∀ (xs : Nat → Value) (w : World), Ext w0 w → holdsL Ts xs w ps → ∀ K : Value → World → Prop, (∀ v w', T v w' → Grow w w' → K v w') → givesF P o g (fun s => lookL xs s (slot a0 s) l) w K)
    (hrest : lexAllM P ops a0 w0 m late Ext F (i + 1) rest (Ts ++ [T]) (Us ++ [T])) : lexAllM P ops a0 w0 m late Ext F i (o :: rest) Ts Us :=
  ⟨T, T, hT, fun _ => hTe, hT, ⟨ps, l, true, h1, h2, h3, fun xs w hw hp _ K hK => gives_look hn hb hg (hstep xs w hw hp K fun v w' hv hx => hK v w' hv (fun e => absurd e him) fun _ => ⟨hv, hx⟩)⟩, hrest⟩

end Go.Proofs.YtaninphcgeaepaaGreat
