import Derived.Test.YtmhepfehcakmjaaGreatKLexm
import Derived.Test.YtmhepfehcakmjaaGreatKOwn2
import Derived.Deep.CutRange
import Derived.Deep.MidRow
namespace Go.Proofs.YtmhepfehcakmjaaGreat
open Go.RowKit
theorem recres {w : World} {b t : Nat} {v0 v1 v2 v3 v4 v5 v6 v7 v8 v9 v10 v11 v12 v13 v14 v15 : Value} (h : Blk w b t [v0, v1, v2, v3, v4, v5, v6, v7, v8, v9, v10, v11, v12, v13, v14, v15]) :
  (w.cell? ⟨b, 0, none⟩ = some v0 ∧ w.cell? ⟨b, 1, none⟩ = some v1 ∧ w.cell? ⟨b, 2, none⟩ = some v2 ∧ w.cell? ⟨b, 3, none⟩ = some v3 ∧ w.cell? ⟨b, 4, none⟩ = some v4 ∧ w.cell? ⟨b, 5, none⟩ = some v5 ∧ w.cell? ⟨b, 6, none⟩ = some v6 ∧ w.cell? ⟨b, 7, none⟩ = some v7 ∧
   w.cell? ⟨b, 8, none⟩ = some v8 ∧ w.cell? ⟨b, 9, none⟩ = some v9 ∧ w.cell? ⟨b, 10, none⟩ = some v10 ∧ w.cell? ⟨b, 11, none⟩ = some v11 ∧ w.cell? ⟨b, 12, none⟩ = some v12 ∧ w.cell? ⟨b, 13, none⟩ = some v13 ∧ w.cell? ⟨b, 14, none⟩ = some v14 ∧ w.cell? ⟨b, 15, none⟩ = some v15) ∧
  (∀ j, w.frozen? ⟨b, j, none⟩ = false) := by
 refine ⟨⟨?_, ?_, ?_, ?_, ?_, ?_, ?_, ?_, ?_, ?_, ?_, ?_, ?_, ?_, ?_, ?_⟩, fun j => h.free j⟩ <;> exact h.cell _ (by simp)
theorem setCells_blk {w : World} {b t : Nat} {cs : List Value} (h : Blk w b t cs) (vs : List Value) (hl : vs.length = cs.length) : Blk (w.setCells b 0 vs) b t vs := by
 have go : ∀ (vs : List Value) (o : Nat) (w : World) (cs : List Value), Blk w b t cs → o + vs.length = cs.length → Blk (w.setCells b o vs) b t (cs.take o ++ vs) := by
  intro vs
  induction vs with
  | nil =>
   intro o w cs h hl
   simp only [List.length_nil, Nat.add_zero] at hl
   rw [World.setCells, List.append_nil, hl, List.take_length]
   exact h
  | cons v r ih =>
   intro o w cs h hl
   rw [World.setCells]
   simp only [List.length_cons] at hl
   have h2 := ih (o + 1) _ _ (h.set o v) (by rw [List.length_set]; omega)
   have e : (cs.set o v).take (o + 1) = cs.take o ++ [v] := by
    rw [List.take_add_one]
    simp [List.take_set, show o < cs.length by omega]
    rw [List.set_eq_of_length_le (by rw [List.length_take]; omega)]
   rw [e, List.append_assoc] at h2
   exact h2
 have := go vs 0 w cs h (by omega)
 simpa using this
theorem setCells_but (w : World) (b : Nat) (vs : List Value) : But b w (w.setCells b 0 vs) := by
 have go : ∀ (vs : List Value) (o : Nat) (u : World), But b w u → But b w (u.setCells b o vs) := by
  intro vs
  induction vs with
  | nil => intro o u h; exact h
  | cons v r ih =>
   intro o u h
   rw [World.setCells]
   exact ih (o + 1) _ (h.setCell o v)
 exact go vs 0 w (But.refl b w)
theorem wpList_store_box {T n : Nat} (hT : (Tryz.prog.info? T).map (·.size) = some n) {ops : Array Oper} {rest : List Oper} {o : Oper} {a : Act} {Q : Exit → Act → World → Prop} {w : World} (hgd : o.guard = none) (x y : Operand) (ho : o.op = .store T x y) (b : Nat) (vs : List Value)
  (hx : a.eval x = .pointer (some ⟨b, 0, none⟩)) (hy : a.eval y = .agg vs.toArray) {cs : List Value} (hb : Blk w b T cs) (hc : cs.length = n) (hv : vs.length = n) (h1 : vs.all (·.oneCell') = true)
  (h : ∀ w', Blk w' b T vs → But b w w' → wpList Tryz.prog ops Q rest (a.put o.dst undef) w') : wpList Tryz.prog ops Q (o :: rest) a w := by
 refine wpList_store_mid hgd _ x y ho b 0 vs.toArray hx hy ?_ (by rw [hT]; simp [hv]) (by simpa using h1) (h _ (setCells_blk hb vs (by omega)) (setCells_but w b vs))
 intro j hj
 have hj2 : j < cs.length := by
  have : vs.toArray.size = vs.length := by simp
  omega
 refine ⟨?_, by rw [Nat.zero_add]; exact hb.free j⟩
 rw [Nat.zero_add, hb.cell j hj2]
 rfl
theorem wpList_load_box {T n : Nat} {d : TypeDesc} (hT : (Tryz.prog.info? T).map (·.size) = some n) (hu : Tryz.prog.underlying T = some d) (hd : d.isRow = true) {ops : Array Oper} {rest : List Oper} {o : Oper} {a : Act} {Q : Exit → Act → World → Prop} {w : World} (hgd : o.guard = none) (x : Operand) (ho : o.op = .load T x) (b : Nat)
  (hx : a.eval x = .pointer (some ⟨b, 0, none⟩)) {cs : List Value} (hb : Blk w b T cs) (hl : cs.length = n)
  (h : wpList Tryz.prog ops Q rest (a.put o.dst (.agg cs.toArray)) w) : wpList Tryz.prog ops Q (o :: rest) a w := by
 refine wpList_load_mid hgd _ x ho b 0 hx cs _ ?_ hu hd (by rw [hT, hl]) h
 intro j v hv
 obtain ⟨hj, rfl⟩ := List.getElem?_eq_some_iff.1 hv
 rw [Nat.zero_add, hb.cell j hj]
theorem sizeRecord : (Tryz.prog.info? 33).map (·.size) = some 16 := by kernel_rfl
theorem sizePage : (Tryz.prog.info? 24).map (·.size) = some 6 := by kernel_rfl
theorem sizeImage : (Tryz.prog.info? 44).map (·.size) = some 7 := by kernel_rfl
theorem underRec : Tryz.prog.underlying 33 = some (Tryz.prog.underlying 33).get! := by kernel_rfl
theorem underPg : Tryz.prog.underlying 24 = some (Tryz.prog.underlying 24).get! := by kernel_rfl
theorem underImg : Tryz.prog.underlying 44 = some (Tryz.prog.underlying 44).get! := by kernel_rfl
end Go.Proofs.YtmhepfehcakmjaaGreat
