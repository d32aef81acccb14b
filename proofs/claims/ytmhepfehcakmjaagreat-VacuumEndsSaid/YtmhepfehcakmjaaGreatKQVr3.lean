import Derived.Test.YtmhepfehcakmjaaGreatKQSame1
import Derived.Test.YtmhepfehcakmjaaGreatKQSame2
import Derived.Test.YtmhepfehcakmjaaGreatKRf2
import Derived.Deep.CutRange
import Derived.Deep.MidRow
import Derived.Maps.AppendAt
namespace Go.Proofs.YtmhepfehcakmjaaGreat.Vac
open Go.RowKit
theorem owns_but {w w' : World} {b e s n c : Nat} {v : Value} {xs : List Value} (h : w.ownsRow b e s v n xs) (k : But c w w') (hc : v.ownBlock ≠ some c) : w'.ownsRow b e s v n xs :=
 h.kept (row := some c) ⟨k.os, k.tape, k.output, k.size, fun i hi hne => k.block i hi (by simpa using hne)⟩ (by cases hv : v.ownBlock with
  | none => exact .inl rfl
  | some g => exact .inr (by rw [hv] at hc; exact hc))
theorem recres {w : World} {b t : Nat} {v0 v1 v2 v3 v4 v5 v6 v7 v8 v9 v10 v11 v12 v13 v14 v15 : Value} (h : Blk w b t [v0, v1, v2, v3, v4, v5, v6, v7, v8, v9, v10, v11, v12, v13, v14, v15]) :
  (w.cell? ⟨b, 0, none⟩ = some v0 ∧ w.cell? ⟨b, 1, none⟩ = some v1 ∧ w.cell? ⟨b, 2, none⟩ = some v2 ∧ w.cell? ⟨b, 3, none⟩ = some v3 ∧ w.cell? ⟨b, 4, none⟩ = some v4 ∧ w.cell? ⟨b, 5, none⟩ = some v5 ∧ w.cell? ⟨b, 6, none⟩ = some v6 ∧ w.cell? ⟨b, 7, none⟩ = some v7 ∧
   w.cell? ⟨b, 8, none⟩ = some v8 ∧ w.cell? ⟨b, 9, none⟩ = some v9 ∧ w.cell? ⟨b, 10, none⟩ = some v10 ∧ w.cell? ⟨b, 11, none⟩ = some v11 ∧ w.cell? ⟨b, 12, none⟩ = some v12 ∧ w.cell? ⟨b, 13, none⟩ = some v13 ∧ w.cell? ⟨b, 14, none⟩ = some v14 ∧ w.cell? ⟨b, 15, none⟩ = some v15) ∧
  (∀ j, w.frozen? ⟨b, j, none⟩ = false) := by
 refine ⟨⟨?_, ?_, ?_, ?_, ?_, ?_, ?_, ?_, ?_, ?_, ?_, ?_, ?_, ?_, ?_, ?_⟩, fun j => h.free j⟩ <;> exact h.cell _ (by simp)
theorem setCells_blk {w : World} {b t : Nat} {cs : List Value} (h : Blk w b t cs) (vs : List Value) (hl : vs.length = cs.length) : Blk (w.setCells b 0 vs) b t vs := by
 have go : ∀ (vs : List Value) (o : Nat) (w : World) (cs : List Value), Blk w b t cs → o + vs.length = cs.length → Blk (w.setCells b o vs) b t (cs.take o ++ vs) := by
  intro vs
  induction vs with
  | nil =>
   intro o w cs h hl
   simp only [List.length_nil, Nat.add_zero] at hl
   rw [World.setCells, List.append_nil, hl, List.take_length]
   exact h
  | cons v r ih =>
   intro o w cs h hl
   rw [World.setCells]
   simp only [List.length_cons] at hl
   have h2 := ih (o + 1) _ _ (h.set o v) (by rw [List.length_set]; omega)
   have e : (cs.set o v).take (o + 1) = cs.take o ++ [v] := by
    rw [List.take_add_one]
    simp [List.take_set, show o < cs.length by omega]
    rw [List.set_eq_of_length_le (by rw [List.length_take]; omega)]
   rw [e, List.append_assoc] at h2
   exact h2
 have := go vs 0 w cs h (by omega)
 simpa using this
theorem setCells_but (w : World) (b : Nat) (vs : List Value) : But b w (w.setCells b 0 vs) := by
 have go : ∀ (vs : List Value) (o : Nat) (u : World), But b w u → But b w (u.setCells b o vs) := by
  intro vs
  induction vs with
  | nil => intro o u h; exact h
  | cons v r ih =>
   intro o u h
   rw [World.setCells]
   exact ih (o + 1) _ (h.setCell o v)
 exact go vs 0 w (But.refl b w)
theorem sizeRecord : (Tryz.prog.info? 33).map (·.size) = some 16 := by kernel_rfl
theorem wpList_store_rec {ops : Array Oper} {rest : List Oper} {o : Oper} {a : Act} {Q : Exit → Act → World → Prop} {w : World} (hgd : o.guard = none) (x y : Operand) (ho : o.op = .store 33 x y) (b : Nat) (vs : List Value)
  (hx : a.eval x = .pointer (some ⟨b, 0, none⟩)) (hy : a.eval y = .agg vs.toArray) {cs : List Value} (hb : Blk w b 33 cs) (hc : cs.length = 16) (hv : vs.length = 16) (h1 : vs.all (·.oneCell') = true)
  (h : ∀ w', Blk w' b 33 vs → But b w w' → wpList Tryz.prog ops Q rest (a.put o.dst undef) w') : wpList Tryz.prog ops Q (o :: rest) a w := by
 refine wpList_store_mid hgd _ x y ho b 0 vs.toArray hx hy ?_ (by rw [sizeRecord]; simp [hv]) (by simpa using h1) (h _ (setCells_blk hb vs (by omega)) (setCells_but w b vs))
 intro j hj
 have hj2 : j < cs.length := by
  have : vs.toArray.size = vs.length := by simp
  omega
 refine ⟨?_, by rw [Nat.zero_add]; exact hb.free j⟩
 rw [Nat.zero_add, hb.cell j hj2]
 rfl
def OwnI (N : Nat) (w : World) (v : Value) (l : List Int) : Prop := w.ownsRow N 3 1 v l.length (iCells l)
theorem underRec : Tryz.prog.underlying 33 = some (Tryz.prog.underlying 33).get! := by kernel_rfl
end Go.Proofs.YtmhepfehcakmjaaGreat.Vac
namespace Go.Proofs.YtmhepfehcakmjaaGreat.Vac
open Go.RowKit
def recR (k p : Int) (sv mv : Value) : Value := .agg #[.int .i64 0, .int .i64 0, .int .i64 0, .int .u8 k, .int .i64 0, .int .i64 p, .int .i64 0, .int .i64 0, .int .i64 0, .int .i64 0, .string ⟨#[]⟩, sv, mv, .slice none 0 0, .slice none 0 0, .slice none 0 0]
def recRC (k p : Int) (sv mv : Value) : List Value := [.int .i64 0, .int .i64 0, .int .i64 0, .int .u8 k, .int .i64 0, .int .i64 p, .int .i64 0, .int .i64 0, .int .i64 0, .int .i64 0, .string ⟨#[]⟩, sv, mv, .slice none 0 0, .slice none 0 0, .slice none 0 0]
def RecPost (k p : Int) (B : Bool) (S M : List Int) (w : World) (e : Ending) (w' : World) : Prop :=
 ∃ sv mv, e = .returned (.tuple #[recR k p sv mv, .bool B]) ∧ RowS w' 3 sv S.length (iCells S) ∧ RowS w' 3 mv M.length (iCells M) ∧ Below w.heap.size w w'
theorem wk_new (fv ov gv : Value) (w_ w0 : World) (h : w0 = (w_.alloc (.cells #[fv, ov, gv] 72)).alloc (.cells #[.int .i64 0, .int .i64 0, .int .i64 0, .int .u8 0, .int .i64 0, .int .i64 0, .int .i64 0, .int .i64 0, .int .i64 0, .int .i64 0, .string ⟨#[]⟩, .slice none 0 0, .slice none 0 0, .slice none 0 0, .slice none 0 0, .slice none 0 0] 33)) :
  Grow w_ w0 ∧ Blk w0 w_.heap.size 72 [fv, ov, gv] ∧ Blk w0 (w_.heap.size + 1) 33 [.int .i64 0, .int .i64 0, .int .i64 0, .int .u8 0, .int .i64 0, .int .i64 0, .int .i64 0, .int .i64 0, .int .i64 0, .int .i64 0, .string ⟨#[]⟩, .slice none 0 0, .slice none 0 0, .slice none 0 0, .slice none 0 0, .slice none 0 0] ∧ w0.heap.size = w_.heap.size + 2 := by
 subst h
 refine ⟨((Grow.refl w_).alloc _).alloc _, (Blk.new w_ 72 [fv, ov, gv]).alloc _, ?_, by simp⟩
 have := Blk.new (w_.alloc (.cells #[fv, ov, gv] 72)) 33 [.int .i64 0, .int .i64 0, .int .i64 0, .int .u8 0, .int .i64 0, .int .i64 0, .int .i64 0, .int .i64 0, .int .i64 0, .int .i64 0, .string ⟨#[]⟩, .slice none 0 0, .slice none 0 0, .slice none 0 0, .slice none 0 0, .slice none 0 0]
 have e : (w_.alloc (.cells #[fv, ov, gv] 72)).heap.size = w_.heap.size + 1 := by simp
 rw [e] at this
 exact this
theorem frz_res (tm : Array Value) (w : World) (b : Nat) (K P : Int) (sv mv : Value) (B : Bool) (h4 : tm.getD 4 undef = .pointer (some ⟨b, 0, none⟩)) (h5 : tm.getD 5 undef = .bool B) (hB : Blk w b 33 (recRC K P sv mv)) :
  (results Tryz.f21 tm).run Tryz.prog w = .ok (.tuple #[recR K P sv mv, .bool B]) w := by
 unfold recRC at hB
 obtain ⟨⟨s0_, s1_, s2_, s3_, s4_, s5_, s6_, s7_, s8_, s9_, s10_, s11_, s12_, s13_, s14_, s15_⟩, _⟩ := recres hB
 simp only [Array.getD_eq_getD_getElem?] at h4 h5
 simp [results, Tryz.results21, go_sem, h4, h5, s0_, s1_, s2_, s3_, s4_, s5_, s6_, s7_, s8_, s9_, s10_, s11_, s12_, s13_, s14_, s15_, recR]
theorem cln_res (tm : Array Value) (w : World) (b : Nat) (K P : Int) (sv mv : Value) (B : Bool) (h4 : tm.getD 4 undef = .pointer (some ⟨b, 0, none⟩)) (h5 : tm.getD 5 undef = .bool B) (hB : Blk w b 33 (recRC K P sv mv)) :
  (results Tryz.f22 tm).run Tryz.prog w = .ok (.tuple #[recR K P sv mv, .bool B]) w := by
 unfold recRC at hB
 obtain ⟨⟨s0_, s1_, s2_, s3_, s4_, s5_, s6_, s7_, s8_, s9_, s10_, s11_, s12_, s13_, s14_, s15_⟩, _⟩ := recres hB
 simp only [Array.getD_eq_getD_getElem?] at h4 h5
 simp [results, Tryz.results22, go_sem, h4, h5, s0_, s1_, s2_, s3_, s4_, s5_, s6_, s7_, s8_, s9_, s10_, s11_, s12_, s13_, s14_, s15_, recR]
end Go.Proofs.YtmhepfehcakmjaaGreat.Vac
namespace Go.Proofs.YtmhepfehcakmjaaGreat.Vac
open Go.RowKit
theorem rowS_rec {w w' : World} {b n : Nat} {v : Value} {cs cs' : List Value} (h : RowS w 3 v n cs) (hb : Blk w b 33 cs') (k : But b w w') : RowS w' 3 v n cs := by
 refine RowS.but h k ?_
 intro blk f e
 unfold Blk at hb
 rw [hb] at e
 simp at e
end Go.Proofs.YtmhepfehcakmjaaGreat.Vac
