import Derived.Test.YtaninphcgeaepaaKFt4
import Derived.Deep.DeepAppendWide
import Derived.Laws.AppendOwnNone
namespace Go.Proofs.Ytaninphcgeaepaa
open Go.RowKit
theorem infoPageF : (Try.prog.info? 27).map (fun i => (i.zero, i.size, i.bytes)) = some (some (.agg #[.int .i64 0, .int .i64 0, .int .i64 0, .int .i64 0, .string ⟨#[]⟩, .slice none 0 0]), 6, 72) := by kernel_rfl
theorem frS_zero (D : Fr) : frS (D ++ [(zeroP, .slice none 0 0)]) = frS D ++ [.int .i64 0, .int .i64 0, .int .i64 0, .int .i64 0, .string ⟨#[]⟩, .slice none 0 0] := by
 rw [frS_append]
 rfl
theorem but_grown {w w' : World} {b e s n : Nat} {v : Value} {xs : List Value} (hr : w.ownsRow b e s v n xs) (hg : w.grownBy w' v.ownBlock) : Below w.heap.size w w' ∨ ∃ g cs, But g w w' ∧ Blk w g e cs ∧ b ≤ g := by
 rcases hr.2 with ⟨rfl, _⟩ | ⟨g, cap, cur, rfl, hb, hh, _⟩
 ·exact .inl ⟨hg.os, hg.tape, hg.output, hg.size, fun k hk => hg.block k hk (by simp [Value.ownBlock])⟩
 ·exact .inr ⟨g, cur.toList, ⟨hg.os, hg.tape, hg.output, hg.size, fun k hk hne => hg.block k hk (by simpa [Value.ownBlock] using hne)⟩, by unfold Blk; simpa using hh, hb⟩
theorem ForT.push {bs fr : Nat} {w w' : World} {D : Fr} {v v' : Value} (h : ForT bs w fr D) (hv : Blk w fr 31 [v]) (ho : w.ownsRow bs 27 6 v D.length (frS D))
  (ho' : w'.ownsRow bs 27 6 v' (D.length + 1) (frS D ++ [.int .i64 0, .int .i64 0, .int .i64 0, .int .i64 0, .string ⟨#[]⟩, .slice none 0 0])) (hg : w.grownBy w' v.ownBlock) :
  ForT bs (w'.setCell ⟨fr, 0, none⟩ v') fr (D ++ [(zeroP, .slice none 0 0)]) ∧ (bs ≤ w.heap.size → Fel bs w (w'.setCell ⟨fr, 0, none⟩ v')) := by
 have hv' : Blk w' fr 31 [v] := by
  have := hv.lt
  unfold Blk at *
  rw [hg.block fr this (fun e => own_ne_blk ho hv (by decide) e.symm)]
  exact hv
 have hs := hv'.set 0 v'
 have k1 := (But.refl fr w').setCell 0 v'
 refine ⟨⟨h.low, ⟨v', hs, ?_⟩, fun p hp => ?_⟩, fun hb => ?_⟩
 ·rw [List.length_append, frS_zero]
  exact owns_but ho' k1 (own_ne_blk ho' hv' (by decide))
 ·rcases List.mem_append.1 hp with hp | hp
  ·refine ⟨itemsC_but ?_ k1 hv' (by decide), (h.items p hp).2⟩
   rcases but_grown ho hg with hb | ⟨g, cs, k, hB, _⟩
   ·exact (h.items p hp).1.fits hb
   ·exact itemsC_but (h.items p hp).1 k hB (by decide)
  ·have e : p = (zeroP, .slice none 0 0) := by simpa using hp
   subst e
   exact ⟨ItemsC.nil _, fun x hx => by simp [zeroP] at hx, by decide, by decide, by decide⟩
 ·have h1 : Fel bs w w' := by
   rcases but_grown ho hg with hb2 | ⟨g, cs, k, hB, hbg⟩
   ·exact Fel.of_grow hb hb2
   ·exact Fel.but k hB (.inr rfl) hbg hb
  exact h1.trans (Fel.but k1 hv' (.inl rfl) h.low (Nat.le_trans hb h1.low.size))
def putF (D : Fr) (x : Im) : Fr := if x.1.toNat < D.length then D.set x.1.toNat x.2 else D ++ [x.2]
def FitT : Fr → List Im → Prop
 | _, [] => True
 | D, x :: T => 1 ≤ x.1 ∧ x.1 ≤ D.length ∧ FitT (putF D x) T
theorem fitT_at {D : Fr} {T : List Im} (h : FitT D T) {k : Nat} (hk : k < T.length) : 1 ≤ T[k].1 ∧ T[k].1 ≤ ((T.take k).foldl putF D).length := by
 induction T generalizing D k with
 | nil => simp at hk
 | cons x r ih =>
  cases k with
  | zero => exact ⟨h.1, h.2.1⟩
  | succ k => exact ih h.2.2 (by simpa using hk)
theorem putF_push {D : Fr} {x : Im} (h : ¬ x.1.toNat < D.length) (h2 : x.1 ≤ D.length) : putF D x = (D ++ [((zeroP, Value.slice none 0 0) : Pg × Value)]).set x.1.toNat x.2 := by
 unfold putF
 rw [if_neg h, show x.1.toNat = D.length by omega, List.set_append_right _ _ (Nat.le_refl _)]
 simp
theorem fold_step (D : Fr) (T : List Im) (k : Nat) (hk : k < T.length) : (T.take (k + 1)).foldl putF D = putF ((T.take k).foldl putF D) T[k] := by
 rw [List.take_succ_eq_append_getElem hk, List.foldl_append]
 rfl
end Go.Proofs.Ytaninphcgeaepaa
