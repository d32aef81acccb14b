import Derived.Test.YtigbgodbalpgdaaGreatKNf2
import Derived.Test.YtigbgodbalpgdaaGreatKRf2
import Derived.BigQuiet
/- node.Check, node.Kids; the document's SameInts. -/
namespace Go.Proofs.YtigbgodbalpgdaaGreat
open Go.RowKit

def ChkPost (P : Pg) (w : World) (x : Ending) (w' : World) : Prop := x = .returned (.int .i64 (if openOk P then 0 else 140)) ∧ Below w.heap.size w w'
theorem chk_no {P : Pg} {w w' : World} {x : Ending} (h : openOk P = false) (hx : x = .returned (.int .i64 140)) (hb : Below w.heap.size w w') : ChkPost P w x w' := ⟨by rw [hx, h]; rfl, hb⟩
theorem chk_yes {P : Pg} {w w' : World} {x : Ending} (h : openOk P = true) (hx : x = .returned (.int .i64 0)) (hb : Below w.heap.size w w') : ChkPost P w x w' := ⟨by rw [hx, h]; rfl, hb⟩
/-- An inner node's separators and children, and what is wrong. -/
def kidsOk (P : Pg) : Bool := openOk P && !decide (P.level = 0)
def KidsPost (P : Pg) (w : World) (x : Ending) (w' : World) : Prop :=
  (if kidsOk P then ∃ a c a2 c2, x = .returned (.tuple #[.slice a (ensN P).length c, .slice a2 (kidsN P).length c2, .int .i64 0]) ∧ EnsS w' (.slice a (ensN P).length c) (ensN P) ∧ IntsS w' (.slice a2 (kidsN P).length c2) (kidsN P)
    else x = .returned (.tuple #[.slice none 0 0, .slice none 0 0, .int .i64 140])) ∧ Below w.heap.size w w'
theorem rowS_form {w : World} {t n1 c1 n : Nat} {a1 : Option Addr} {cs : List Value} (h : RowS w t (.slice a1 n1 c1) n cs) : n1 = n := by
  rcases h with ⟨h0, _, a, cap, h⟩ | ⟨c, off, cap, blk, f, h, _⟩
  · simp only [Value.slice.injEq] at h; omega
  · simp only [Value.slice.injEq] at h; exact h.2.1

end Go.Proofs.YtigbgodbalpgdaaGreat
