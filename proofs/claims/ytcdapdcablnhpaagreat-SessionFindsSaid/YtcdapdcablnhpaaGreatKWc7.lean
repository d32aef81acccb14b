import Derived.Test.YtcdapdcablnhpaaGreatKWc6
import Derived.Test.YtcdapdcablnhpaaGreatKRf5
import Derived.Test.YtcdapdcablnhpaaGreatKRd2
import Derived.Test.YtcdapdcablnhpaaGreatKCg9
namespace Go.Proofs.YtcdapdcablnhpaaGreat
open Go.RowKit
def statN (l : List UInt8) (j : Nat) : Nat := (l.getD (j / 4) 0).toNat / 4 ^ (j % 4) % 4
def sts (l : List UInt8) (n : Nat) : List Value := (List.range n).map fun j => .int .u8 (statN l j)
theorem sts_succ (l : List UInt8) (n : Nat) : sts l (n + 1) = sts l n ++ [.int .u8 (statN l n)] := by simp [sts, List.range_succ]
@[simp] theorem sts_length (l : List UInt8) (n : Nat) : (sts l n).length = n := by simp [sts]
theorem pad_eq (M : Nat) (l : List UInt8) (hm : modB (M : Int) = true) (hl : (l.length : Int) = ((M : Int) + 3) / 4) :
  (∀ j, M <= j -> j < 4 * l.length -> statN l j = 0) ↔ ((M : Int) % 4 = 0 \/ ((l.getLast?.getD 0).toNat : Int) / 2 ^ (2 * ((M : Int) % 4)).toNat = 0) := by
 obtain ⟨hm1, hm2, hm3⟩ := modB_bd hm
 by_cases h4 : (M : Int) % 4 = 0
 ·constructor
  ·intro _; exact .inl h4
  ·intro _ j h1 h2; omega
 ·have h42 : (M : Int) % 4 = 2 := by omega
  have hlen : 4 * l.length = M + 2 := by omega
  have hc : ∀ j, j / 4 = l.length - 1 -> l.getD (j / 4) 0 = l.getLast?.getD 0 := by
   intro j hj; rw [hj, List.getLast?_eq_getElem?]; simp
  have e0 : statN l M = (l.getLast?.getD 0).toNat / 16 % 4 := by
   unfold statN; rw [hc M (by omega), show M % 4 = 2 by omega]
  have e1 : statN l (M + 1) = (l.getLast?.getD 0).toNat / 64 % 4 := by
   unfold statN; rw [hc (M + 1) (by omega), show (M + 1) % 4 = 3 by omega]
  have hlt := (l.getLast?.getD 0).toNat_lt;rw [h42];have ep : (2 : Int) ^ (2 * 2 : Int).toNat = 16 := by decide
  rw [ep];generalize (l.getLast?.getD 0).toNat = L at *
  constructor
  ·intro h
   right
   have h0 := h M (by omega) (by omega);have h1 := h (M + 1) (by omega) (by omega);omega
  ·rintro (h | h)
   ·omega
   ·intro j h1 h2;have : j = M \/ j = M + 1 := by omega
    rcases this with rfl | rfl
    ·omega
    ·omega
def TakPost (m : Int) (p : Pg) (w : World) (e : Ending) (w' : World) : Prop :=
 ∃ bv, e = .returned (.tuple #[.int .i64 (if openE m p = 0 then (openNum m p).1 else 0), bv, .int .i64 (openE m p)]) /\ Below w.heap.size w w' /\ (openE m p = 0 -> Row w' 33 bv m.toNat (sts (p.items.getD 1 []) m.toNat)) /\ (∃ a n c, bv = .slice a n c)
theorem takPost_bad {m : Int} {p : Pg} {w w' : World} {c : Int} (hE : openE m p = c) (hc : c ≠ 0) (hb : Below w.heap.size w w') : TakPost m p w (.returned (.tuple #[.int .i64 0, .slice none 0 0, .int .i64 c])) w' := by
 refine ⟨.slice none 0 0, ?_, hb, fun h => absurd (hE.symm.trans h) hc, ⟨_, _, _, rfl⟩⟩;rw [hE, if_neg hc]
theorem taken_mod (m : Int) (p : Pg) (iv : Value) (w : World) (h : modB m = false) : Calls Tryz.prog 193 #[.int .i64 m, pgV p iv] w (TakPost m p w) := by
 have hE : openE m p = 1 := by unfold openE; rw [h]; rfl
 have HE := keep hE;have hr := fun (u : World) => rright7_any m u
 rw [h] at hr;have HR := keep hr;clear hE hr;unfold pgV;go_enter Tryz.func193, Tryz.ntmps193;go_wp2_with fail;refine (HR.out _).mono ?_;rintro e w' ⟨rfl, rfl⟩;go_wp2_with fail;go_ret3;exact takPost_bad HE.out (by decide) ((Below.refl _ _).alloc (Nat.le_refl _) _)
end Go.Proofs.YtcdapdcablnhpaaGreat
