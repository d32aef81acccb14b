import Derived.Test.YtcdapdcablnhpaaGreatKRf2
import Derived.Test.YtcdapdcablnhpaaGreatKInv1
namespace Go.Proofs.YtcdapdcablnhpaaGreat
open Go.RowKit
theorem or3_zero (a b c : Int) : or3 a b c = 0 ↔ a = 0 /\ b = 0 /\ c = 0 := by
 unfold or3
 split
 ·constructor <;> intro h <;> simp_all
 ·split <;> constructor <;> intro h <;> simp_all
theorem cmpE_self (a : En) : cmpE a a = 0 := by
 rw [cmpE, or3_zero];exact ⟨cb_self _, by simp [Lib.compareInt], by simp [Lib.compareInt]⟩
theorem ci_zero {a b : Int} (h : Lib.compareInt a b = 0) : a = b := by
 unfold Lib.compareInt at h; split at h
 ·simp at h
 ·split at h
  ·simp at h
  ·omega
theorem ci_neg (a b : Int) : Lib.compareInt a b = -Lib.compareInt b a := by
 unfold Lib.compareInt
 by_cases h : a < b
 ·rw [if_pos h, if_neg (by omega), if_pos h]
 ·by_cases k : b < a
  ·rw [if_neg h, if_pos k, if_pos k]; rfl
  ·rw [if_neg h, if_neg k, if_neg k, if_neg h]; rfl
theorem ci_three (a b : Int) : Lib.compareInt a b = -1 \/ Lib.compareInt a b = 0 \/ Lib.compareInt a b = 1 := by
 unfold Lib.compareInt
 split
 ·exact .inl rfl
 ·split
  ·exact .inr (.inr rfl)
  ·exact .inr (.inl rfl)
theorem ci_lt {a b : Int} : Lib.compareInt a b = -1 ↔ a < b := by
 unfold Lib.compareInt
 by_cases h : a < b
 ·simp [h]
 ·rw [if_neg h]
  split <;> simp [h]
theorem cmpE_eq {a b : En} : cmpE a b = 0 ↔ a = b := by
 constructor
 ·intro h;obtain ⟨h1, h2, h3⟩ := (or3_zero _ _ _).1 h;exact Prod.ext (cb_zero h1) (Prod.ext (ci_zero h2) (ci_zero h3))
 ·rintro rfl; exact cmpE_self _
theorem cmpE_neg (a b : En) : cmpE a b = -cmpE b a := by
 unfold cmpE;rw [cb_neg a.1 b.1, ci_neg a.2.1 b.2.1, ci_neg a.2.2 b.2.2];generalize Lib.compareBytes b.1 a.1 = x;generalize Lib.compareInt b.2.1 a.2.1 = y;generalize Lib.compareInt b.2.2 a.2.2 = z;unfold or3
 by_cases hx : x = 0
 ·by_cases hy : y = 0
  ·simp [hx, hy]
  ·simp [hx, hy]
 ·simp [hx]
theorem cmpE_three (a b : En) : cmpE a b = -1 \/ cmpE a b = 0 \/ cmpE a b = 1 := by
 unfold cmpE or3
 split
 ·exact cb_three _ _
 ·split
  ·exact ci_three _ _
  ·exact ci_three _ _
theorem cmpE_lt {a b : En} : cmpE a b = -1 ↔ Lib.compareBytes a.1 b.1 = -1 \/ a.1 = b.1 /\ (a.2.1 < b.2.1 \/ a.2.1 = b.2.1 /\ a.2.2 < b.2.2) := by
 unfold cmpE or3
 by_cases h : Lib.compareBytes a.1 b.1 = 0
 ·have e := cb_zero h;rw [if_neg (by simp [h])]
  by_cases k : Lib.compareInt a.2.1 b.2.1 = 0
  ·have e2 := ci_zero k;rw [if_neg (by simp [k]), ci_lt]
   constructor
   ·intro g; exact .inr ⟨e, .inr ⟨e2, g⟩⟩
   ·rintro (g | ⟨_, g | g⟩)
    ·rw [h] at g; simp at g
    ·omega
    ·exact g.2
  ·rw [if_pos k, ci_lt];have e2 : a.2.1 ≠ b.2.1 := by intro e2; rw [e2] at k; simp [Lib.compareInt] at k
   constructor
   ·intro g; exact .inr ⟨e, .inl g⟩
   ·rintro (g | ⟨_, g | g⟩)
    ·rw [h] at g; simp at g
    ·exact g
    ·exact absurd g.1 e2
 ·rw [if_pos h];have e : a.1 ≠ b.1 := by intro e; rw [e] at h; exact h (cb_self _)
  constructor
  ·exact .inl
  ·rintro (g | g)
   ·exact g
   ·exact absurd g.1 e
theorem cmpE_trans {a b c : En} (h : cmpE a b = -1) (k : cmpE b c = -1) : cmpE a c = -1 := by
 rw [cmpE_lt] at h k ⊢;rcases h with h | ⟨h, h'⟩
 ·rcases k with k | ⟨k, _⟩
  ·exact .inl (cb_trans h k)
  ·exact .inl (k ▸ h)
 ·rcases k with k | ⟨k, k'⟩
  ·exact .inl (h ▸ k)
  ·exact .inr ⟨h.trans k, by omega⟩
theorem takes_of (e : En) (more : List Int) (h : enFine e) :
  takeK (enBytes e more) = (e.1, sevs [e.2.1, e.2.2] ++ sevs more, 0) /\ takeP (enBytes e more) = (e.2.1, sevs [e.2.2] ++ sevs more, 0) /\ takeS (enBytes e more) = (e.2.2, sevs more, 0) := by
 obtain ⟨h1, h2, h3⟩ := h;have a1 : takeK (enBytes e more) = (e.1, sevs [e.2.1, e.2.2] ++ sevs more, 0) := by
  unfold takeK enBytes txt;rw [List.append_assoc];exact rdTextS_sev 24 e.1 _ (by omega) (by omega)
 have a2 : takeP (enBytes e more) = (e.2.1, sevs [e.2.2] ++ sevs more, 0) := by
  unfold takeP;rw [a1];unfold rdNum2;rw [if_pos rfl];have := rdNumS_sev 65535 e.2.1.toNat (sevs [e.2.2] ++ sevs more) (by omega) (by omega);rw [Int.toNat_of_nonneg h2.1] at this;rw [<- this];simp [sevs]
 refine ⟨a1, a2, ?_⟩;unfold takeS;rw [a2];unfold rdNum2;rw [if_pos rfl];have := rdNumS_sev 65535 e.2.2.toNat (sevs more) (by omega) (by omega);rw [Int.toNat_of_nonneg h3.1] at this;rw [<- this];simp [sevs]
theorem decN_of {e : En} (h : enOk e = true) : decN (enBytes e []) = (e, 0) := by
 obtain ⟨a1, a2, a3⟩ := takes_of e [] (enOk_fine h);unfold decN decOkN partE;rw [a1, a2, a3];have : enOk (e.1, e.2.1, e.2.2) = true := h;simp [endE, sevs, this]
theorem endE_zero {x : List UInt8 × Int} (h : endE x = 0) : x.2 = 0 /\ x.1 = [] := by
 unfold endE at h
 split at h
 ·cases h
 ·rename_i h1
  refine ⟨h, ?_⟩;rcases Nat.eq_zero_or_pos x.1.length with h2 | h2
  ·exact List.length_eq_zero_iff.1 h2
  ·exact absurd ⟨h, h2⟩ h1
attribute [local simp] eql_entry
attribute [local go_sem] guard_entry
theorem bless_cb : ∀ a b : List UInt8, Op.bytesLess a b = decide (Lib.compareBytes a b = -1)
 | [], [] => by simp [Op.bytesLess, Lib.compareBytes]
 | _ :: _, [] => by simp [Op.bytesLess, Lib.compareBytes]
 | [], _ :: _ => by simp [Op.bytesLess, Lib.compareBytes]
 | a :: x, b :: y => by
  rw [Op.bytesLess, bless_cb x y, Lib.compareBytes]
  by_cases h1 : a < b
  ·simp [h1]
  ·by_cases h2 : b < a
   ·have h3 : ¬ a = b := by rintro rfl; exact h1 h2
    simp [h1, h2, h3]
   ·have h3 : a = b := UInt8.le_antisymm (UInt8.not_lt.1 h2) (UInt8.not_lt.1 h1);simp [h3]
end Go.Proofs.YtcdapdcablnhpaaGreat
