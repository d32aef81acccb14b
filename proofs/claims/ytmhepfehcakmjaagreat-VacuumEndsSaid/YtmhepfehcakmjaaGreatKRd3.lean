import Derived.Test.YtmhepfehcakmjaaGreatKRf2
import Derived.Test.YtmhepfehcakmjaaGreatKInv1
namespace Go.Proofs.YtmhepfehcakmjaaGreat
open Go.RowKit
theorem or3_zero (a b c : Int) : or3 a b c = 0 ↔ a = 0 ∧ b = 0 ∧ c = 0 := by
 unfold or3
 split
 ·constructor <;> intro h <;> simp_all
 ·split <;> constructor <;> intro h <;> simp_all
theorem cmpE_self (a : En) : cmpE a a = 0 := by
 rw [cmpE, or3_zero]
 exact ⟨cb_self _, by simp [Lib.compareInt], by simp [Lib.compareInt]⟩
theorem ci_zero {a b : Int} (h : Lib.compareInt a b = 0) : a = b := by
 unfold Lib.compareInt at h; split at h
 ·simp at h
 ·split at h
  ·simp at h
  ·omega
theorem ci_three (a b : Int) : Lib.compareInt a b = -1 ∨ Lib.compareInt a b = 0 ∨ Lib.compareInt a b = 1 := by
 unfold Lib.compareInt
 split
 ·exact .inl rfl
 ·split
  ·exact .inr (.inr rfl)
  ·exact .inr (.inl rfl)
theorem ci_lt {a b : Int} : Lib.compareInt a b = -1 ↔ a < b := by
 unfold Lib.compareInt
 by_cases h : a < b
 ·simp [h]
 ·rw [if_neg h]
  split <;> simp [h]
theorem cmpE_eq {a b : En} : cmpE a b = 0 ↔ a = b := by
 constructor
 ·intro h
  obtain ⟨h1, h2, h3⟩ := (or3_zero _ _ _).1 h
  exact Prod.ext (cb_zero h1) (Prod.ext (ci_zero h2) (ci_zero h3))
 ·rintro rfl; exact cmpE_self _
theorem cmpE_three (a b : En) : cmpE a b = -1 ∨ cmpE a b = 0 ∨ cmpE a b = 1 := by
 unfold cmpE or3
 split
 ·exact cb_three _ _
 ·split
  ·exact ci_three _ _
  ·exact ci_three _ _
theorem cmpE_lt {a b : En} : cmpE a b = -1 ↔ Lib.compareBytes a.1 b.1 = -1 ∨ a.1 = b.1 ∧ (a.2.1 < b.2.1 ∨ a.2.1 = b.2.1 ∧ a.2.2 < b.2.2) := by
 unfold cmpE or3
 by_cases h : Lib.compareBytes a.1 b.1 = 0
 ·have e := cb_zero h
  rw [if_neg (by simp [h])]
  by_cases k : Lib.compareInt a.2.1 b.2.1 = 0
  ·have e2 := ci_zero k
   rw [if_neg (by simp [k]), ci_lt]
   constructor
   ·intro g; exact .inr ⟨e, .inr ⟨e2, g⟩⟩
   ·rintro (g | ⟨_, g | g⟩)
    ·rw [h] at g; simp at g
    ·omega
    ·exact g.2
  ·rw [if_pos k, ci_lt]
   have e2 : a.2.1 ≠ b.2.1 := by intro e2; rw [e2] at k; simp [Lib.compareInt] at k
   constructor
   ·intro g; exact .inr ⟨e, .inl g⟩
   ·rintro (g | ⟨_, g | g⟩)
    ·rw [h] at g; simp at g
    ·exact g
    ·exact absurd g.1 e2
 ·rw [if_pos h]
  have e : a.1 ≠ b.1 := by intro e; rw [e] at h; exact h (cb_self _)
  constructor
  ·exact .inl
  ·rintro (g | g)
   ·exact g
   ·exact absurd g.1 e
theorem cmpE_trans {a b c : En} (h : cmpE a b = -1) (k : cmpE b c = -1) : cmpE a c = -1 := by
 rw [cmpE_lt] at h k ⊢
 rcases h with h | ⟨h, h'⟩
 ·rcases k with k | ⟨k, _⟩
  ·exact .inl (cb_trans h k)
  ·exact .inl (k ▸ h)
 ·rcases k with k | ⟨k, k'⟩
  ·exact .inl (h ▸ k)
  ·exact .inr ⟨h.trans k, by omega⟩
end Go.Proofs.YtmhepfehcakmjaaGreat
namespace Go.Proofs.YtmhepfehcakmjaaGreat
open Go.RowKit
end Go.Proofs.YtmhepfehcakmjaaGreat
namespace Go.Proofs.YtmhepfehcakmjaaGreat
open Go.RowKit
attribute [local simp] eql_entry
attribute [local go_sem] guard_entry
end Go.Proofs.YtmhepfehcakmjaaGreat
