import Derived.Test.YtmhepfehcakmjaaGreatKNd5
import Derived.Test.YtmhepfehcakmjaaGreatKInv1
namespace Go.Proofs.YtmhepfehcakmjaaGreat
open Go.RowKit
theorem or3_zero (a b c : Int) : or3 a b c = 0 ↔ a = 0 /\ b = 0 /\ c = 0 := by
 unfold or3
 split
 ·constructor <;> intro h <;> simp_all
 ·split <;> constructor <;> intro h <;> simp_all
theorem cmpE_self (a : En) : cmpE a a = 0 := by
 rw [cmpE, or3_zero];exact ⟨cb_self _, by simp [Lib.compareInt], by simp [Lib.compareInt]⟩
theorem ci_zero {a b : Int} (h : Lib.compareInt a b = 0) : a = b := by
 unfold Lib.compareInt at h; split at h
 ·simp at h
 ·split at h
  ·simp at h
  ·omega
theorem ci_three (a b : Int) : Lib.compareInt a b = -1 \/ Lib.compareInt a b = 0 \/ Lib.compareInt a b = 1 := by
 unfold Lib.compareInt
 split
 ·exact .inl rfl
 ·split
  ·exact .inr (.inr rfl)
  ·exact .inr (.inl rfl)
theorem ci_lt {a b : Int} : Lib.compareInt a b = -1 ↔ a < b := by
 unfold Lib.compareInt
 by_cases h : a < b
 ·simp [h]
 ·rw [if_neg h]
  split <;> simp [h]
theorem cmpE_eq {a b : En} : cmpE a b = 0 ↔ a = b := by
 constructor
 ·intro h;obtain ⟨h1, h2, h3⟩ := (or3_zero _ _ _).1 h;exact Prod.ext (cb_zero h1) (Prod.ext (ci_zero h2) (ci_zero h3))
 ·rintro rfl; exact cmpE_self _
theorem cmpE_three (a b : En) : cmpE a b = -1 \/ cmpE a b = 0 \/ cmpE a b = 1 := by
 unfold cmpE or3
 split
 ·exact cb_three _ _
 ·split
  ·exact ci_three _ _
  ·exact ci_three _ _
theorem cmpE_lt {a b : En} : cmpE a b = -1 ↔ Lib.compareBytes a.1 b.1 = -1 \/ a.1 = b.1 /\ (a.2.1 < b.2.1 \/ a.2.1 = b.2.1 /\ a.2.2 < b.2.2) := by
 unfold cmpE or3
 by_cases h : Lib.compareBytes a.1 b.1 = 0
 ·have e := cb_zero h;rw [if_neg (by simp [h])]
  by_cases k : Lib.compareInt a.2.1 b.2.1 = 0
  ·have e2 := ci_zero k;rw [if_neg (by simp [k]), ci_lt]
   constructor
   ·intro g; exact .inr ⟨e, .inr ⟨e2, g⟩⟩
   ·rintro (g | ⟨_, g | g⟩)
    ·rw [h] at g; simp at g
    ·omega
    ·exact g.2
  ·rw [if_pos k, ci_lt];have e2 : a.2.1 ≠ b.2.1 := by intro e2; rw [e2] at k; simp [Lib.compareInt] at k
   constructor
   ·intro g; exact .inr ⟨e, .inl g⟩
   ·rintro (g | ⟨_, g | g⟩)
    ·rw [h] at g; simp at g
    ·exact g
    ·exact absurd g.1 e2
 ·rw [if_pos h];have e : a.1 ≠ b.1 := by intro e; rw [e] at h; exact h (cb_self _)
  constructor
  ·exact .inl
  ·rintro (g | g)
   ·exact g
   ·exact absurd g.1 e
theorem cmpE_trans {a b c : En} (h : cmpE a b = -1) (k : cmpE b c = -1) : cmpE a c = -1 := by
 rw [cmpE_lt] at h k ⊢;rcases h with h | ⟨h, h'⟩
 ·rcases k with k | ⟨k, _⟩
  ·exact .inl (cb_trans h k)
  ·exact .inl (k ▸ h)
 ·rcases k with k | ⟨k, k'⟩
  ·exact .inl (h ▸ k)
  ·exact .inr ⟨h.trans k, by omega⟩
theorem byte_of (c : UInt8) : UInt8.ofNat c.toNat = c := by simp
theorem numGo_inv (most : Int) (f k : Nat) (acc n : Int) (l r : List UInt8) (h : numGo most f k acc l = (n, r, 0)) :
  ∃ m : Nat, n = acc + (m * 2 ^ (7 * k) : Nat) /\ (0 < m \/ k = 0) /\ ∀ g, f <= g -> l = sevF g m ++ r := by
 induction f generalizing k acc l with
 | zero => simp [numGo] at h
 | succ f ih =>
  cases l with
  | nil => simp [numGo] at h
  | cons c l =>
   rw [numGo] at h;have hc := c.toNat_lt
   split at h
   ·simp at h
   ·rename_i h1
    split at h
    ·rename_i h2
     obtain ⟨m, h3, h4, h5⟩ := ih (k + 1) _ l h;have hm : 0 < m := by rcases h4 with h4 | h4 <;> omega
     have e2 : 2 ^ (7 * (k + 1)) = 128 * 2 ^ (7 * k) := by rw [Nat.mul_add, Nat.pow_add]; omega
     refine ⟨c.toNat % 128 + 128 * m, ?_, .inl (by omega), fun g hg => ?_⟩
     ·rw [h3, e2, Int.add_assoc, <- Int.natCast_add]
      congr 2
      rw [Nat.add_mul, <- Nat.mul_assoc, Nat.mul_comm m 128]
     ·obtain ⟨g, rfl⟩ : ∃ g', g = g' + 1 := ⟨g - 1, by omega⟩;rw [sevF, if_neg (by omega), show (c.toNat % 128 + 128 * m) % 128 + 128 = c.toNat by omega, show (c.toNat % 128 + 128 * m) / 128 = m by omega, byte_of, List.cons_append, <- h5 g (by omega)]
    ·rename_i h2
     split at h
     ·simp at h
     ·simp only [Prod.mk.injEq] at h;obtain ⟨h3, h4, _⟩ := h;refine ⟨c.toNat, ?_, by omega, fun g hg => ?_⟩
      ·rw [<- h3, Nat.mod_eq_of_lt (by omega)]
      ·obtain ⟨g, rfl⟩ : ∃ g', g = g' + 1 := ⟨g - 1, by omega⟩;rw [sevF, if_pos (by omega), byte_of, h4]
       rfl
theorem rdNumS_inv (most : Int) (l : List UInt8) (h : (rdNumS most l).2.2 = 0) : l = sev (rdNumS most l).1.toNat ++ (rdNumS most l).2.1 := by
 have h1 : rdNumS most l = ((rdNumS most l).1, (rdNumS most l).2.1, 0) := by rw [<- h]
 generalize (rdNumS most l).1 = n at *;generalize (rdNumS most l).2.1 = r at *;unfold rdNumS at h1;obtain ⟨m, h2, _, h3⟩ := numGo_inv most 9 0 0 n l r h1;have h4 : n = m := by rw [h2]; simp
 rw [h4];exact h3 10 (by omega)
theorem rdTextS_inv (most : Int) (l : List UInt8) (h : (rdTextS most l).2.2 = 0) : l = txt (rdTextS most l).1 ++ (rdTextS most l).2.1 := by
 have hf := rdNumS_facts most l;unfold rdTextS at h ⊢
 by_cases h1 : (rdNumS most l).2.2 = 0
 ·rw [if_pos h1] at h ⊢;have h3 := rdNumS_inv most l h1
  by_cases h2 : ((rdNumS most l).2.1.length : Int) < (rdNumS most l).1
  ·rw [if_pos h2] at h;simp at h
  ·rw [if_neg h2];dsimp only;have hl : ((rdNumS most l).2.1.take (rdNumS most l).1.toNat).length = (rdNumS most l).1.toNat := by rw [List.length_take]; omega
   rw [txt, hl, List.append_assoc, List.take_append_drop];exact h3
 ·rw [if_neg h1] at h;exact absurd h h1
attribute [local simp] eql_entry
attribute [local go_sem] guard_entry
end Go.Proofs.YtmhepfehcakmjaaGreat
