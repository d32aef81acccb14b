
import Derived.Test.YtikmkimkhngihaaGreatKNum
import Derived.Lib.Bytealg
/- What was laid by sevens is read back. -/
namespace Go.Proofs.YtikmkimkhngihaaGreat
open Go.RowKit

theorem byte_nat (n : Nat) (h : n < 256) : (UInt8.ofNat n).toNat = n := by simp; omega

theorem numGo_sev (most : Int) (f g k n : Nat) (acc : Int) (r : List UInt8) (hf : 0 < f) (hg : f ≤ g) (hn : n < 128 ^ f) (hk : 0 < n ∨ k = 0) (hm : acc + (n * 2 ^ (7 * k) : Nat) ≤ most) :
    numGo most f k acc (sevF g n ++ r) = (acc + (n * 2 ^ (7 * k) : Nat), r, 0) := by
  induction f generalizing g k n acc with
  | zero => omega
  | succ f ih =>
    obtain ⟨g, rfl⟩ : ∃ m, g = m + 1 := ⟨g - 1, by omega⟩
    rw [sevF]
    by_cases h : n < 128
    · rw [if_pos h, List.cons_append, List.nil_append, numGo, byte_nat n (by omega), if_neg (by omega), if_neg (by omega), Nat.mod_eq_of_lt h, if_neg (by omega)]
    · have e : (n % 128 + 128) % 128 = n % 128 := by omega
      have e2 : 2 ^ (7 * (k + 1)) = 128 * 2 ^ (7 * k) := by rw [Nat.mul_add, Nat.pow_add]; omega
      have e3 : (n % 128) * 2 ^ (7 * k) + (n / 128) * 2 ^ (7 * (k + 1)) = n * 2 ^ (7 * k) := by
        rw [e2, ← Nat.mul_assoc, ← Nat.add_mul]
        congr 1
        omega
      have e4 : (((n % 128) * 2 ^ (7 * k) : Nat) : Int) + (((n / 128) * 2 ^ (7 * (k + 1)) : Nat) : Int) = ((n * 2 ^ (7 * k) : Nat) : Int) := by
        rw [← e3]; exact (Int.natCast_add _ _).symm
      have h0 : 0 < f := by
        rcases Nat.eq_zero_or_pos f with h0 | h0
        · subst h0; simp at hn; omega
        · exact h0
      rw [if_neg h, List.cons_append, numGo, byte_nat _ (by omega), if_neg (by omega), if_pos (by omega), e]
      rw [ih g (k + 1) (n / 128) _ h0 (by omega) (by rw [Nat.pow_succ] at hn; omega) (by omega) (by rw [Int.add_assoc, e4]; exact hm)]
      rw [Int.add_assoc, e4]

theorem rdNumS_sev (most : Int) (n : Nat) (r : List UInt8) (hn : n < 9223372036854775808) (hm : (n : Int) ≤ most) : rdNumS most (sev n ++ r) = ((n : Int), r, (0 : Int)) := by
  have e : (9223372036854775808 : Nat) = 128 ^ 9 := by decide
  unfold rdNumS sev
  rw [numGo_sev most 9 10 0 n 0 r (by omega) (by omega) (by rw [← e]; exact hn) (.inr rfl) (by simpa using hm)]
  simp

/-! Bytes in order. -/

end Go.Proofs.YtikmkimkhngihaaGreat
