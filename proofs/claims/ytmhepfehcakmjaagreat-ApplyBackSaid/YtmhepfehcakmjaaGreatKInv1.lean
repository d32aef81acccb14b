import Derived.Test.YtmhepfehcakmjaaGreatKNum
import Derived.Lib.Bytealg
namespace Go.Proofs.YtmhepfehcakmjaaGreat
open Go.RowKit
theorem byte_nat (n : Nat) (h : n < 256) : (UInt8.ofNat n).toNat = n := by simp; omega
theorem numGo_sev (most : Int) (f g k n : Nat) (acc : Int) (r : List UInt8) (hf : 0 < f) (hg : f <= g) (hn : n < 128 ^ f) (hk : 0 < n \/ k = 0) (hm : acc + (n * 2 ^ (7 * k) : Nat) <= most) :
  numGo most f k acc (sevF g n ++ r) = (acc + (n * 2 ^ (7 * k) : Nat), r, 0) := by
 induction f generalizing g k n acc with
 | zero => omega
 | succ f ih =>
  obtain ⟨g, rfl⟩ : ∃ m, g = m + 1 := ⟨g - 1, by omega⟩;rw [sevF]
  by_cases h : n < 128
  ·rw [if_pos h, List.cons_append, List.nil_append, numGo, byte_nat n (by omega), if_neg (by omega), if_neg (by omega), Nat.mod_eq_of_lt h, if_neg (by omega)]
  ·have e : (n % 128 + 128) % 128 = n % 128 := by omega
   have e2 : 2 ^ (7 * (k + 1)) = 128 * 2 ^ (7 * k) := by rw [Nat.mul_add, Nat.pow_add]; omega
   have e3 : (n % 128) * 2 ^ (7 * k) + (n / 128) * 2 ^ (7 * (k + 1)) = n * 2 ^ (7 * k) := by
    rw [e2, <- Nat.mul_assoc, <- Nat.add_mul]
    congr 1
    omega
   have e4 : (((n % 128) * 2 ^ (7 * k) : Nat) : Int) + (((n / 128) * 2 ^ (7 * (k + 1)) : Nat) : Int) = ((n * 2 ^ (7 * k) : Nat) : Int) := by
    rw [<- e3]; exact (Int.natCast_add _ _).symm
   have h0 : 0 < f := by
    rcases Nat.eq_zero_or_pos f with h0 | h0
    ·subst h0; simp at hn; omega
    ·exact h0
   rw [if_neg h, List.cons_append, numGo, byte_nat _ (by omega), if_neg (by omega), if_pos (by omega), e];rw [ih g (k + 1) (n / 128) _ h0 (by omega) (by rw [Nat.pow_succ] at hn; omega) (by omega) (by rw [Int.add_assoc, e4]; exact hm)];rw [Int.add_assoc, e4]
theorem rdNumS_sev (most : Int) (n : Nat) (r : List UInt8) (hn : n < 9223372036854775808) (hm : (n : Int) <= most) : rdNumS most (sev n ++ r) = ((n : Int), r, (0 : Int)) := by
 have e : (9223372036854775808 : Nat) = 128 ^ 9 := by decide
 unfold rdNumS sev;rw [numGo_sev most 9 10 0 n 0 r (by omega) (by omega) (by rw [<- e]; exact hn) (.inr rfl) (by simpa using hm)];simp
theorem rdTextS_sev (most : Int) (k r : List UInt8) (hk : k.length < 9223372036854775808) (hm : (k.length : Int) <= most) : rdTextS most (sev k.length ++ k ++ r) = (k, r, (0 : Int)) := by
 unfold rdTextS;rw [List.append_assoc, rdNumS_sev most k.length (k ++ r) hk hm];simp only [if_true];rw [if_neg (by simp; omega)];simp
theorem cb_self : ∀ a : List UInt8, Lib.compareBytes a a = 0
 | [] => rfl
 | a :: l => by
  rw [Lib.compareBytes, if_neg (UInt8.lt_irrefl a), if_neg (UInt8.lt_irrefl a)];exact cb_self l
theorem cb_zero : ∀ {a b : List UInt8}, Lib.compareBytes a b = 0 -> a = b
 | [], [], _ => rfl
 | [], _ :: _, h => by simp [Lib.compareBytes] at h
 | _ :: _, [], h => by simp [Lib.compareBytes] at h
 | a :: l, b :: m, h => by
  rw [Lib.compareBytes] at h
  split at h
  ·simp at h
  ·split at h
   ·simp at h
   ·rw [cb_zero h];have : a = b := UInt8.le_antisymm (UInt8.not_lt.1 (by assumption)) (UInt8.not_lt.1 (by assumption));rw [this]
theorem cb_three : ∀ a b : List UInt8, Lib.compareBytes a b = -1 \/ Lib.compareBytes a b = 0 \/ Lib.compareBytes a b = 1
 | [], [] => .inr (.inl rfl)
 | [], _ :: _ => .inl rfl
 | _ :: _, [] => .inr (.inr rfl)
 | a :: l, b :: m => by
  rw [Lib.compareBytes]
  split
  ·exact .inl rfl
  ·split
   ·exact .inr (.inr rfl)
   ·exact cb_three l m
theorem cb_trans : ∀ {a b c : List UInt8}, Lib.compareBytes a b = -1 -> Lib.compareBytes b c = -1 -> Lib.compareBytes a c = -1
 | [], [], _, h, _ => by simp [Lib.compareBytes] at h
 | [], _ :: _, [], _, k => by simp [Lib.compareBytes] at k
 | [], _ :: _, _ :: _, _, _ => rfl
 | _ :: _, [], _, h, _ => by simp [Lib.compareBytes] at h
 | _ :: _, _ :: _, [], _, k => by simp [Lib.compareBytes] at k
 | a :: l, b :: m, c :: n, h, k => by
  rw [Lib.compareBytes] at h k ⊢
  by_cases h1 : a < b
  ·by_cases k1 : b < c
   ·rw [if_pos (UInt8.lt_trans h1 k1)]
   ·rw [if_neg k1] at k
    by_cases k2 : c < b
    ·rw [if_pos k2] at k; simp at k
    ·have : b = c := UInt8.le_antisymm (UInt8.not_lt.1 k2) (UInt8.not_lt.1 k1);rw [if_pos (this ▸ h1)]
  ·rw [if_neg h1] at h
   by_cases h2 : b < a
   ·rw [if_pos h2] at h; simp at h
   ·have e : a = b := UInt8.le_antisymm (UInt8.not_lt.1 h2) (UInt8.not_lt.1 h1);rw [if_neg h2] at h;subst e
    by_cases k1 : a < c
    ·rw [if_pos k1]
    ·rw [if_neg k1] at k
     by_cases k2 : c < a
     ·rw [if_pos k2] at k; simp at k
     ·rw [if_neg k2] at k;rw [if_neg k1, if_neg k2];exact cb_trans h k
end Go.Proofs.YtmhepfehcakmjaaGreat
