import Derived.Test.YtmhepfehcakmjaaGreatKRelk
import Derived.Lib.Hide
import Derived.Lib.Strings
import Derived.Lib.Bytealg
namespace Go.Proofs.YtmhepfehcakmjaaGreat
open Go.RowKit
theorem wraps_i64 (n : Int) (h₀ : 0 ≤ n) (h₁ : n < 2 ^ 63) : IntKind.i64.wrap n = n := by rw [IntKind.wrap_i64]; omega
theorem i64_or (a b : Nat) (ha : a < 2 ^ 63) (hb : b < 2 ^ 63) : bits .or .i64 (a : Int) (b : Int) = ((a ||| b : Nat) : Int) :=
 (bits_nat .i64 63 (by decide) wraps_i64 a b ha hb).2
theorem u8_and127 (c : Nat) (hc : c < 256) : bits BinOp.and IntKind.u8 (↑c) 127 = ((c % 128 : Nat) : Int) := by
 have h := bits_mask .u8 8 (by decide) wraps_u8 7 (by decide) (c : Int) (by omega) (by omega)
 have e : ((2 : Int) ^ 7 - 1) = 127 := by decide
 rw [e] at h
 rw [h]
 omega
theorem seven_pow_le (k : Nat) (hk : k ≤ 8) : 2 ^ (7 * k) ≤ 72057594037927936 := by
 have : 2 ^ (7 * k) ≤ 2 ^ 56 := Nat.pow_le_pow_right (by decide) (by omega)
 simpa using this
theorem wrap64_small (n : Nat) (h : n < 9223372036854775808) : wrap64 (n : Int) = n := by
 unfold wrap64; omega
theorem or_step (n k c : Nat) (hk : k ≤ 8) (hn : n < 2 ^ (7 * k)) (hc : c < 256) :
  bits BinOp.or IntKind.i64 (↑n) (wrap64 (wrap64 (bits BinOp.and IntKind.u8 (↑c) 127) * 2 ^ (7 * k))) = ((n + c % 128 * 2 ^ (7 * k) : Nat) : Int) := by
 have hp := seven_pow_le k hk
 have h1 : c % 128 * 2 ^ (7 * k) ≤ 127 * 2 ^ (7 * k) := Nat.mul_le_mul_right _ (by omega)
 have hp0 : 0 < 2 ^ (7 * k) := Nat.two_pow_pos _
 rw [u8_and127 c hc, wrap64_small _ (by omega)]
 have e : ((c % 128 : Nat) : Int) * 2 ^ (7 * k) = ((c % 128 * 2 ^ (7 * k) : Nat) : Int) := by push_cast; rfl
 rw [e, wrap64_small _ (by omega), i64_or _ _ (by omega) (by omega)]
 congr 1
 rw [Nat.or_comm, Nat.mul_comm, ← Nat.two_pow_add_eq_or_of_lt hn]
 omega
def numGo (most : Int) : Nat → Nat → Int → List UInt8 → Int × List UInt8 × Int
 | 0, _, _, _ => (0, [], 11)
 | _ + 1, _, _, [] => (0, [], 10)
 | f + 1, k, n, c :: l =>
  if c.toNat = 0 ∧ 0 < k then (0, [], 11)
  else if 128 ≤ c.toNat then numGo most f (k + 1) (n + (c.toNat % 128 * 2 ^ (7 * k) : Nat)) l
  else if most < n + (c.toNat % 128 * 2 ^ (7 * k) : Nat) then (0, [], 11)
  else (n + (c.toNat % 128 * 2 ^ (7 * k) : Nat), l, 0)
def rdNumS (most : Int) (l : List UInt8) : Int × List UInt8 × Int := numGo most 9 0 0 l
theorem numGo_step (most : Int) (s : ByteArray) (n k : Nat) (hk : k < 9) (hs : k < s.size) (h : numGo most (9 - k) k n (s.data.toList.drop k) = rdNumS most s.data.toList) :
  rdNumS most s.data.toList =
   if s[k].toNat = 0 ∧ 0 < k then (0, [], 11)
   else if 128 ≤ s[k].toNat then numGo most (9 - (k + 1)) (k + 1) ((n + s[k].toNat % 128 * 2 ^ (7 * k) : Nat) : Int) (s.data.toList.drop (k + 1))
   else if most < ((n + s[k].toNat % 128 * 2 ^ (7 * k) : Nat) : Int) then (0, [], 11)
   else (((n + s[k].toNat % 128 * 2 ^ (7 * k) : Nat) : Int), s.data.toList.drop (k + 1), 0) := by
 rw [← h]
 have hd : s.data.toList.drop k = s[k] :: s.data.toList.drop (k + 1) := by
  rw [List.drop_eq_getElem_cons (by simpa using hs)]; rfl
 rw [hd, show 9 - k = (9 - (k + 1)) + 1 from by omega, numGo]
 simp only [Int.natCast_add]
theorem seven_next (n k c : Nat) (hn : n < 2 ^ (7 * k)) : n + c % 128 * 2 ^ (7 * k) < 2 ^ (7 * (k + 1)) := by
 have e : 2 ^ (7 * (k + 1)) = 128 * 2 ^ (7 * k) := by rw [Nat.mul_add, Nat.pow_add]; omega
 rw [e]
 have : c % 128 * 2 ^ (7 * k) ≤ 127 * 2 ^ (7 * k) := Nat.mul_le_mul_right _ (by omega)
 omega
theorem extract_tail (s : ByteArray) (k : Nat) : s.extract k s.size = str (s.data.toList.drop k) := by
 rw [Lib.extract_eq, List.take_of_length_le (by simp)]; rfl
theorem extract_head (s : ByteArray) (k : Nat) : s.extract 0 k = str (s.data.toList.take k) := by
 rw [Lib.extract_eq]; rfl
theorem numGo_facts (most : Int) (f k : Nat) (n : Int) (l : List UInt8) (hn : 0 ≤ n) :
  0 ≤ (numGo most f k n l).1 ∧ (numGo most f k n l).2.1.length ≤ l.length ∧ 0 ≤ (numGo most f k n l).2.2 ∧ ((numGo most f k n l).2.2 ≠ 0 → (numGo most f k n l).2.1 = [] ∧ (numGo most f k n l).1 = 0) ∧
   ((numGo most f k n l).2.2 = 0 → (numGo most f k n l).1 ≤ most ∧ (numGo most f k n l).2.1.length < l.length) := by
 induction f generalizing k n l with
 | zero => simp [numGo]
 | succ f ih =>
  cases l with
  | nil => simp [numGo]
  | cons c l =>
   rw [numGo]
   generalize (c.toNat % 128 * 2 ^ (7 * k) : Nat) = m
   split
   ·simp
   ·split
    ·have := ih (k + 1) (n + (m : Nat)) l (by omega)
     refine ⟨this.1, by simp; omega, this.2.2.1, this.2.2.2.1, fun h => ⟨(this.2.2.2.2 h).1, by have := (this.2.2.2.2 h).2; simp; omega⟩⟩
    ·split
     ·simp
     ·exact ⟨by simp; omega, by simp, by simp, by simp, fun _ => ⟨by simp; omega, by simp⟩⟩
theorem rdNumS_facts (most : Int) (l : List UInt8) :
  0 ≤ (rdNumS most l).1 ∧ (rdNumS most l).2.1.length ≤ l.length ∧ 0 ≤ (rdNumS most l).2.2 ∧ ((rdNumS most l).2.2 ≠ 0 → (rdNumS most l).2.1 = [] ∧ (rdNumS most l).1 = 0) ∧
   ((rdNumS most l).2.2 = 0 → (rdNumS most l).1 ≤ most ∧ (rdNumS most l).2.1.length < l.length) :=
 numGo_facts most 9 0 0 l (by omega)
def rdTextS (most : Int) (l : List UInt8) : List UInt8 × List UInt8 × Int :=
 if (rdNumS most l).2.2 = 0 then
  if ((rdNumS most l).2.1.length : Int) < (rdNumS most l).1 then ([], [], 10)
  else ((rdNumS most l).2.1.take (rdNumS most l).1.toNat, (rdNumS most l).2.1.drop (rdNumS most l).1.toNat, 0)
 else ([], [], (rdNumS most l).2.2)
theorem rdTextS_le (most : Int) (l : List UInt8) : (rdTextS most l).1.length ≤ l.length ∧ (rdTextS most l).2.1.length ≤ l.length := by
 have := rdNumS_facts most l
 unfold rdTextS
 split
 ·split
  ·simp
  ·simp; omega
 ·simp
theorem str_tail (l : List UInt8) (n : Nat) : (str l).extract n l.length = str (l.drop n) := extract_tail (str l) n
theorem str_head (l : List UInt8) (n : Nat) : (str l).extract 0 n = str (l.take n) := extract_head (str l) n
def sevF : Nat → Nat → List UInt8
 | 0, _ => []
 | f + 1, n => if n < 128 then [UInt8.ofNat n] else UInt8.ofNat (n % 128 + 128) :: sevF f (n / 128)
def sev (n : Nat) : List UInt8 := sevF 10 n
def sevs (l : List Int) : List UInt8 := l.flatMap fun n => sev n.toNat
theorem sevF_fuel (f g n : Nat) (hn : n < 128 ^ f) (hf : 0 < f) (hg : f ≤ g) : sevF g n = sevF f n := by
 induction f generalizing g n with
 | zero => omega
 | succ f ih =>
  obtain ⟨g, rfl⟩ : ∃ k, g = k + 1 := ⟨g - 1, by omega⟩
  simp only [sevF]
  split
  ·rfl
  ·have h1 : 0 < f := by
    rcases Nat.eq_zero_or_pos f with h | h
    ·subst h; simp at hn; omega
    ·exact h
   rw [ih g (n / 128) (by rw [Nat.pow_succ] at hn; omega) h1 (by omega)]
theorem sev_big (n : Nat) (h : 128 ≤ n) (hn : n < 9223372036854775808) : sev n = UInt8.ofNat (n % 128 + 128) :: sev (n / 128) := by
 have e : (9223372036854775808 : Nat) = 128 ^ 9 := by decide
 unfold sev
 rw [sevF, if_neg (by omega)]
 congr 1
 rw [sevF_fuel 9 10 (n / 128) (by rw [← e]; omega) (by omega) (by omega)]
theorem sev_small (n : Nat) (h : n < 128) : sev n = [UInt8.ofNat n] := by
 unfold sev; rw [sevF, if_pos h]
theorem sevF_length (f n : Nat) : (sevF f n).length ≤ f := by
 induction f generalizing n with
 | zero => simp [sevF]
 | succ f ih => rw [sevF]; split <;> simp; exact ih _
theorem sev_length (n : Nat) : (sev n).length ≤ 10 := sevF_length 10 n
theorem sevs_length (l : List Int) : (sevs l).length ≤ 10 * l.length := by
 induction l with
 | nil => simp [sevs]
 | cons a l ih => simp only [sevs, List.flatMap_cons, List.length_append, List.length_cons] at *; have := sev_length a.toNat; omega
end Go.Proofs.YtmhepfehcakmjaaGreat
namespace Go.Proofs.YtmhepfehcakmjaaGreat
open Go.RowKit
theorem byte_nat (n : Nat) (h : n < 256) : (UInt8.ofNat n).toNat = n := by simp; omega
theorem numGo_sev (most : Int) (f g k n : Nat) (acc : Int) (r : List UInt8) (hf : 0 < f) (hg : f ≤ g) (hn : n < 128 ^ f) (hk : 0 < n ∨ k = 0) (hm : acc + (n * 2 ^ (7 * k) : Nat) ≤ most) :
  numGo most f k acc (sevF g n ++ r) = (acc + (n * 2 ^ (7 * k) : Nat), r, 0) := by
 induction f generalizing g k n acc with
 | zero => omega
 | succ f ih =>
  obtain ⟨g, rfl⟩ : ∃ m, g = m + 1 := ⟨g - 1, by omega⟩
  rw [sevF]
  by_cases h : n < 128
  ·rw [if_pos h, List.cons_append, List.nil_append, numGo, byte_nat n (by omega), if_neg (by omega), if_neg (by omega), Nat.mod_eq_of_lt h, if_neg (by omega)]
  ·have e : (n % 128 + 128) % 128 = n % 128 := by omega
   have e2 : 2 ^ (7 * (k + 1)) = 128 * 2 ^ (7 * k) := by rw [Nat.mul_add, Nat.pow_add]; omega
   have e3 : (n % 128) * 2 ^ (7 * k) + (n / 128) * 2 ^ (7 * (k + 1)) = n * 2 ^ (7 * k) := by
    rw [e2, ← Nat.mul_assoc, ← Nat.add_mul]
    congr 1
    omega
   have e4 : (((n % 128) * 2 ^ (7 * k) : Nat) : Int) + (((n / 128) * 2 ^ (7 * (k + 1)) : Nat) : Int) = ((n * 2 ^ (7 * k) : Nat) : Int) := by
    rw [← e3]; exact (Int.natCast_add _ _).symm
   have h0 : 0 < f := by
    rcases Nat.eq_zero_or_pos f with h0 | h0
    ·subst h0; simp at hn; omega
    ·exact h0
   rw [if_neg h, List.cons_append, numGo, byte_nat _ (by omega), if_neg (by omega), if_pos (by omega), e]
   rw [ih g (k + 1) (n / 128) _ h0 (by omega) (by rw [Nat.pow_succ] at hn; omega) (by omega) (by rw [Int.add_assoc, e4]; exact hm)]
   rw [Int.add_assoc, e4]
theorem rdNumS_sev (most : Int) (n : Nat) (r : List UInt8) (hn : n < 9223372036854775808) (hm : (n : Int) ≤ most) : rdNumS most (sev n ++ r) = ((n : Int), r, (0 : Int)) := by
 have e : (9223372036854775808 : Nat) = 128 ^ 9 := by decide
 unfold rdNumS sev
 rw [numGo_sev most 9 10 0 n 0 r (by omega) (by omega) (by rw [← e]; exact hn) (.inr rfl) (by simpa using hm)]
 simp
theorem rdTextS_sev (most : Int) (k r : List UInt8) (hk : k.length < 9223372036854775808) (hm : (k.length : Int) ≤ most) : rdTextS most (sev k.length ++ k ++ r) = (k, r, (0 : Int)) := by
 unfold rdTextS
 rw [List.append_assoc, rdNumS_sev most k.length (k ++ r) hk hm]
 simp only [if_true]
 rw [if_neg (by simp; omega)]
 simp
theorem cb_self : ∀ a : List UInt8, Lib.compareBytes a a = 0
 | [] => rfl
 | a :: l => by
  rw [Lib.compareBytes, if_neg (UInt8.lt_irrefl a), if_neg (UInt8.lt_irrefl a)]
  exact cb_self l
theorem cb_zero : ∀ {a b : List UInt8}, Lib.compareBytes a b = 0 → a = b
 | [], [], _ => rfl
 | [], _ :: _, h => by simp [Lib.compareBytes] at h
 | _ :: _, [], h => by simp [Lib.compareBytes] at h
 | a :: l, b :: m, h => by
  rw [Lib.compareBytes] at h
  split at h
  ·simp at h
  ·split at h
   ·simp at h
   ·rw [cb_zero h]
    have : a = b := UInt8.le_antisymm (UInt8.not_lt.1 (by assumption)) (UInt8.not_lt.1 (by assumption))
    rw [this]
theorem cb_three : ∀ a b : List UInt8, Lib.compareBytes a b = -1 ∨ Lib.compareBytes a b = 0 ∨ Lib.compareBytes a b = 1
 | [], [] => .inr (.inl rfl)
 | [], _ :: _ => .inl rfl
 | _ :: _, [] => .inr (.inr rfl)
 | a :: l, b :: m => by
  rw [Lib.compareBytes]
  split
  ·exact .inl rfl
  ·split
   ·exact .inr (.inr rfl)
   ·exact cb_three l m
theorem cb_trans : ∀ {a b c : List UInt8}, Lib.compareBytes a b = -1 → Lib.compareBytes b c = -1 → Lib.compareBytes a c = -1
 | [], [], _, h, _ => by simp [Lib.compareBytes] at h
 | [], _ :: _, [], _, k => by simp [Lib.compareBytes] at k
 | [], _ :: _, _ :: _, _, _ => rfl
 | _ :: _, [], _, h, _ => by simp [Lib.compareBytes] at h
 | _ :: _, _ :: _, [], _, k => by simp [Lib.compareBytes] at k
 | a :: l, b :: m, c :: n, h, k => by
  rw [Lib.compareBytes] at h k ⊢
  by_cases h1 : a < b
  ·by_cases k1 : b < c
   ·rw [if_pos (UInt8.lt_trans h1 k1)]
   ·rw [if_neg k1] at k
    by_cases k2 : c < b
    ·rw [if_pos k2] at k; simp at k
    ·have : b = c := UInt8.le_antisymm (UInt8.not_lt.1 k2) (UInt8.not_lt.1 k1)
     rw [if_pos (this ▸ h1)]
  ·rw [if_neg h1] at h
   by_cases h2 : b < a
   ·rw [if_pos h2] at h; simp at h
   ·have e : a = b := UInt8.le_antisymm (UInt8.not_lt.1 h2) (UInt8.not_lt.1 h1)
    rw [if_neg h2] at h
    subst e
    by_cases k1 : a < c
    ·rw [if_pos k1]
    ·rw [if_neg k1] at k
     by_cases k2 : c < a
     ·rw [if_pos k2] at k; simp at k
     ·rw [if_neg k2] at k
      rw [if_neg k1, if_neg k2]
      exact cb_trans h k
end Go.Proofs.YtmhepfehcakmjaaGreat
