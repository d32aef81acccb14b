import Derived.Test.YtmhepfehcakmjaaGreatKNum
import Derived.Lib.Bytealg
namespace Go.Proofs.YtmhepfehcakmjaaGreat
open Go.RowKit
theorem cb_self : ∀ a : List UInt8, Lib.compareBytes a a = 0
 | [] => rfl
 | a :: l => by
  rw [Lib.compareBytes, if_neg (UInt8.lt_irrefl a), if_neg (UInt8.lt_irrefl a)];exact cb_self l
theorem cb_zero : ∀ {a b : List UInt8}, Lib.compareBytes a b = 0 -> a = b
 | [], [], _ => rfl
 | [], _ :: _, h => by simp [Lib.compareBytes] at h
 | _ :: _, [], h => by simp [Lib.compareBytes] at h
 | a :: l, b :: m, h => by
  rw [Lib.compareBytes] at h
  split at h
  ·simp at h
  ·split at h
   ·simp at h
   ·rw [cb_zero h];have : a = b := UInt8.le_antisymm (UInt8.not_lt.1 (by assumption)) (UInt8.not_lt.1 (by assumption));rw [this]
theorem cb_three : ∀ a b : List UInt8, Lib.compareBytes a b = -1 \/ Lib.compareBytes a b = 0 \/ Lib.compareBytes a b = 1
 | [], [] => .inr (.inl rfl)
 | [], _ :: _ => .inl rfl
 | _ :: _, [] => .inr (.inr rfl)
 | a :: l, b :: m => by
  rw [Lib.compareBytes]
  split
  ·exact .inl rfl
  ·split
   ·exact .inr (.inr rfl)
   ·exact cb_three l m
theorem cb_trans : ∀ {a b c : List UInt8}, Lib.compareBytes a b = -1 -> Lib.compareBytes b c = -1 -> Lib.compareBytes a c = -1
 | [], [], _, h, _ => by simp [Lib.compareBytes] at h
 | [], _ :: _, [], _, k => by simp [Lib.compareBytes] at k
 | [], _ :: _, _ :: _, _, _ => rfl
 | _ :: _, [], _, h, _ => by simp [Lib.compareBytes] at h
 | _ :: _, _ :: _, [], _, k => by simp [Lib.compareBytes] at k
 | a :: l, b :: m, c :: n, h, k => by
  rw [Lib.compareBytes] at h k ⊢
  by_cases h1 : a < b
  ·by_cases k1 : b < c
   ·rw [if_pos (UInt8.lt_trans h1 k1)]
   ·rw [if_neg k1] at k
    by_cases k2 : c < b
    ·rw [if_pos k2] at k; simp at k
    ·have : b = c := UInt8.le_antisymm (UInt8.not_lt.1 k2) (UInt8.not_lt.1 k1);rw [if_pos (this ▸ h1)]
  ·rw [if_neg h1] at h
   by_cases h2 : b < a
   ·rw [if_pos h2] at h; simp at h
   ·have e : a = b := UInt8.le_antisymm (UInt8.not_lt.1 h2) (UInt8.not_lt.1 h1);rw [if_neg h2] at h;subst e
    by_cases k1 : a < c
    ·rw [if_pos k1]
    ·rw [if_neg k1] at k
     by_cases k2 : c < a
     ·rw [if_pos k2] at k; simp at k
     ·rw [if_neg k2] at k;rw [if_neg k1, if_neg k2];exact cb_trans h k
end Go.Proofs.YtmhepfehcakmjaaGreat
