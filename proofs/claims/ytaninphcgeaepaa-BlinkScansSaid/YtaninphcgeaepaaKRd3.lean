import Derived.Test.YtaninphcgeaepaaKNd5
import Derived.Test.YtaninphcgeaepaaKInv1
namespace Go.Proofs.Ytaninphcgeaepaa
open Go.RowKit
theorem or3_zero (a b c : Int) : or3 a b c = 0 ↔ a = 0 ∧ b = 0 ∧ c = 0 := by
 unfold or3
 split
 ·constructor <;> intro h <;> simp_all
 ·split <;> constructor <;> intro h <;> simp_all
theorem cmpE_self (a : En) : cmpE a a = 0 := by
 rw [cmpE, or3_zero]
 exact ⟨cb_self _, by simp [Lib.compareInt], by simp [Lib.compareInt]⟩
theorem ci_zero {a b : Int} (h : Lib.compareInt a b = 0) : a = b := by
 unfold Lib.compareInt at h; split at h
 ·simp at h
 ·split at h
  ·simp at h
  ·omega
theorem ci_neg (a b : Int) : Lib.compareInt a b = -Lib.compareInt b a := by
 unfold Lib.compareInt
 by_cases h : a < b
 ·rw [if_pos h, if_neg (by omega), if_pos h]
 ·by_cases k : b < a
  ·rw [if_neg h, if_pos k, if_pos k]; rfl
  ·rw [if_neg h, if_neg k, if_neg k, if_neg h]; rfl
theorem ci_three (a b : Int) : Lib.compareInt a b = -1 ∨ Lib.compareInt a b = 0 ∨ Lib.compareInt a b = 1 := by
 unfold Lib.compareInt
 split
 ·exact .inl rfl
 ·split
  ·exact .inr (.inr rfl)
  ·exact .inr (.inl rfl)
theorem ci_lt {a b : Int} : Lib.compareInt a b = -1 ↔ a < b := by
 unfold Lib.compareInt
 by_cases h : a < b
 ·simp [h]
 ·rw [if_neg h]
  split <;> simp [h]
theorem cmpE_eq {a b : En} : cmpE a b = 0 ↔ a = b := by
 constructor
 ·intro h
  obtain ⟨h1, h2, h3⟩ := (or3_zero _ _ _).1 h
  exact Prod.ext (cb_zero h1) (Prod.ext (ci_zero h2) (ci_zero h3))
 ·rintro rfl; exact cmpE_self _
theorem cmpE_neg (a b : En) : cmpE a b = -cmpE b a := by
 unfold cmpE
 rw [cb_neg a.1 b.1, ci_neg a.2.1 b.2.1, ci_neg a.2.2 b.2.2]
 generalize Lib.compareBytes b.1 a.1 = x
 generalize Lib.compareInt b.2.1 a.2.1 = y
 generalize Lib.compareInt b.2.2 a.2.2 = z
 unfold or3
 by_cases hx : x = 0
 ·by_cases hy : y = 0
  ·simp [hx, hy]
  ·simp [hx, hy]
 ·simp [hx]
theorem cmpE_three (a b : En) : cmpE a b = -1 ∨ cmpE a b = 0 ∨ cmpE a b = 1 := by
 unfold cmpE or3
 split
 ·exact cb_three _ _
 ·split
  ·exact ci_three _ _
  ·exact ci_three _ _
theorem cmpE_lt {a b : En} : cmpE a b = -1 ↔ Lib.compareBytes a.1 b.1 = -1 ∨ a.1 = b.1 ∧ (a.2.1 < b.2.1 ∨ a.2.1 = b.2.1 ∧ a.2.2 < b.2.2) := by
 unfold cmpE or3
 by_cases h : Lib.compareBytes a.1 b.1 = 0
 ·have e := cb_zero h
  rw [if_neg (by simp [h])]
  by_cases k : Lib.compareInt a.2.1 b.2.1 = 0
  ·have e2 := ci_zero k
   rw [if_neg (by simp [k]), ci_lt]
   constructor
   ·intro g; exact .inr ⟨e, .inr ⟨e2, g⟩⟩
   ·rintro (g | ⟨_, g | g⟩)
    ·rw [h] at g; simp at g
    ·omega
    ·exact g.2
  ·rw [if_pos k, ci_lt]
   have e2 : a.2.1 ≠ b.2.1 := by intro e2; rw [e2] at k; simp [Lib.compareInt] at k
   constructor
   ·intro g; exact .inr ⟨e, .inl g⟩
   ·rintro (g | ⟨_, g | g⟩)
    ·rw [h] at g; simp at g
    ·exact g
    ·exact absurd g.1 e2
 ·rw [if_pos h]
  have e : a.1 ≠ b.1 := by intro e; rw [e] at h; exact h (cb_self _)
  constructor
  ·exact .inl
  ·rintro (g | g)
   ·exact g
   ·exact absurd g.1 e
theorem cmpE_trans {a b c : En} (h : cmpE a b = -1) (k : cmpE b c = -1) : cmpE a c = -1 := by
 rw [cmpE_lt] at h k ⊢
 rcases h with h | ⟨h, h'⟩
 ·rcases k with k | ⟨k, _⟩
  ·exact .inl (cb_trans h k)
  ·exact .inl (k ▸ h)
 ·rcases k with k | ⟨k, k'⟩
  ·exact .inl (h ▸ k)
  ·exact .inr ⟨h.trans k, by omega⟩
theorem takes_of (e : En) (more : List Int) (h : enFine e) :
  takeK (enBytes e more) = (e.1, sevs [e.2.1, e.2.2] ++ sevs more, 0) ∧ takeP (enBytes e more) = (e.2.1, sevs [e.2.2] ++ sevs more, 0) ∧ takeS (enBytes e more) = (e.2.2, sevs more, 0) := by
 obtain ⟨h1, h2, h3⟩ := h
 have a1 : takeK (enBytes e more) = (e.1, sevs [e.2.1, e.2.2] ++ sevs more, 0) := by
  unfold takeK enBytes txt
  rw [List.append_assoc]
  exact rdTextS_sev 24 e.1 _ (by omega) (by omega)
 have a2 : takeP (enBytes e more) = (e.2.1, sevs [e.2.2] ++ sevs more, 0) := by
  unfold takeP
  rw [a1]
  unfold rdNum2
  rw [if_pos rfl]
  have := rdNumS_sev 65535 e.2.1.toNat (sevs [e.2.2] ++ sevs more) (by omega) (by omega)
  rw [Int.toNat_of_nonneg h2.1] at this
  rw [← this]
  simp [sevs]
 refine ⟨a1, a2, ?_⟩
 unfold takeS
 rw [a2]
 unfold rdNum2
 rw [if_pos rfl]
 have := rdNumS_sev 65535 e.2.2.toNat (sevs more) (by omega) (by omega)
 rw [Int.toNat_of_nonneg h3.1] at this
 rw [← this]
 simp [sevs]
theorem decN_of {e : En} (h : enOk e = true) : decN (enBytes e []) = (e, 0) := by
 obtain ⟨a1, a2, a3⟩ := takes_of e [] (enOk_fine h)
 unfold decN decOkN partE
 rw [a1, a2, a3]
 have : enOk (e.1, e.2.1, e.2.2) = true := h
 simp [endE, sevs, this]
theorem unsN_of {e : En} {c : Int} (h : e = leastE ∨ enOk e = true) (hc : inB c 1 65535 = true) : unsN (enBytes e [c]) = (e, c, 0) := by
 have hf : enFine e := by
  rcases h with rfl | h
  ·simp [enFine, leastE]
  ·exact enOk_fine h
 obtain ⟨a1, a2, a3⟩ := takes_of e [c] hf
 have hc' := hc
 simp only [inB, Bool.and_eq_true, decide_eq_true_eq] at hc
 have a4 : takeC (enBytes e [c]) = (c, [], 0) := by
  unfold takeC
  rw [a3]
  unfold rdNum2
  rw [if_pos rfl]
  have := rdNumS_sev 65535 c.toNat [] (by omega) (by omega)
  rw [Int.toNat_of_nonneg (by omega)] at this
  rw [← this]
  simp [sevs]
 have ho : (decide ((e.1, e.2.1, e.2.2) = leastE) || enOk (e.1, e.2.1, e.2.2)) = true := by
  rcases h with h | h
  ·have : (e.1, e.2.1, e.2.2) = leastE := h
   rw [decide_eq_true this]; rfl
  ·have : enOk (e.1, e.2.1, e.2.2) = true := h
   rw [this]; simp
 unfold unsN unsOk partE
 rw [a1, a2, a3, a4]
 dsimp only
 rw [ho, hc']
 rfl
end Go.Proofs.Ytaninphcgeaepaa
namespace Go.Proofs.Ytaninphcgeaepaa
open Go.RowKit
theorem byte_of (c : UInt8) : UInt8.ofNat c.toNat = c := by simp
theorem numGo_inv (most : Int) (f k : Nat) (acc n : Int) (l r : List UInt8) (h : numGo most f k acc l = (n, r, 0)) :
  ∃ m : Nat, n = acc + (m * 2 ^ (7 * k) : Nat) ∧ (0 < m ∨ k = 0) ∧ ∀ g, f ≤ g → l = sevF g m ++ r := by
 induction f generalizing k acc l with
 | zero => simp [numGo] at h
 | succ f ih =>
  cases l with
  | nil => simp [numGo] at h
  | cons c l =>
   rw [numGo] at h
   have hc := c.toNat_lt
   split at h
   ·simp at h
   ·rename_i h1
    split at h
    ·rename_i h2
     obtain ⟨m, h3, h4, h5⟩ := ih (k + 1) _ l h
     have hm : 0 < m := by rcases h4 with h4 | h4 <;> omega
     have e2 : 2 ^ (7 * (k + 1)) = 128 * 2 ^ (7 * k) := by rw [Nat.mul_add, Nat.pow_add]; omega
     refine ⟨c.toNat % 128 + 128 * m, ?_, .inl (by omega), fun g hg => ?_⟩
     ·rw [h3, e2, Int.add_assoc, ← Int.natCast_add]
      congr 2
      rw [Nat.add_mul, ← Nat.mul_assoc, Nat.mul_comm m 128]
     ·obtain ⟨g, rfl⟩ : ∃ g', g = g' + 1 := ⟨g - 1, by omega⟩
      rw [sevF, if_neg (by omega), show (c.toNat % 128 + 128 * m) % 128 + 128 = c.toNat by omega, show (c.toNat % 128 + 128 * m) / 128 = m by omega, byte_of, List.cons_append, ← h5 g (by omega)]
    ·rename_i h2
     split at h
     ·simp at h
     ·simp only [Prod.mk.injEq] at h
      obtain ⟨h3, h4, _⟩ := h
      refine ⟨c.toNat, ?_, by omega, fun g hg => ?_⟩
      ·rw [← h3, Nat.mod_eq_of_lt (by omega)]
      ·obtain ⟨g, rfl⟩ : ∃ g', g = g' + 1 := ⟨g - 1, by omega⟩
       rw [sevF, if_pos (by omega), byte_of, h4]
       rfl
theorem rdNumS_inv (most : Int) (l : List UInt8) (h : (rdNumS most l).2.2 = 0) : l = sev (rdNumS most l).1.toNat ++ (rdNumS most l).2.1 := by
 have h1 : rdNumS most l = ((rdNumS most l).1, (rdNumS most l).2.1, 0) := by rw [← h]
 generalize (rdNumS most l).1 = n at *
 generalize (rdNumS most l).2.1 = r at *
 unfold rdNumS at h1
 obtain ⟨m, h2, _, h3⟩ := numGo_inv most 9 0 0 n l r h1
 have h4 : n = m := by rw [h2]; simp
 rw [h4]
 exact h3 10 (by omega)
theorem rdTextS_inv (most : Int) (l : List UInt8) (h : (rdTextS most l).2.2 = 0) : l = txt (rdTextS most l).1 ++ (rdTextS most l).2.1 := by
 have hf := rdNumS_facts most l
 unfold rdTextS at h ⊢
 by_cases h1 : (rdNumS most l).2.2 = 0
 ·rw [if_pos h1] at h ⊢
  have h3 := rdNumS_inv most l h1
  by_cases h2 : ((rdNumS most l).2.1.length : Int) < (rdNumS most l).1
  ·rw [if_pos h2] at h
   simp at h
  ·rw [if_neg h2]
   dsimp only
   have hl : ((rdNumS most l).2.1.take (rdNumS most l).1.toNat).length = (rdNumS most l).1.toNat := by rw [List.length_take]; omega
   rw [txt, hl, List.append_assoc, List.take_append_drop]
   exact h3
 ·rw [if_neg h1] at h
  exact absurd h h1
theorem num2_inv (most : Int) (x : List UInt8 × Int) (h : (rdNum2 most x).2.2 = 0) : x.2 = 0 ∧ x.1 = sev (rdNum2 most x).1.toNat ++ (rdNum2 most x).2.1 := by
 unfold rdNum2 at h ⊢
 by_cases h1 : x.2 = 0
 ·rw [if_pos h1] at h ⊢
  exact ⟨h1, rdNumS_inv most x.1 h⟩
 ·rw [if_neg h1] at h
  exact absurd h h1
theorem endE_zero {x : List UInt8 × Int} (h : endE x = 0) : x.2 = 0 ∧ x.1 = [] := by
 unfold endE at h
 split at h
 ·cases h
 ·rename_i h1
  refine ⟨h, ?_⟩
  rcases Nat.eq_zero_or_pos x.1.length with h2 | h2
  ·exact List.length_eq_zero_iff.1 h2
  ·exact absurd ⟨h, h2⟩ h1
theorem part_canon (l : List UInt8) (h : (takeS l).2.2 = 0) : l = enBytes (partE l) [] ++ (takeS l).2.1 := by
 obtain ⟨h1, h2⟩ := num2_inv 65535 ((takeP l).2.1, (takeP l).2.2) h
 obtain ⟨h3, h4⟩ := num2_inv 65535 ((takeK l).2.1, (takeK l).2.2) h1
 have h5 := rdTextS_inv 24 l h3
 dsimp only at h2 h4
 change (takeP l).2.1 = sev (takeS l).1.toNat ++ (takeS l).2.1 at h2
 change (takeK l).2.1 = sev (takeP l).1.toNat ++ (takeP l).2.1 at h4
 change l = txt (takeK l).1 ++ (takeK l).2.1 at h5
 rw [h4, h2] at h5
 unfold enBytes partE
 simp only [sevs, List.flatMap_cons, List.flatMap_nil, List.append_nil, List.append_assoc]
 exact h5
theorem dec_canon (l : List UInt8) (h : endE ((takeS l).2.1, (takeS l).2.2) = 0) : enBytes (partE l) [] = l := by
 obtain ⟨h1, h2⟩ := endE_zero h
 dsimp only at h1 h2
 have h3 := part_canon l h1
 rw [h2, List.append_nil] at h3
 exact h3.symm
end Go.Proofs.Ytaninphcgeaepaa
namespace Go.Proofs.Ytaninphcgeaepaa
open Go.RowKit
attribute [local simp] eql_entry
attribute [local go_sem] guard_entry
theorem bless_cb : ∀ a b : List UInt8, Op.bytesLess a b = decide (Lib.compareBytes a b = -1)
 | [], [] => by simp [Op.bytesLess, Lib.compareBytes]
 | _ :: _, [] => by simp [Op.bytesLess, Lib.compareBytes]
 | [], _ :: _ => by simp [Op.bytesLess, Lib.compareBytes]
 | a :: x, b :: y => by
  rw [Op.bytesLess, bless_cb x y, Lib.compareBytes]
  by_cases h1 : a < b
  ·simp [h1]
  ·by_cases h2 : b < a
   ·have h3 : ¬ a = b := by rintro rfl; exact h1 h2
    simp [h1, h2, h3]
   ·have h3 : a = b := UInt8.le_antisymm (UInt8.not_lt.1 h2) (UInt8.not_lt.1 h1)
    simp [h3]
theorem cmp_two {a b : En} (h : sameE a b = false) : cmpE a b = if Op.bytesLess a.1 b.1 = true ∨ a.1 = b.1 ∧ (a.2.1 < b.2.1 ∨ a.2.1 = b.2.1 ∧ a.2.2 < b.2.2) then -1 else 1 := by
 have h1 := cmpE_lt (a := a) (b := b)
 have hb : (Op.bytesLess a.1 b.1 = true) ↔ Lib.compareBytes a.1 b.1 = -1 := by rw [bless_cb, decide_eq_true_eq]
 split
 ·rename_i h2
  exact h1.2 (h2.imp hb.1 id)
 ·rename_i h2
  have h3 : cmpE a b ≠ -1 := fun h4 => h2 ((h1.1 h4).imp hb.2 id)
  have h5 : cmpE a b ≠ 0 := fun h4 => of_decide_eq_false h (cmpE_eq.1 h4)
  rcases cmpE_three a b with h6 | h6 | h6
  ·exact absurd h6 h3
  ·exact absurd h6 h5
  ·exact h6
set_option maxRecDepth 100000 in
set_option maxHeartbeats 1000000 in
theorem rcompare_any (a b : En) (w_ : World) : Calls Try.prog 12 #[enV a, enV b] w_ fun x w' => x = .returned (.int .i64 (cmpE a b)) ∧ Below w_.heap.size w_ w' := by
 obtain ⟨k, p, s⟩ := a
 obtain ⟨k2, p2, s2⟩ := b
 obtain ⟨w0, hw0⟩ : ∃ w0, w0 = (w_.alloc (.cells #[.string (str k), .int .i64 p, .int .i64 s] 36)).alloc (.cells #[.string (str k2), .int .i64 p2, .int .i64 s2] 36) := ⟨_, rfl⟩
 have hg0 : Grow w_ w0 := by subst hw0; exact ((Grow.refl w_).alloc _).alloc _
 have hA : Blk w0 w_.heap.size 36 [.string (str k), .int .i64 p, .int .i64 s] := by subst hw0; exact (Blk.new w_ _ [_, _, _]).alloc _
 have hB : Blk w0 (w_.heap.size + 1) 36 [.string (str k2), .int .i64 p2, .int .i64 s2] := by
  have := Blk.new (w_.alloc (.cells #[.string (str k), .int .i64 p, .int .i64 s] 36)) 36 [.string (str k2), .int .i64 p2, .int .i64 s2]
  have e1 : (w_.alloc (.cells #[.string (str k), .int .i64 p, .int .i64 s] 36)).heap.size = w_.heap.size + 1 := by simp
  rw [e1] at this
  subst hw0
  exact this
 obtain ⟨c0, c1, c2, _⟩ := enres hA
 obtain ⟨d0, d1, d2, _⟩ := enres hB
 unfold enV
 go_enter Try.func12, Try.ntmps12
 go_upto_region 1 with fail
 rw [← hw0]
 clear hw0
 cases hS : sameE (k, p, s) (k2, p2, s2) with
 | true =>
  go_wp2_with fail
  go_ret
  have h1 : (k, p, s) = (k2, p2, s2) := of_decide_eq_true hS
  refine ⟨?_, hg0⟩
  rw [h1, cmpE_self]
  rfl
 | false =>
  have hc := cmp_two hS
  dsimp only at hc
  have HC := keep hc
  clear hc
  go_upto_region 3 with fail
  clear hS
  go_wp2_with fail
  all_goals go_ret
  all_goals refine ⟨?_, hg0⟩
  all_goals (rw [HC.out]; simp only [str_list] at *)
  all_goals (split <;> first | rfl | (exfalso; simp_all; done) | (exfalso; simp_all; omega))
end Go.Proofs.Ytaninphcgeaepaa
