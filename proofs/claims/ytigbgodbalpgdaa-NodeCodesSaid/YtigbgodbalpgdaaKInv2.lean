import Derived.Test.YtigbgodbalpgdaaKNd5
import Derived.Test.YtigbgodbalpgdaaKInv1
/- Entries: their order, and that their bytes are read back. -/
namespace Go.Proofs.Ytigbgodbalpgdaa
open Go.RowKit

theorem or3_zero (a b c : Int) : or3 a b c = 0 ↔ a = 0 ∧ b = 0 ∧ c = 0 := by
  unfold or3
  split
  · constructor <;> intro h <;> simp_all
  · split <;> constructor <;> intro h <;> simp_all

theorem cmpE_self (a : En) : cmpE a a = 0 := by
  rw [cmpE, or3_zero]
  exact ⟨cb_self _, by simp [Lib.compareInt], by simp [Lib.compareInt]⟩
theorem ci_zero {a b : Int} (h : Lib.compareInt a b = 0) : a = b := by
  unfold Lib.compareInt at h; split at h
  · simp at h
  · split at h
    · simp at h
    · omega
theorem ci_neg (a b : Int) : Lib.compareInt a b = -Lib.compareInt b a := by
  unfold Lib.compareInt
  by_cases h : a < b
  · rw [if_pos h, if_neg (by omega), if_pos h]
  · by_cases k : b < a
    · rw [if_neg h, if_pos k, if_pos k]; rfl
    · rw [if_neg h, if_neg k, if_neg k, if_neg h]; rfl
theorem ci_three (a b : Int) : Lib.compareInt a b = -1 ∨ Lib.compareInt a b = 0 ∨ Lib.compareInt a b = 1 := by
  unfold Lib.compareInt
  split
  · exact .inl rfl
  · split
    · exact .inr (.inr rfl)
    · exact .inr (.inl rfl)
theorem ci_lt {a b : Int} : Lib.compareInt a b = -1 ↔ a < b := by
  unfold Lib.compareInt
  by_cases h : a < b
  · simp [h]
  · rw [if_neg h]
    split <;> simp [h]
theorem cmpE_eq {a b : En} : cmpE a b = 0 ↔ a = b := by
  constructor
  · intro h
    obtain ⟨h1, h2, h3⟩ := (or3_zero _ _ _).1 h
    exact Prod.ext (cb_zero h1) (Prod.ext (ci_zero h2) (ci_zero h3))
  · rintro rfl; exact cmpE_self _
theorem cmpE_neg (a b : En) : cmpE a b = -cmpE b a := by
  unfold cmpE
  rw [cb_neg a.1 b.1, ci_neg a.2.1 b.2.1, ci_neg a.2.2 b.2.2]
  generalize Lib.compareBytes b.1 a.1 = x
  generalize Lib.compareInt b.2.1 a.2.1 = y
  generalize Lib.compareInt b.2.2 a.2.2 = z
  unfold or3
  by_cases hx : x = 0
  · by_cases hy : y = 0
    · simp [hx, hy]
    · simp [hx, hy]
  · simp [hx]
theorem cmpE_three (a b : En) : cmpE a b = -1 ∨ cmpE a b = 0 ∨ cmpE a b = 1 := by
  unfold cmpE or3
  split
  · exact cb_three _ _
  · split
    · exact ci_three _ _
    · exact ci_three _ _
theorem cmpE_lt {a b : En} : cmpE a b = -1 ↔ Lib.compareBytes a.1 b.1 = -1 ∨ a.1 = b.1 ∧ (a.2.1 < b.2.1 ∨ a.2.1 = b.2.1 ∧ a.2.2 < b.2.2) := by
  unfold cmpE or3
  by_cases h : Lib.compareBytes a.1 b.1 = 0
  · have e := cb_zero h
    rw [if_neg (by simp [h])]
    by_cases k : Lib.compareInt a.2.1 b.2.1 = 0
    · have e2 := ci_zero k
      rw [if_neg (by simp [k]), ci_lt]
      constructor
      · intro g; exact .inr ⟨e, .inr ⟨e2, g⟩⟩
      · rintro (g | ⟨_, g | g⟩)
        · rw [h] at g; simp at g
        · omega
        · exact g.2
    · rw [if_pos k, ci_lt]
      have e2 : a.2.1 ≠ b.2.1 := by intro e2; rw [e2] at k; simp [Lib.compareInt] at k
      constructor
      · intro g; exact .inr ⟨e, .inl g⟩
      · rintro (g | ⟨_, g | g⟩)
        · rw [h] at g; simp at g
        · exact g
        · exact absurd g.1 e2
  · rw [if_pos h]
    have e : a.1 ≠ b.1 := by intro e; rw [e] at h; exact h (cb_self _)
    constructor
    · exact .inl
    · rintro (g | g)
      · exact g
      · exact absurd g.1 e
theorem cmpE_trans {a b c : En} (h : cmpE a b = -1) (k : cmpE b c = -1) : cmpE a c = -1 := by
  rw [cmpE_lt] at h k ⊢
  rcases h with h | ⟨h, h'⟩
  · rcases k with k | ⟨k, _⟩
    · exact .inl (cb_trans h k)
    · exact .inl (k ▸ h)
  · rcases k with k | ⟨k, k'⟩
    · exact .inl (h ▸ k)
    · exact .inr ⟨h.trans k, by omega⟩

theorem takes_of (e : En) (more : List Int) (h : enFine e) :
    takeK (enBytes e more) = (e.1, sevs [e.2.1, e.2.2] ++ sevs more, 0) ∧ takeP (enBytes e more) = (e.2.1, sevs [e.2.2] ++ sevs more, 0) ∧ takeS (enBytes e more) = (e.2.2, sevs more, 0) := by
  obtain ⟨h1, h2, h3⟩ := h
  have a1 : takeK (enBytes e more) = (e.1, sevs [e.2.1, e.2.2] ++ sevs more, 0) := by
    unfold takeK enBytes txt
    rw [List.append_assoc]
    exact rdTextS_sev 24 e.1 _ (by omega) (by omega)
  have a2 : takeP (enBytes e more) = (e.2.1, sevs [e.2.2] ++ sevs more, 0) := by
    unfold takeP
    rw [a1]
    unfold rdNum2
    rw [if_pos rfl]
    have := rdNumS_sev 65535 e.2.1.toNat (sevs [e.2.2] ++ sevs more) (by omega) (by omega)
    rw [Int.toNat_of_nonneg h2.1] at this
    rw [← this]
    simp [sevs]
  refine ⟨a1, a2, ?_⟩
  unfold takeS
  rw [a2]
  unfold rdNum2
  rw [if_pos rfl]
  have := rdNumS_sev 65535 e.2.2.toNat (sevs more) (by omega) (by omega)
  rw [Int.toNat_of_nonneg h3.1] at this
  rw [← this]
  simp [sevs]

theorem decN_of {e : En} (h : enOk e = true) : decN (enBytes e []) = (e, 0) := by
  obtain ⟨a1, a2, a3⟩ := takes_of e [] (enOk_fine h)
  unfold decN decOkN partE
  rw [a1, a2, a3]
  have : enOk (e.1, e.2.1, e.2.2) = true := h
  simp [endE, sevs, this]

theorem unsN_of {e : En} {c : Int} (h : e = leastE ∨ enOk e = true) (hc : inB c 1 65535 = true) : unsN (enBytes e [c]) = (e, c, 0) := by
  have hf : enFine e := by
    rcases h with rfl | h
    · simp [enFine, leastE]
    · exact enOk_fine h
  obtain ⟨a1, a2, a3⟩ := takes_of e [c] hf
  have hc' := hc
  simp only [inB, Bool.and_eq_true, decide_eq_true_eq] at hc
  have a4 : takeC (enBytes e [c]) = (c, [], 0) := by
    unfold takeC
    rw [a3]
    unfold rdNum2
    rw [if_pos rfl]
    have := rdNumS_sev 65535 c.toNat [] (by omega) (by omega)
    rw [Int.toNat_of_nonneg (by omega)] at this
    rw [← this]
    simp [sevs]
  have ho : (decide ((e.1, e.2.1, e.2.2) = leastE) || enOk (e.1, e.2.1, e.2.2)) = true := by
    rcases h with h | h
    · have : (e.1, e.2.1, e.2.2) = leastE := h
      rw [decide_eq_true this]; rfl
    · have : enOk (e.1, e.2.1, e.2.2) = true := h
      rw [this]; simp
  unfold unsN unsOk partE
  rw [a1, a2, a3, a4]
  dsimp only
  rw [ho, hc']
  rfl

theorem enc_inj {a b : En} (ha : (encN a).2 = 0) (hb : (encN b).2 = 0) : (encN a).1 = (encN b).1 ↔ a = b := by
  have ka : enOk a = true := by
    unfold encN at ha
    split at ha
    · assumption
    · simp at ha
  have kb : enOk b = true := by
    unfold encN at hb
    split at hb
    · assumption
    · simp at hb
  constructor
  · intro h
    have h1 := decN_of ka
    have h2 := decN_of kb
    unfold encN at h
    rw [if_pos ka, if_pos kb] at h
    dsimp only at h
    rw [h] at h1
    exact (Prod.ext_iff.1 (h1.symm.trans h2)).1
  · rintro rfl; rfl

end Go.Proofs.Ytigbgodbalpgdaa
