
import Derived.Test.YtikmkimkhngihaaGreatKSort1
import Derived.Test.YtikmkimkhngihaaGreatKVq5
import Derived.Test.YtikmkimkhngihaaGreatKInv1
/- The document's versions in bytes are the program's: the same bytes are versions, and dead slots. -/
namespace Go.Proofs.YtikmkimkhngihaaGreat
open Go.RowKit

theorem ofS_pair (a b : UInt8) : ofS [a, b] = a.toNat * 256 + b.toNat := by
  have := a.toNat_lt; have := b.toNat_lt
  simp only [ofS, ofGo]; omega
theorem u8_of_nat (n : Nat) (c : UInt8) (h : n = c.toNat) : UInt8.ofNat n = c := by rw [h, byte_of]
theorem bigS_pair (a b : UInt8) : bigS (a.toNat * 256 + b.toNat) 2 = [a, b] := by
  have ha := a.toNat_lt; have hb := b.toNat_lt
  have e : bigS (a.toNat * 256 + b.toNat) 2 = [UInt8.ofNat ((a.toNat * 256 + b.toNat) / 2 ^ 8 % 256), UInt8.ofNat ((a.toNat * 256 + b.toNat) / 2 ^ 0 % 256)] := rfl
  rw [e, u8_of_nat _ a (by omega), u8_of_nat _ b (by omega)]
theorem bigS_one (f : Nat) : bigS f 1 = [UInt8.ofNat (f / 2 ^ 0 % 256)] := rfl

/-- Does the document take these bytes for a version? -/
def rdDec (l : List UInt8) : Bool :=
  decide (5 ≤ l.length) && (decide ((l.getD 0 0).toNat = 1 ∨ (l.getD 0 0).toNat = 3) && (decide (endE (decVal l).2 = 0) && tupOk (decParts l).xmin (decParts l).xmax (str (decParts l).key) (str (decParts l).val)))

theorem rdTextS_most (most : Int) (l : List UInt8) (h0 : 0 ≤ most) : ((rdTextS most l).1.length : Int) ≤ most := by
  have hf := rdNumS_facts most l
  unfold rdTextS
  split
  · rename_i h
    have := hf.2.2.2.2 h
    split
    · simpa using h0
    · simp only [List.length_take]; omega
  · simpa using h0
theorem decVal_le (l : List UInt8) : ((decVal l).1.length : Int) ≤ 64 := by
  unfold decVal rdText2
  split
  · exact rdTextS_most 64 _ (by omega)
  · simp
theorem decKey_le (l : List UInt8) : ((decKey l).1.length : Int) ≤ 24 := rdTextS_most 24 _ (by omega)
theorem endE_of {x : List UInt8 × Int} (h1 : x.2 = 0) (h2 : x.1 = []) : endE x = 0 := by
  unfold endE; rw [h1, h2]; simp
theorem decVal_err (l : List UInt8) (h : (decVal l).2.2 = 0) : (decKey l).2.2 = 0 ∧ decVal l = rdTextS 64 (decKey l).2.1 := by
  unfold decVal rdText2 at h ⊢
  by_cases h0 : (decKey l).2.2 = 0
  · rw [if_pos h0]; exact ⟨h0, rfl⟩
  · rw [if_neg h0] at h; exact absurd h h0

theorem five_head {l : List UInt8} (h : 5 ≤ l.length) : ∃ a b c d e r, l = a :: b :: c :: d :: e :: r := by
  match l, h with
  | a :: b :: c :: d :: e :: r, _ => exact ⟨a, b, c, d, e, r, rfl⟩
theorem frozen_flag {n : Nat} (h : n = 1 ∨ n = 3) : (n % 4 / 2 == 1) = decide (n = 3) := by
  rcases h with rfl | rfl <;> rfl

theorem rdDec_eq (l : List UInt8) : rdDec l = decOk l := by
  by_cases h5 : 5 ≤ l.length
  case neg => unfold rdDec; rw [decOk_short (by omega), decide_eq_false h5]; rfl
  have key : rdDec l = true ↔ decOk l = true := by
    obtain ⟨a, b, c, d, e, r, rfl⟩ := five_head h5
    unfold rdDec decOk
    simp only [Bool.and_eq_true, decide_eq_true_eq]
    constructor
    · rintro ⟨_, hfl, hE, hok⟩
      obtain ⟨h1, h2⟩ := endE_zero hE
      simp only [tupOk, Bool.and_eq_true, decide_eq_true_eq] at hok
      obtain ⟨⟨⟨⟨⟨q1, q2⟩, q3⟩, q4⟩, q5⟩, q6⟩ := hok
      have hk : (decKey (a :: b :: c :: d :: e :: r)).1 ≠ [] := by
        intro hk
        have hk' : (decParts (a :: b :: c :: d :: e :: r)).key = [] := hk
        rw [hk'] at q5
        exact absurd q5 (by decide)
      exact ⟨⟨⟨⟨⟨⟨⟨h5, h1⟩, h2⟩, hfl⟩, by omega⟩, by omega⟩, by omega⟩, hk⟩
    · rintro ⟨⟨⟨⟨⟨⟨⟨_, h1⟩, h2⟩, hfl⟩, h3⟩, h4⟩, h6⟩, h7⟩
      have hkl := decKey_le (a :: b :: c :: d :: e :: r)
      have hvl := decVal_le (a :: b :: c :: d :: e :: r)
      have hkey : (decParts (a :: b :: c :: d :: e :: r)).key = (decKey (a :: b :: c :: d :: e :: r)).1 := rfl
      have hval : (decParts (a :: b :: c :: d :: e :: r)).val = (decVal (a :: b :: c :: d :: e :: r)).1 := rfl
      have hpos : 0 < (decKey (a :: b :: c :: d :: e :: r)).1.length := List.length_pos_iff.2 h7
      refine ⟨h5, hfl, endE_of h1 h2, ?_⟩
      simp only [tupOk, fitsB, Bool.and_eq_true, decide_eq_true_eq, str_size]
      rw [hkey, hval]
      refine ⟨⟨⟨⟨⟨by omega, by omega⟩, by omega⟩, by omega⟩, ?_, ?_⟩, ?_⟩
      · exact decide_eq_true (by omega)
      · exact decide_eq_true (by omega)
      · exact decide_eq_true (by omega)
  cases h : rdDec l <;> cases k : decOk l <;> simp_all
/-- A version that was read is laid as it was. -/
theorem tupS_canon (l : List UInt8) (h5 : 5 ≤ l.length) (hfl : (l.getD 0 0).toNat = 1 ∨ (l.getD 0 0).toNat = 3) (hE : endE (decVal l).2 = 0) :
    tupS (decParts l).xmin (decParts l).xmax (decParts l).frozen (decParts l).key (decParts l).val = l := by
  obtain ⟨h1, h2⟩ := endE_zero hE
  obtain ⟨a, b, c, d, e, r, rfl⟩ := five_head h5
  have hkey : (decParts (a :: b :: c :: d :: e :: r)).key = (decKey (a :: b :: c :: d :: e :: r)).1 := rfl
  have hval : (decParts (a :: b :: c :: d :: e :: r)).val = (decVal (a :: b :: c :: d :: e :: r)).1 := rfl
  have hfr : (decParts (a :: b :: c :: d :: e :: r)).frozen = decide (a.toNat = 3) := frozen_flag hfl
  obtain ⟨g1, g2⟩ := decVal_err _ h1
  have i1 := rdTextS_inv 24 r g1
  have i2 := rdTextS_inv 64 (decKey (a :: b :: c :: d :: e :: r)).2.1 (by rw [← g2]; exact h1)
  rw [← g2, h2, List.append_nil] at i2
  have hx : (decParts (a :: b :: c :: d :: e :: r)).xmin = ofS [b, c] := rfl
  have hy : (decParts (a :: b :: c :: d :: e :: r)).xmax = ofS [d, e] := rfl
  have hr : r = txt (decKey (a :: b :: c :: d :: e :: r)).1 ++ txt (decVal (a :: b :: c :: d :: e :: r)).1 := by rw [← i2]; exact i1
  have ha : bigS (if decide (a.toNat = 3) then 3 else 1) 1 = [a] := by
    have hfl' : a.toNat = 1 ∨ a.toNat = 3 := hfl
    rw [bigS_one]
    rcases hfl' with h | h
    · rw [u8_of_nat _ a (by rw [h]; rfl)]
    · rw [u8_of_nat _ a (by rw [h]; rfl)]
  unfold tupS
  rw [hkey, hval, hx, hy, hfr, ofS_pair, ofS_pair, bigS_pair, bigS_pair, ha, ← hr]
  rfl

/-- The bytes behind the mark of a dead slot: its key, what is left, what is wrong. -/
def deadT (l : List UInt8) : List UInt8 × List UInt8 × Int := rdTextS 24 l.tail
/-- Does the document take these bytes for a dead slot? -/
def deadOk (l : List UInt8) : Bool := !l.isEmpty && (decide ((l.getD 0 0).toNat = 4) && (decide (endE (deadT l).2 = 0) && fitsB (str (deadT l).1)))

theorem sev_four : sev 4 = [4] := by decide +kernel
theorem burNum_four (r : List UInt8) : burNum (4 :: r) = (4, r, 0) := by
  have h := rdNumS_sev 4 4 r (by omega) (by omega)
  rw [sev_four] at h
  exact h
theorem burTxt_four (r : List UInt8) : burTxt (4 :: r) = rdTextS 24 r := by
  unfold burTxt rdText2
  rw [burNum_four]
  rfl
theorem dead_eq (l : List UInt8) : deadOk l = buriedOk l := by
  have key : deadOk l = true ↔ buriedOk l = true := by
    unfold deadOk buriedOk
    simp only [Bool.and_eq_true, decide_eq_true_eq, Bool.not_eq_true']
    constructor
    · rintro ⟨h0, h1, h2, h3⟩
      obtain ⟨c, r, rfl⟩ : ∃ c r, l = c :: r := by
        cases l with
        | nil => cases h0
        | cons c r => exact ⟨c, r, rfl⟩
      have hc : c = 4 := UInt8.toNat_inj.1 h1
      subst hc
      obtain ⟨g1, g2⟩ := endE_zero h2
      rw [burTxt_four, burNum_four]
      refine ⟨⟨⟨g1, g2⟩, rfl⟩, ?_⟩
      cases hk : (rdTextS 24 r).1 with
      | nil =>
        have hk' : (deadT (4 :: r)).1 = [] := hk
        rw [hk'] at h3
        exact absurd h3 (by decide)
      | cons _ _ => rfl
    · rintro ⟨⟨⟨h1, h2⟩, h3⟩, h4⟩
      have h5 : (burNum l).2.2 = 0 := by
        unfold burTxt rdText2 at h1
        by_cases h0 : (burNum l).2.2 = 0
        · exact h0
        · rw [if_neg h0] at h1; exact absurd h1 h0
      have hi := rdNumS_inv 4 l h5
      have hi' : l = 4 :: (burNum l).2.1 := by
        have e : (rdNumS 4 l).1.toNat = 4 := by
          have : (rdNumS 4 l).1 = 4 := h3
          rw [this]; rfl
        rw [e, sev_four] at hi
        exact hi
      obtain ⟨r, hr⟩ : ∃ r, r = (burNum l).2.1 := ⟨_, rfl⟩
      rw [← hr] at hi'
      subst hi'
      rw [burTxt_four] at h1 h2 h4
      have hle := rdTextS_most 24 r (by omega)
      refine ⟨rfl, rfl, endE_of h1 h2, ?_⟩
      have e : deadT (4 :: r) = rdTextS 24 r := rfl
      simp only [fitsB, Bool.and_eq_true, decide_eq_true_eq, str_size, e]
      refine ⟨?_, by omega⟩
      cases hk : (rdTextS 24 r).1 with
      | nil => rw [hk] at h4; cases h4
      | cons _ _ => simp
  cases h : deadOk l <;> cases k : buriedOk l <;> simp_all
theorem dead_txt (l : List UInt8) (h : deadOk l = true) : (deadT l).1 = (burTxt l).1 := by
  simp only [deadOk, Bool.and_eq_true, decide_eq_true_eq, Bool.not_eq_true'] at h
  obtain ⟨h0, h1, -, -⟩ := h
  cases l with
  | nil => cases h0
  | cons c r =>
    have hc : c = 4 := UInt8.toNat_inj.1 h1
    subst hc
    rw [burTxt_four]
    rfl

end Go.Proofs.YtikmkimkhngihaaGreat
