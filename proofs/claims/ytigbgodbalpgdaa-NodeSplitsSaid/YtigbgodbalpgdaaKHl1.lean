import Derived.Test.YtigbgodbalpgdaaKRm1
import Derived.Test.YtigbgodbalpgdaaKCh2
/- Lists with one less. -/
namespace Go.Proofs.Ytigbgodbalpgdaa
open Go.RowKit

def remL (l : List En) (k : Nat) : List En := l.take k ++ l.drop (k + 1)
theorem remL_length {l : List En} {k : Nat} (h : k < l.length) : (remL l k).length = l.length - 1 := by unfold remL; simp; omega
theorem remL_get {l : List En} {k i : Nat} (h : k < l.length) (hi : i < (remL l k).length) : (remL l k)[i] = l[if k ≤ i then i + 1 else i]'(by rw [remL_length h] at hi; split <;> omega) := by
  have e : (remL l k)[i]? = l[if k ≤ i then i + 1 else i]? := by
    unfold remL
    rw [List.getElem?_append, List.length_take, Nat.min_eq_left (Nat.le_of_lt h)]
    by_cases hk : k ≤ i
    · rw [if_neg (by omega), if_pos hk, List.getElem?_drop]
      congr 1
      omega
    · rw [if_pos (by omega), if_neg hk, List.getElem?_take, if_pos (by omega)]
  rw [List.getElem?_eq_getElem hi, List.getElem?_eq_getElem (by rw [remL_length h] at hi; split <;> omega)] at e
  exact Option.some.inj e
theorem remL_sub (l : List En) (k : Nat) : (remL l k).Sublist l := by
  conv => rhs; rw [← List.take_append_drop k l]
  refine List.Sublist.append_left ?_ _
  rw [← List.drop_drop]
  exact List.drop_sublist 1 _
theorem sumL_mono {a b : List (List UInt8)} (h : a.Sublist b) : sumL a ≤ sumL b := by
  induction h with
  | slnil => exact Nat.le_refl _
  | cons x _ ih => simp only [sumL]; omega
  | cons_cons x _ ih => simp only [sumL]; omega
theorem remL_good {l : List En} (h : GoodL l) (k : Nat) : GoodL (remL l k) := by
  refine ⟨h.sorted.sublist (remL_sub l k), fun e he => h.ok e ((remL_sub l k).subset he), ?_⟩
  have hf := h.fit
  simp only [fitsP, Bool.and_eq_true, decide_eq_true_eq, sizeP] at hf ⊢
  have h1 : (pgOf (remL l k)).items.Sublist (pgOf l).items := (remL_sub l k).map _
  have h2 := h1.length_le
  have h3 := sumL_mono h1
  have h4 : (pgOf (remL l k)).high.length = (pgOf l).high.length := rfl
  refine ⟨by omega, decide_eq_true ?_⟩
  have := of_decide_eq_true hf.2
  omega
theorem outP_of (l : List En) (k : Nat) : outP (pgOf l) k = pgOf (remL l k) := by simp [outP, pgOf, remL]
theorem sorted_inj {l : List En} (h : Sorted l) {i j : Nat} (hi : i < l.length) (hj : j < l.length) (he : l[i] = l[j]) : i = j := by
  rcases Nat.lt_trichotomy i j with h1 | h1 | h1
  · have := h.at hi hj h1
    rw [he, cmpE_self] at this
    omega
  · exact h1
  · have := h.at hj hi h1
    rw [he, cmpE_self] at this
    omega
theorem tmod_fine (a : Int) (n : Nat) (hn : 0 < n) : -(n : Int) < a.tmod n ∧ a.tmod n < n := by
  have h1 := Int.tmod_lt_of_pos a (show (0 : Int) < n by omega)
  have h2 := Int.tmod_lt_of_pos (-a) (show (0 : Int) < n by omega)
  rw [Int.neg_tmod] at h2
  omega
/-- The entries of a leaf that holds a list. -/
theorem entries_of {l : List En} (h : GoodL l) (iv : Value) (u : World) (hi : ItemsC u iv (pgOf l).items) :
    Calls Try.prog 21 #[pgV (pgOf l) iv] u fun x w' => ∃ a c, x = .returned (.tuple #[.slice a l.length c, .int .i64 0]) ∧ EnsS w' (.slice a l.length c) l ∧ Below u.heap.size u w' := by
  refine (entries_node (pgOf l) iv u (pgIn_good h hi)).mono fun x w' hx => ?_
  unfold EntPost at hx
  rw [entriesOk_of h, if_pos rfl, ens_of h.ok] at hx
  obtain ⟨⟨a, c, h1, h2⟩, h3⟩ := hx
  exact ⟨a, c, h1, h2, h3⟩
theorem idx_fine (a : Int) (n : Nat) (h0 : 0 < n) (h : n ≤ 1000) : ∃ k : Nat, (wrap64 (a.tmod n + n)).tmod n = (k : Int) ∧ k < n := by
  obtain ⟨h1, h2⟩ := tmod_fine a n h0
  obtain ⟨m, hm⟩ : ∃ m : Nat, a.tmod n + n = (m : Int) := ⟨(a.tmod n + n).toNat, by omega⟩
  rw [hm, wrap64_small m (by omega)]
  exact ⟨m % n, by rw [Int.ofNat_tmod], Nat.mod_lt _ h0⟩
/-- An entry taken out of a leaf that holds a list. -/
theorem remove_of {l : List En} (h : GoodL l) (k : Nat) (hk : k < l.length) (iv : Value) (u : World) (hi : ItemsC u iv (pgOf l).items) :
    Calls Try.prog 38 #[pgV (pgOf l) iv, enV l[k]] u fun x w' => ∃ iv', x = .returned (.tuple #[pgV (pgOf (remL l k)) iv', .int .i64 0]) ∧ ItemsC w' iv' (pgOf (remL l k)).items ∧ Below u.heap.size u w' := by
  refine (remove_any (pgOf l) iv l[k] u (pgIn_good h hi)).mono fun x w' hx => ?_
  obtain ⟨Q, c, iv', rfl, h2, h3, h4⟩ := hx
  rw [entriesOk_of h] at h4
  have he := ens_of h.ok
  generalize ensN (pgOf l) = m at *
  subst he
  rcases h4 with ⟨_, j, hj, h5, rfl, rfl⟩ | ⟨h5 | h5, _⟩
  · have := sorted_inj h.sorted hj hk h5
    subst this
    rw [outP_of] at h2 ⊢
    exact ⟨iv', rfl, h2, h3⟩
  · cases h5
  · exact absurd (List.getElem_mem hk) h5

end Go.Proofs.Ytigbgodbalpgdaa

/- Lists with one more. -/
namespace Go.Proofs.Ytigbgodbalpgdaa
open Go.RowKit

theorem insL_length (l : List En) (e : En) : (insL l e).length = l.length + 1 := by
  have := posE_le l e
  simp [insL]
  omega
theorem insL_at {l : List En} {e : En} (h : posE l e < (insL l e).length) : (insL l e)[posE l e] = e := by
  have hk : (l.take (posE l e)).length = posE l e := by have := posE_le l e; simp; omega
  have h2 : (insL l e)[posE l e]? = some e := by
    unfold insL
    rw [List.getElem?_append_right (by omega), hk]
    simp
  rw [List.getElem?_eq_getElem h] at h2
  exact Option.some.inj h2
theorem insL_get {l : List En} {e : En} (i j : Nat) (hi : i < (insL l e).length) (hj : j < l.length) (h : (i < posE l e ∧ j = i) ∨ (posE l e < i ∧ i = j + 1)) : (insL l e)[i] = l[j] := by
  have hk : (l.take (posE l e)).length = posE l e := by have := posE_le l e; simp; omega
  have h2 : (insL l e)[i]? = l[j]? := by
    unfold insL
    rcases h with ⟨h1, rfl⟩ | ⟨h1, rfl⟩
    · rw [List.getElem?_append_left (by omega), List.getElem?_take, if_pos h1]
    · rw [List.getElem?_append_right (by omega), hk, show j + 1 - posE l e = (j - posE l e) + 1 by omega, List.getElem?_cons_succ, List.getElem?_drop]
      congr 1
      omega
  rw [List.getElem?_eq_getElem hi, List.getElem?_eq_getElem hj] at h2
  exact Option.some.inj h2
theorem remL_mid (a b : List En) (e : En) : remL (a ++ e :: b) a.length = a ++ b := by
  unfold remL
  have h : a ++ e :: b = (a ++ [e]) ++ b := by simp
  rw [List.take_left' rfl, h, List.drop_left' (by simp)]
theorem remL_insL (l : List En) (e : En) : remL (insL l e) (posE l e) = l := by
  have hk : (l.take (posE l e)).length = posE l e := by have := posE_le l e; simp; omega
  have h := remL_mid (l.take (posE l e)) (l.drop (posE l e)) e
  rw [hk, List.take_append_drop] at h
  exact h
/-- All that the law asks of a list with one more. -/
structure Ins (l m : List En) (e : En) (K : Nat) : Prop where
  good : GoodL m
  len : m.length = l.length + 1
  pos : K ≤ l.length
  at_ : ∀ h : K < m.length, m[K] = e
  get : ∀ (i j : Nat) (hi : i < m.length) (hj : j < l.length), (i < K ∧ j = i) ∨ (K < i ∧ i = j + 1) → m[i] = l[j]
  other : ∀ (i : Nat) (hi : i < m.length), i ≠ K → m[i] ≠ e
  less : ∀ (i : Nat) (hi : i + 1 < m.length), cmpE (m[i]'(by omega)) m[i + 1] = -1
  back : remL m K = l
  out : e ∉ l
theorem ins_of {l : List En} (h : GoodL l) {e : En} (hb : insB l e = true) : Ins l (insL l e) e (posE l e) := by
  have hg := insB_good h hb
  have hn : e ∉ l := by
    unfold insB at hb
    simp only [Bool.and_eq_true, Bool.not_eq_true', decide_eq_false_iff_not] at hb
    exact hb.2.1
  refine ⟨hg, insL_length l e, posE_le l e, fun h => insL_at h, fun i j hi hj h => insL_get i j hi hj h, ?_, fun i hi => hg.sorted.at (by omega) hi (by omega), remL_insL l e, hn⟩
  intro i hi hne he
  have hl := insL_length l e
  rcases Nat.lt_or_gt_of_ne hne with h1 | h1
  · have hp := posE_le l e
    rw [insL_get i i hi (by omega) (.inl ⟨h1, rfl⟩)] at he
    exact hn (he ▸ List.getElem_mem _)
  · obtain ⟨j, rfl⟩ : ∃ j, i = j + 1 := ⟨i - 1, by omega⟩
    rw [insL_get (j + 1) j hi (by omega) (.inr ⟨h1, rfl⟩)] at he
    exact hn (he ▸ List.getElem_mem _)
/-- What is there goes in no second time. -/
theorem insert_twice {l : List En} (h : GoodL l) {e : En} (he : e ∈ l) (iv : Value) (u : World) (hi : ItemsC u iv (pgOf l).items) :
    Calls Try.prog 37 #[pgV (pgOf l) iv, enV e] u fun x w' => ∃ iv', x = .returned (.tuple #[pgV zeroP iv', .int .i64 140]) ∧ ItemsC w' iv' zeroP.items ∧ Below u.heap.size u w' := by
  have h1 := insert_any (pgOf l) iv e u (pgIn_good h hi)
  have h2 : insN (pgOf l) e = (zeroP, 140) := by
    unfold insN
    rw [ens_of h.ok, if_pos (decide_eq_true he)]
    split <;> rfl
  rw [h2] at h1
  exact h1
/-- What is not there is not taken out. -/
theorem remove_none {l : List En} (h : GoodL l) {e : En} (he : e ∉ l) (iv : Value) (u : World) (hi : ItemsC u iv (pgOf l).items) :
    Calls Try.prog 38 #[pgV (pgOf l) iv, enV e] u fun x w' => ∃ iv', x = .returned (.tuple #[pgV zeroP iv', .int .i64 140]) ∧ ItemsC w' iv' zeroP.items ∧ Below u.heap.size u w' := by
  refine (remove_any (pgOf l) iv e u (pgIn_good h hi)).mono fun x w' hx => ?_
  obtain ⟨Q, c, iv', rfl, h2, h3, h4⟩ := hx
  rw [ens_of h.ok] at h4
  rcases h4 with ⟨_, j, hj, h5, _⟩ | ⟨_, rfl, rfl⟩
  · exact absurd (h5 ▸ List.getElem_mem hj) he
  · exact ⟨iv', rfl, h2, h3⟩

end Go.Proofs.Ytigbgodbalpgdaa
