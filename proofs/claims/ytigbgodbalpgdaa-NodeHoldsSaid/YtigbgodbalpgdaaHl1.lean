/- Lists with one more. -/
import Derived.Test.YtigbgodbalpgdaaRl1
namespace Go.Proofs.Ytigbgodbalpgdaa
open Go.RowKit

theorem insL_length (l : List En) (e : En) : (insL l e).length = l.length + 1 := by
  have := posE_le l e
  simp [insL]
  omega
theorem insL_at {l : List En} {e : En} (h : posE l e < (insL l e).length) : (insL l e)[posE l e] = e := by
  have hk : (l.take (posE l e)).length = posE l e := by have := posE_le l e; simp; omega
  have h2 : (insL l e)[posE l e]? = some e := by
    unfold insL
    rw [List.getElem?_append_right (by omega), hk]
    simp
  rw [List.getElem?_eq_getElem h] at h2
  exact Option.some.inj h2
theorem insL_get {l : List En} {e : En} (i j : Nat) (hi : i < (insL l e).length) (hj : j < l.length) (h : (i < posE l e ∧ j = i) ∨ (posE l e < i ∧ i = j + 1)) : (insL l e)[i] = l[j] := by
  have hk : (l.take (posE l e)).length = posE l e := by have := posE_le l e; simp; omega
  have h2 : (insL l e)[i]? = l[j]? := by
    unfold insL
    rcases h with ⟨h1, rfl⟩ | ⟨h1, rfl⟩
    · rw [List.getElem?_append_left (by omega), List.getElem?_take, if_pos h1]
    · rw [List.getElem?_append_right (by omega), hk, show j + 1 - posE l e = (j - posE l e) + 1 by omega, List.getElem?_cons_succ, List.getElem?_drop]
      congr 1
      omega
  rw [List.getElem?_eq_getElem hi, List.getElem?_eq_getElem hj] at h2
  exact Option.some.inj h2
theorem remL_mid (a b : List En) (e : En) : remL (a ++ e :: b) a.length = a ++ b := by
  unfold remL
  have h : a ++ e :: b = (a ++ [e]) ++ b := by simp
  rw [List.take_left' rfl, h, List.drop_left' (by simp)]
theorem remL_insL (l : List En) (e : En) : remL (insL l e) (posE l e) = l := by
  have hk : (l.take (posE l e)).length = posE l e := by have := posE_le l e; simp; omega
  have h := remL_mid (l.take (posE l e)) (l.drop (posE l e)) e
  rw [hk, List.take_append_drop] at h
  exact h
/-- All that the law asks of a list with one more. -/
structure Ins (l m : List En) (e : En) (K : Nat) : Prop where
  good : GoodL m
  len : m.length = l.length + 1
  pos : K ≤ l.length
  at_ : ∀ h : K < m.length, m[K] = e
  get : ∀ (i j : Nat) (hi : i < m.length) (hj : j < l.length), (i < K ∧ j = i) ∨ (K < i ∧ i = j + 1) → m[i] = l[j]
  other : ∀ (i : Nat) (hi : i < m.length), i ≠ K → m[i] ≠ e
  less : ∀ (i : Nat) (hi : i + 1 < m.length), cmpE (m[i]'(by omega)) m[i + 1] = -1
  back : remL m K = l
  out : e ∉ l
theorem ins_of {l : List En} (h : GoodL l) {e : En} (hb : insB l e = true) : Ins l (insL l e) e (posE l e) := by
  have hg := insB_good h hb
  have hn : e ∉ l := by
    unfold insB at hb
    simp only [Bool.and_eq_true, Bool.not_eq_true', decide_eq_false_iff_not] at hb
    exact hb.2.1
  refine ⟨hg, insL_length l e, posE_le l e, fun h => insL_at h, fun i j hi hj h => insL_get i j hi hj h, ?_, fun i hi => hg.sorted.at (by omega) hi (by omega), remL_insL l e, hn⟩
  intro i hi hne he
  have hl := insL_length l e
  rcases Nat.lt_or_gt_of_ne hne with h1 | h1
  · have hp := posE_le l e
    rw [insL_get i i hi (by omega) (.inl ⟨h1, rfl⟩)] at he
    exact hn (he ▸ List.getElem_mem _)
  · obtain ⟨j, rfl⟩ : ∃ j, i = j + 1 := ⟨i - 1, by omega⟩
    rw [insL_get (j + 1) j hi (by omega) (.inr ⟨h1, rfl⟩)] at he
    exact hn (he ▸ List.getElem_mem _)
/-- What is there goes in no second time. -/
theorem insert_twice {l : List En} (h : GoodL l) {e : En} (he : e ∈ l) (iv : Value) (u : World) (hi : ItemsC u iv (pgOf l).items) :
    Calls Try.prog 37 #[pgV (pgOf l) iv, enV e] u fun x w' => ∃ iv', x = .returned (.tuple #[pgV zeroP iv', .int .i64 140]) ∧ ItemsC w' iv' zeroP.items ∧ Below u.heap.size u w' := by
  have h1 := insert_any (pgOf l) iv e u (pgIn_good h hi)
  have h2 : insN (pgOf l) e = (zeroP, 140) := by
    unfold insN
    rw [ens_of h.ok, if_pos (decide_eq_true he)]
    split <;> rfl
  rw [h2] at h1
  exact h1
/-- What is not there is not taken out. -/
theorem remove_none {l : List En} (h : GoodL l) {e : En} (he : e ∉ l) (iv : Value) (u : World) (hi : ItemsC u iv (pgOf l).items) :
    Calls Try.prog 38 #[pgV (pgOf l) iv, enV e] u fun x w' => ∃ iv', x = .returned (.tuple #[pgV zeroP iv', .int .i64 140]) ∧ ItemsC w' iv' zeroP.items ∧ Below u.heap.size u w' := by
  refine (remove_any (pgOf l) iv e u (pgIn_good h hi)).mono fun x w' hx => ?_
  obtain ⟨Q, c, iv', rfl, h2, h3, h4⟩ := hx
  rw [ens_of h.ok] at h4
  rcases h4 with ⟨_, j, hj, h5, _⟩ | ⟨_, rfl, rfl⟩
  · exact absurd (h5 ▸ List.getElem_mem hj) he
  · exact ⟨iv', rfl, h2, h3⟩

end Go.Proofs.Ytigbgodbalpgdaa
