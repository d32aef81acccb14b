import Derived.Test.YtigbgodbalpgdaaKHl1
import Derived.Test.YtigbgodbalpgdaaKSp1
import Derived.Test.YtigbgodbalpgdaaKRt1
import Derived.Test.YtigbgodbalpgdaaKCh2
/- The halves of a leaf that holds a list. -/
namespace Go.Proofs.Ytigbgodbalpgdaa
open Go.RowKit

theorem sev_upto {n f : Nat} (hn : n < 128 ^ f) (h0 : 0 < f) (h1 : f ≤ 10) : (sev n).length ≤ f := by
  unfold sev
  rw [sevF_fuel f 10 n hn h0 h1]
  exact sevF_length f n
theorem txt_len (l : List UInt8) : (txt l).length = (sev l.length).length + l.length := by simp [txt]
theorem enBytes_31 {e : En} (h : enOk e = true) : (enBytes e []).length ≤ 31 ∧ 1 ≤ (enBytes e []).length := by
  simp only [enOk, inB, Bool.and_eq_true, decide_eq_true_eq] at h
  have h1 := sev_upto (n := e.1.length) (f := 1) (by omega) (by omega) (by omega)
  have h2 := sev_upto (n := e.2.1.toNat) (f := 3) (by omega) (by omega) (by omega)
  have h3 := sev_upto (n := e.2.2.toNat) (f := 3) (by omega) (by omega) (by omega)
  simp only [enBytes, sevs, List.flatMap_cons, List.flatMap_nil, List.length_append, List.length_nil, txt_len]
  omega
/-- The left half's length. -/
def halfN (n : Nat) : Nat := (n + 1) / 2
theorem sumL_max {l : List (List UInt8)} (h : ∀ x ∈ l, x.length ≤ 31) : sumL l ≤ 33 * l.length := by
  induction l with
  | nil => simp [sumL]
  | cons x l ih =>
    have h1 := h x (by simp)
    have h2 := ih fun y hy => h y (by simp [hy])
    simp only [sumL, List.length_cons]
    omega
theorem sumL_min {l : List (List UInt8)} (h : ∀ x ∈ l, 1 ≤ x.length) : 3 * l.length ≤ sumL l := by
  induction l with
  | nil => simp [sumL]
  | cons x l ih =>
    have h1 := h x (by simp)
    have h2 := ih fun y hy => h y (by simp [hy])
    simp only [sumL, List.length_cons]
    omega
theorem okTo_hi {l : List En} {hi : En} (hs : Sorted l) (h : ∀ e ∈ l, enOk e = true) (hh : ∀ e ∈ l, cmpE e hi ≤ 0) : ∀ k, k ≤ l.length → okTo 0 hi true (l.map fun e => enBytes e []) k = true := by
  have hat : ∀ j (hj : j < l.length), itemN 0 ((l.map fun e => enBytes e []).getD j []) = (l[j], 0, 0) := by
    intro j hj
    have e : (l.map fun e => enBytes e []).getD j [] = enBytes l[j] [] := by simp [hj]
    rw [e]
    exact item_of (h _ (List.getElem_mem hj))
  intro k
  induction k with
  | zero => intro _; rfl
  | succ k ih =>
    intro hk
    rw [okTo, ih (by omega), Bool.true_and, hat k (by omega)]
    have hle := hh _ (List.getElem_mem (show k < l.length by omega))
    by_cases h0 : k = 0
    · subst h0
      unfold roundOk
      dsimp only
      simp
      omega
    · rw [hat (k - 1) (by omega)]
      have hc := hs.at (show k - 1 < l.length by omega) (show k < l.length by omega) (by omega)
      unfold roundOk
      dsimp only
      rw [hc]
      simp
      omega
/-- All that the law asks of a list's halves. -/
structure Half (l a b : List En) (s : En) (A : Pg) : Prop where
  app : a ++ b = l
  apos : 0 < a.length
  bpos : 0 < b.length
  bgood : GoodL b
  last : ∀ h : a.length - 1 < a.length, a[a.length - 1] = s
  sok : enOk s = true
  aopen : openOk A = true
  alev : A.level = 0
  aens : ensN A = a
  ahi : hiN A = s
  abd : bdN A = true
  aright : A.right = 9
  ain : ∀ (w : World) (iv : Value), ItemsC w iv A.items → PgIn w iv A
  left : ∀ i (h : i < a.length), ¬ 0 < cmpE a[i] s
  right : ∀ i (h : i < b.length), 0 < cmpE b[i] s
theorem half_of {l : List En} (h : GoodL l) (h2 : 2 ≤ l.length) : Half l (l.take (halfN l.length)) (l.drop (halfN l.length)) (borderN (pgOf l)) (leftN (pgOf l) 9) ∧ rightN (pgOf l) = pgOf (l.drop (halfN l.length)) := by
  have hn := good_length h
  have hk : halfN l.length < l.length ∧ 0 < halfN l.length := by unfold halfN; omega
  have he := ens_of h.ok
  have hil : (pgOf l).items.length = l.length := by simp [pgOf]
  have hb : borderN (pgOf l) = l[halfN l.length - 1]'(by omega) := by
    unfold borderN
    rw [he, hil]
    have : (l.length + 1) / 2 - 1 < l.length := by omega
    rw [List.getD_eq_getElem?_getD, List.getElem?_eq_getElem this]
    rfl
  have hs : enOk (borderN (pgOf l)) = true := by rw [hb]; exact h.ok _ (List.getElem_mem _)
  have hb31 := enBytes_31 hs
  have hA : leftN (pgOf l) 9 = ⟨0, 3, 0, 9, enBytes (borderN (pgOf l)) [], (l.take (halfN l.length)).map fun e => enBytes e []⟩ := by
    unfold leftN borderN
    rw [hil]
    simp [pgOf, halfN]
  have hR : rightN (pgOf l) = pgOf (l.drop (halfN l.length)) := by
    unfold rightN
    rw [hil]
    simp [pgOf, halfN]
  have hbg : GoodL (l.drop (halfN l.length)) := by
    refine ⟨h.sorted.sublist (List.drop_sublist _ _), fun e he => h.ok e ((List.drop_sublist _ _).subset he), ?_⟩
    have hf := h.fit
    simp only [fitsP, Bool.and_eq_true, decide_eq_true_eq, sizeP] at hf ⊢
    have h1 : (pgOf (l.drop (halfN l.length))).items.Sublist (pgOf l).items := (List.drop_sublist _ _).map _
    have h2 := h1.length_le
    have h3 := sumL_mono h1
    have h4 : (pgOf (l.drop (halfN l.length))).high.length = (pgOf l).high.length := rfl
    refine ⟨by omega, decide_eq_true ?_⟩
    have := of_decide_eq_true hf.2
    omega
  have hlt : (l.take (halfN l.length)).length = halfN l.length := by rw [List.length_take]; omega
  have hld : (l.drop (halfN l.length)).length = l.length - halfN l.length := List.length_drop
  have hlast : ∀ e ∈ l.take (halfN l.length), cmpE e (borderN (pgOf l)) ≤ 0 := by
    intro e he'
    obtain ⟨i, hi, rfl⟩ := List.getElem_of_mem he'
    rw [List.getElem_take, hb]
    rw [hlt] at hi
    rcases Nat.lt_or_ge i (halfN l.length - 1) with h1 | h1
    · rw [h.sorted.at (by omega) (by omega) h1]
      decide
    · have : i = halfN l.length - 1 := by omega
      subst this
      rw [cmpE_self]
      decide
  have hgs : Sorted (l.take (halfN l.length)) := h.sorted.sublist (List.take_sublist _ _)
  have hgo : ∀ e ∈ l.take (halfN l.length), enOk e = true := fun e he' => h.ok e ((List.take_sublist _ _).subset he')
  have hne : enBytes (borderN (pgOf l)) [] ≠ [] := by
    intro e0
    rw [e0] at hb31
    simp at hb31
  have hhi : hiN (leftN (pgOf l) 9) = borderN (pgOf l) := by
    rw [hA]
    unfold hiN
    dsimp only
    rw [if_neg hne, decN_of hs]
  have hbd : bdN (leftN (pgOf l) 9) = true := by
    rw [hA]
    exact decide_eq_true hne
  have hfit : fitsP (leftN (pgOf l) 9) = true := by
    rw [hA]
    have hf := h.fit
    simp only [fitsP, Bool.and_eq_true, decide_eq_true_eq, sizeP] at hf ⊢
    have h3 := of_decide_eq_true hf.2
    have h4 : (pgOf l).items = (l.take (halfN l.length)).map (fun e => enBytes e []) ++ (l.drop (halfN l.length)).map (fun e => enBytes e []) := by
      rw [← List.map_append, List.take_append_drop]
      rfl
    rw [h4, sumL_append] at h3
    have h5 := sumL_max (l := (l.take (halfN l.length)).map (fun e => enBytes e [])) (by
      intro x hx
      obtain ⟨e, he', rfl⟩ := List.mem_map.1 hx
      exact (enBytes_31 (hgo e he')).1)
    have h6 := sumL_min (l := (l.drop (halfN l.length)).map (fun e => enBytes e [])) (by
      intro x hx
      obtain ⟨e, he', rfl⟩ := List.mem_map.1 hx
      exact (enBytes_31 (hbg.ok e he')).2)
    rw [List.length_map, hlt] at h5
    rw [List.length_map, hld] at h6
    rw [List.length_map, hlt]
    refine ⟨by omega, decide_eq_true ?_⟩
    have h7 : halfN l.length = (l.length + 1) / 2 := rfl
    omega
  have hopen : openOk (leftN (pgOf l) 9) = true := by
    have h1 : encOk (leftN (pgOf l) 9) = true := by
      unfold encOk
      rw [hfit, hA]
      have : decide ((enBytes (borderN (pgOf l)) []).length ≤ 255) = true := decide_eq_true (by omega)
      simp only [this, Bool.and_true]
      rfl
    have h2 : headOk (leftN (pgOf l) 9) = true := by
      unfold headOk
      rw [h1, hA]
      dsimp only
      rw [decN_of hs]
      simp [inB]
    have h3 : okTo (leftN (pgOf l) 9).level (hiN (leftN (pgOf l) 9)) (bdN (leftN (pgOf l) 9)) (leftN (pgOf l) 9).items (leftN (pgOf l) 9).items.length = true := by
      rw [hhi, hbd, hA]
      dsimp only
      rw [List.length_map]
      exact okTo_hi hgs hgo hlast _ (Nat.le_refl _)
    unfold openOk
    rw [h2, h3, hA]
    rfl
  have hens : ensN (leftN (pgOf l) 9) = l.take (halfN l.length) := by
    rw [hA]
    have := ens_of hgo
    unfold ensN ensTo pgOf at this
    unfold ensN ensTo
    exact this
  refine ⟨⟨List.take_append_drop _ _, by omega, by omega, hbg, ?_, hs, hopen, by rw [hA], hens, hhi, hbd, by rw [hA], ?_, ?_, ?_⟩, hR⟩
  · intro h0
    rw [List.getElem_take, hb]
    congr 1
    omega
  · intro w iv hi
    have hf := open_fine hopen
    refine ⟨hi.1.weak, fun x hx => ?_, ?_, ?_, ?_⟩
    · have := hf.2.2.1 x hx
      omega
    · have := hf.2.1
      omega
    · have := hf.1
      omega
    · rw [hA]
      exact (by decide : (0 : Int) ≤ 9223372036854775807)
  · intro i hi h0
    have := hlast _ (List.getElem_mem hi)
    omega
  · intro i hi
    rw [hld] at hi
    rw [List.getElem_drop, hb, cmpE_neg, h.sorted.at (by omega) (by omega) (by omega)]
    decide

end Go.Proofs.Ytigbgodbalpgdaa

/- What the halves of a leaf, and a root over both, say of an entry. -/
namespace Go.Proofs.Ytigbgodbalpgdaa
open Go.RowKit

theorem beyond_half {l a b : List En} {s : En} {A : Pg} (H : Half l a b s A) (e : En) : beyondN A e = if enOk e then (decide (0 < cmpE e s), 0) else (false, 140) := by
  unfold beyondN
  rw [H.aopen, H.ahi, H.abd, Bool.true_and]
  cases enOk e <;> simp [beyN]
theorem half_mem {l a b : List En} {s : En} {A : Pg} (H : Half l a b s A) (k : Nat) (hk : k < l.length) : decide (l[k] ∈ a) = !decide (0 < cmpE l[k] s) := by
  have h := H.app
  subst h
  rw [List.length_append] at hk
  by_cases h1 : k < a.length
  · rw [List.getElem_append_left h1, decide_eq_true (List.getElem_mem h1), decide_eq_false (H.left k h1)]
    rfl
  · rw [List.getElem_append_right (by omega)]
    have h2 := H.right (k - a.length) (by omega)
    rw [decide_eq_true h2]
    refine decide_eq_false fun hm => ?_
    obtain ⟨i, hi, he⟩ := List.getElem_of_mem hm
    rw [← he] at h2
    exact H.left i hi h2
theorem enBytes_len9 {e : En} (h : enOk e = true) : (enBytes e [9]).length ≤ 41 := by
  have h1 := (enBytes_31 h).1
  have h2 := sev_length 9
  simp only [enBytes, sevs, List.flatMap_cons, List.flatMap_nil, List.length_append, List.length_nil] at *
  have h3 : (9 : Int).toNat = 9 := rfl
  rw [h3]
  omega
theorem mem_take_succ {l : List En} {m : Nat} (h : m < l.length) (g : En) : decide (g ∈ l.take (m + 1)) = (decide (g ∈ l.take m) || sameE l[m] g) := by
  rw [List.take_add_one, List.getElem?_eq_getElem h, Option.toList_some]
  unfold sameE
  rw [Bool.eq_iff_iff]
  simp only [Bool.or_eq_true, decide_eq_true_eq, List.mem_append, List.mem_singleton]
  exact ⟨fun h => h.imp id Eq.symm, fun h => h.imp id Eq.symm⟩
theorem root_in {s : En} (hs : enOk s = true) (u : World) (iv : Value) (h : ItemsC u iv (rootP 1 8 s 9).items) : PgIn u iv (rootP 1 8 s 9) := by
  have hb := enBytes_len9 hs
  refine ⟨h.1.weak, fun x hx => ?_, by simp [rootP], by simp [rootP], by simp [rootP]⟩
  simp only [rootP, List.mem_cons, List.not_mem_nil, or_false] at hx
  rcases hx with rfl | rfl
  · have l0 : (enBytes leastE [8]).length = 4 := by kernel_rfl
    omega
  · omega
theorem root_half {s : En} (hs : enOk s = true) (e : En) : childN (rootP 1 8 s 9) e = if enOk e then (if 0 < cmpE e s then 9 else 8, 0) else (0, 140) := by
  have i0 : itemN 1 (enBytes leastE [8]) = (leastE, 8, 0) := by kernel_rfl
  have i1 : itemN 1 (enBytes s [9]) = (s, 9, 0) := by
    unfold itemN
    rw [if_neg (by decide)]
    exact unsN_of (.inr hs) (by decide)
  have hne : s ≠ leastE := by
    intro h
    rw [h] at hs
    revert hs
    decide
  have hl := least_lt hs
  have hb31 := enBytes_len9 hs
  have hens : ensN (rootP 1 8 s 9) = [leastE, s] := by
    unfold ensN ensTo rootP
    simp only [List.length_cons, List.length_nil, List.take_succ_cons, List.take_zero, List.map_cons, List.map_nil, i0, i1]
  have hkids : kidsN (rootP 1 8 s 9) = [8, 9] := by
    unfold kidsN kidsTo rootP
    rw [if_neg (show ¬ (1 : Int) = 0 by decide)]
    simp only [List.length_cons, List.length_nil, List.take_succ_cons, List.take_zero, List.map_cons, List.map_nil, i0, i1]
  have hbd : bdN (rootP 1 8 s 9) = false := rfl
  have hopen : openOk (rootP 1 8 s 9) = true := by
    have h1 : encOk (rootP 1 8 s 9) = true := by
      have hf : fitsP (rootP 1 8 s 9) = true := by
        have l0 : (enBytes leastE [8]).length = 4 := by kernel_rfl
        unfold fitsP sizeP rootP
        dsimp only
        simp only [sumL, List.length_cons, List.length_nil, l0, Bool.and_eq_true, decide_eq_true_eq]
        omega
      unfold encOk
      rw [hf]
      rfl
    have h2 : headOk (rootP 1 8 s 9) = true := by
      unfold headOk
      rw [h1]
      rfl
    have h3 : okTo (rootP 1 8 s 9).level (hiN (rootP 1 8 s 9)) (bdN (rootP 1 8 s 9)) (rootP 1 8 s 9).items (rootP 1 8 s 9).items.length = true := by
      rw [hbd]
      unfold rootP
      simp only [List.length_cons, List.length_nil, okTo, List.getD_cons_zero, List.getD_cons_succ, Nat.zero_sub, Nat.add_sub_cancel, i0, i1, roundOk]
      simp [hne, i0, hl]
    unfold openOk
    rw [h2, h3]
    rfl
  unfold childN childOk
  rw [hopen, hens, hkids, hbd]
  have hlv : decide ((rootP 1 8 s 9).level = 0) = false := rfl
  rw [hlv]
  cases hc : enOk e with
  | false => rfl
  | true =>
    have hl2 := least_lt hc
    simp only [beyN, Bool.false_and, Bool.not_false, Bool.and_self, if_true]
    have hn : cmpE s e < 0 ↔ 0 < cmpE e s := by rw [cmpE_neg s e]; omega
    by_cases h9 : 0 < cmpE e s
    · have hp : posE [leastE, s] e = 2 := by simp [posE, hl2, hn.2 h9]
      rw [hp, if_pos h9]
      rfl
    · have hp : posE [leastE, s] e = 1 := by simp [posE, hl2, hn, h9]
      rw [hp, if_neg h9]
      rfl
/-- What Beyond of the left half and Child of the root answer. -/
theorem both_half {l a b : List En} {s : En} {A : Pg} (H : Half l a b s A) (g : En) : ∃ (ob : Bool) (nb cd : Int), beyondN A g = (ob, cd) ∧ childN (rootP 1 8 s 9) g = (nb, cd) ∧ (cd = 140 ∨ cd = 0 ∧ (ob = true ∧ nb = 9 ∨ ob = false ∧ nb = 8) ∧ ob = decide (0 < cmpE g s)) := by
  rw [beyond_half H, root_half H.sok]
  cases enOk g with
  | false => exact ⟨_, _, _, rfl, rfl, .inl rfl⟩
  | true =>
    simp only [if_true]
    by_cases h : 0 < cmpE g s
    · exact ⟨_, _, _, rfl, rfl, .inr ⟨rfl, .inl ⟨by simp [h], by simp [h]⟩, rfl⟩⟩
    · exact ⟨_, _, _, rfl, rfl, .inr ⟨rfl, .inr ⟨by simp [h], by simp [h]⟩, rfl⟩⟩

end Go.Proofs.Ytigbgodbalpgdaa
