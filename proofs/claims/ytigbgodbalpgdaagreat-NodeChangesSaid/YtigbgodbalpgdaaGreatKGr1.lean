import Derived.Test.YtigbgodbalpgdaaGreatKNf2
import Derived.Test.YtigbgodbalpgdaaGreatKCh2
/- Leaves by their entries. -/
namespace Go.Proofs.YtigbgodbalpgdaaGreat
open Go.RowKit

/-- The leaf of a list of entries. -/
def pgOf (l : List En) : Pg := ⟨0, 3, 0, 0, [], l.map fun e => enBytes e []⟩
structure GoodL (l : List En) : Prop where
  sorted : Sorted l
  ok : ∀ e ∈ l, enOk e = true
  fit : fitsP (pgOf l) = true
theorem good_nil : GoodL [] := ⟨List.Pairwise.nil, by simp, by decide⟩

theorem item_of {e : En} (h : enOk e = true) : itemN 0 (enBytes e []) = (e, 0, 0) := by
  unfold itemN
  rw [if_pos rfl, decN_of h]
theorem ens_of {l : List En} (h : ∀ e ∈ l, enOk e = true) : ensN (pgOf l) = l := by
  unfold ensN ensTo pgOf
  dsimp only
  rw [List.take_of_length_le (Nat.le_refl _), List.map_map]
  conv => rhs; rw [← List.map_id l]
  refine List.map_congr_left fun e he => ?_
  show (itemN 0 (enBytes e [])).1 = e
  rw [item_of (h e he)]
theorem okTo_of {l : List En} {hi : En} (hs : Sorted l) (h : ∀ e ∈ l, enOk e = true) : ∀ k, k ≤ l.length → okTo 0 hi false (pgOf l).items k = true := by
  have hat : ∀ j (hj : j < l.length), itemN 0 ((pgOf l).items.getD j []) = (l[j], 0, 0) := by
    intro j hj
    have e : (pgOf l).items.getD j [] = enBytes l[j] [] := by simp [pgOf, hj]
    rw [e]
    exact item_of (h _ (List.getElem_mem hj))
  intro k
  induction k with
  | zero => intro _; rfl
  | succ k ih =>
    intro hk
    rw [okTo, ih (by omega), Bool.true_and, hat k (by omega)]
    by_cases h0 : k = 0
    · subst h0; rfl
    · rw [hat (k - 1) (by omega)]
      have hc := hs.at (show k - 1 < l.length by omega) (show k < l.length by omega) (by omega)
      unfold roundOk
      dsimp only
      rw [hc]
      simp
theorem open_of {l : List En} (h : GoodL l) : openOk (pgOf l) = true := by
  have h1 : encOk (pgOf l) = true := by
    unfold encOk
    rw [h.fit]
    rfl
  have h2 : headOk (pgOf l) = true := by
    unfold headOk
    rw [h1]
    rfl
  have h3 : okTo (pgOf l).level (hiN (pgOf l)) (bdN (pgOf l)) (pgOf l).items (pgOf l).items.length = true := by
    have e : (pgOf l).items.length = l.length := by simp [pgOf]
    rw [e]
    exact okTo_of h.sorted h.ok l.length (Nat.le_refl _)
  unfold openOk
  rw [h2, h3]
  rfl
theorem good_length {l : List En} (h : GoodL l) : l.length ≤ 255 := by
  have := h.fit
  simp only [fitsP, Bool.and_eq_true, decide_eq_true_eq] at this
  have e : (pgOf l).items.length = l.length := by simp [pgOf]
  omega
theorem pgIn_good {l : List En} (h : GoodL l) {w : World} {iv : Value} (hi : ItemsC w iv (pgOf l).items) : PgIn w iv (pgOf l) := by
  have e : (pgOf l).items.length = l.length := by simp [pgOf]
  have hl := good_length h
  refine ⟨hi.1.weak, fun x hx => ?_, by simp [pgOf], by omega, by simp [pgOf]⟩
  simp only [pgOf, List.mem_map] at hx
  obtain ⟨a, ha, rfl⟩ := hx
  have := enBytes_length a (h.ok a ha)
  omega

/-- Where an entry comes in. -/
theorem pos_split {l : List En} (h : Sorted l) (t : En) : (∀ j (hj : j < l.length), j < posE l t → cmpE l[j] t < 0) ∧ (∀ j (hj : j < l.length), posE l t ≤ j → ¬ cmpE l[j] t < 0) ∧ (t ∈ l ↔ ∃ hk : posE l t < l.length, cmpE l[posE l t] t = 0) := by
  obtain ⟨k, hk, h1, h2⟩ : ∃ k, k ≤ l.length ∧ (∀ j (hj : j < l.length), j < k → cmpE l[j] t < 0) ∧ (∀ j (hj : j < l.length), k ≤ j → ¬ cmpE l[j] t < 0) := by
    by_cases hall : ∀ j (hj : j < l.length), cmpE l[j] t < 0
    · exact ⟨l.length, Nat.le_refl _, fun j hj _ => hall j hj, fun j hj hk => by omega⟩
    · have hex : ∃ k, ∃ hk : k < l.length, ¬ cmpE l[k] t < 0 := by
        simp only [Classical.not_forall] at hall
        exact hall
      have key : ∀ n, (∀ j, j < n → ∀ hj : j < l.length, cmpE l[j] t < 0) ∨ ∃ k, ∃ hk : k < l.length, k < n ∧ ¬ cmpE l[k] t < 0 ∧ ∀ j, j < k → ∀ hj : j < l.length, cmpE l[j] t < 0 := by
        intro n
        induction n with
        | zero => exact .inl fun j hj => by omega
        | succ n ih =>
          rcases ih with ih | ⟨k, hk, hkn, h3, h4⟩
          · by_cases hn : ∃ hn : n < l.length, ¬ cmpE l[n] t < 0
            · obtain ⟨hn, hc⟩ := hn
              exact .inr ⟨n, hn, by omega, hc, ih⟩
            · refine .inl fun j hj hjl => ?_
              by_cases e : j = n
              · subst e
                exact Classical.byContradiction fun hc => hn ⟨hjl, hc⟩
              · exact ih j (by omega) hjl
          · exact .inr ⟨k, hk, by omega, h3, h4⟩
      obtain ⟨k0, hk0, hc0⟩ := hex
      rcases key (k0 + 1) with h5 | ⟨k, hk, _, h3, h4⟩
      · exact absurd (h5 k0 (by omega) hk0) hc0
      · exact ⟨k, Nat.le_of_lt hk, fun j hj hjk => h4 j hjk hj, fun j hj hkj => search_high h hk h3 j hj hkj⟩
  obtain ⟨h3, h4⟩ := search_end h hk h1 h2
  rw [h3]
  exact ⟨h1, h2, h4⟩
def insL (l : List En) (e : En) : List En := l.take (posE l e) ++ e :: l.drop (posE l e)
theorem insL_sorted {l : List En} (h : Sorted l) {e : En} (hn : e ∉ l) : Sorted (insL l e) := by
  obtain ⟨h1, h2, h3⟩ := pos_split h e
  have hap : Sorted (l.take (posE l e) ++ l.drop (posE l e)) := by rw [List.take_append_drop]; exact h
  obtain ⟨ha, hb, hc⟩ := List.pairwise_append.1 hap
  refine List.pairwise_append.2 ⟨ha, List.pairwise_cons.2 ⟨fun x hx => ?_, hb⟩, fun x hx y hy => ?_⟩
  · obtain ⟨j, hj, rfl⟩ := List.mem_iff_getElem.1 hx
    rw [List.length_drop] at hj
    rw [List.getElem_drop]
    have h4 := h2 (posE l e + j) (by omega) (by omega)
    rw [cmpE_neg]
    rcases cmpE_three l[posE l e + j] e with h5 | h5 | h5
    · rw [h5] at h4; omega
    · exact absurd (by rw [← cmpE_eq.1 h5]; exact List.getElem_mem _) hn
    · rw [h5]
  · rcases List.mem_cons.1 hy with rfl | hy
    · obtain ⟨j, hj, rfl⟩ := List.mem_iff_getElem.1 hx
      rw [List.length_take] at hj
      rw [List.getElem_take]
      exact (cmp_neg_iff _ _).1 (h1 j (by omega) (by omega))
    · exact hc x hx y hy
theorem insL_mem {l : List En} {e x : En} : x ∈ insL l e ↔ x = e ∨ x ∈ l := by
  unfold insL
  rw [List.mem_append, List.mem_cons]
  constructor
  · rintro (h | h | h)
    · exact .inr (List.mem_of_mem_take h)
    · exact .inl h
    · exact .inr (List.mem_of_mem_drop h)
  · rintro (h | h)
    · exact .inr (.inl h)
    · rw [← List.take_append_drop (posE l e) l, List.mem_append] at h
      rcases h with h | h
      · exact .inl h
      · exact .inr (.inr h)
/-- Does an entry come in? -/
def insB (l : List En) (e : En) : Bool := enOk e && (!decide (e ∈ l) && fitsP (pgOf (insL l e)))
theorem insB_good {l : List En} {e : En} (h : GoodL l) (hb : insB l e = true) : GoodL (insL l e) := by
  simp only [insB, Bool.and_eq_true, Bool.not_eq_true', decide_eq_false_iff_not] at hb
  exact ⟨insL_sorted h.sorted hb.2.1, fun x hx => (insL_mem.1 hx).elim (fun h1 => h1 ▸ hb.1) (h.ok x), hb.2.2⟩
theorem insN_of {l : List En} (h : GoodL l) (e : En) : (insB l e = true ∧ insN (pgOf l) e = (pgOf (insL l e), 0)) ∨ (insB l e = false ∧ ∃ c, c ≠ 0 ∧ insN (pgOf l) e = (zeroP, c)) := by
  have h1 : insN (pgOf l) e = if enOk e then (if decide (e ∈ l) then (zeroP, 140) else turnedN (pgOf l) (insL l e |>.map fun x => enBytes x [])) else (zeroP, 140) := by
    unfold insN putN
    rw [open_of h, ens_of h.ok]
    have e2 : (insL l e).map (fun x => enBytes x []) = (pgOf l).items.take (posE l e) ++ enBytes e [] :: (pgOf l).items.drop (posE l e) := by
      simp [insL, pgOf]
    rw [e2]
    cases enOk e <;> rfl
  rw [h1]
  unfold insB turnedN
  cases h2 : enOk e with
  | false => exact .inr ⟨rfl, 140, by decide, rfl⟩
  | true =>
    by_cases h3 : e ∈ l
    · rw [decide_eq_true h3]
      exact .inr ⟨rfl, 140, by decide, rfl⟩
    · rw [decide_eq_false h3]
      have e3 : ({ pgOf l with items := (insL l e).map fun x => enBytes x [] } : Pg) = pgOf (insL l e) := rfl
      rw [e3]
      cases h4 : fitsP (pgOf (insL l e)) with
      | false => exact .inr ⟨rfl, 3, by decide, rfl⟩
      | true => exact .inl ⟨rfl, rfl⟩
def stepL (l : List En) (e : En) : List En := if insB l e then insL l e else l
/-- Entries, as far as they go in. -/
def growL (l : List En) : List En := l.foldl stepL []
theorem stepL_good {l : List En} (h : GoodL l) (e : En) : GoodL (stepL l e) := by
  unfold stepL
  split
  · exact insB_good h (by assumption)
  · exact h
theorem fold_good (l : List En) : ∀ g, GoodL g → GoodL (l.foldl stepL g) := by
  induction l with
  | nil => exact fun g h => h
  | cons e l ih => exact fun g h => ih _ (stepL_good h e)
theorem growL_good (l : List En) : GoodL (growL l) := fold_good l [] good_nil
theorem growL_succ (l : List En) (n : Nat) (h : n < l.length) : growL (l.take (n + 1)) = stepL (growL (l.take n)) l[n] := by
  unfold growL
  rw [List.take_add_one, List.getElem?_eq_getElem h, Option.toList_some, List.foldl_append]
  rfl
theorem entriesOk_of {l : List En} (h : GoodL l) : entriesOk (pgOf l) = true := by
  unfold entriesOk
  rw [open_of h]
  rfl

end Go.Proofs.YtigbgodbalpgdaaGreat
