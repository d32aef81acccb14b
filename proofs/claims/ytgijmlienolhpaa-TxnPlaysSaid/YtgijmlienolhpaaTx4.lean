
/- What the statements on transactions ask, of the list. No program is named. -/
import Derived.Test.YtgijmlienolhpaaTx3
namespace Go.Proofs.Ytgijmlienolhpaa

theorem old_go (S : St) : ∀ (n0 : Int), (∀ x ∈ S, 0 ≤ x.2.first) → 0 ≤ n0 →
    0 ≤ S.foldl (fun n x => if x.2.first ≠ 0 ∧ (n = 0 ∨ x.2.first < n) then x.2.first else n) n0 ∧
    (n0 ≠ 0 → S.foldl (fun n x => if x.2.first ≠ 0 ∧ (n = 0 ∨ x.2.first < n) then x.2.first else n) n0 ≤ n0 ∧ S.foldl (fun n x => if x.2.first ≠ 0 ∧ (n = 0 ∨ x.2.first < n) then x.2.first else n) n0 ≠ 0) ∧
    ∀ x ∈ S, x.2.first ≠ 0 → S.foldl (fun n x => if x.2.first ≠ 0 ∧ (n = 0 ∨ x.2.first < n) then x.2.first else n) n0 ≤ x.2.first := by
  induction S with
  | nil =>
    intro n0 _ hn
    exact ⟨hn, fun h => ⟨Int.le_refl _, h⟩, fun x hx => by cases hx⟩
  | cons y r ih =>
    intro n0 hp hn
    have hy := hp y (List.mem_cons_self ..)
    have hr := fun x hx => hp x (List.mem_cons_of_mem y hx)
    simp only [List.foldl_cons]
    by_cases hc : y.2.first ≠ 0 ∧ (n0 = 0 ∨ y.2.first < n0)
    · rw [if_pos hc]
      obtain ⟨a, b, c⟩ := ih y.2.first hr hy
      have b' := b hc.1
      refine ⟨a, fun h => ⟨by rcases hc.2 with h0 | h0; exact absurd h0 h; omega, b'.2⟩, ?_⟩
      intro x hx h0
      rcases List.mem_cons.1 hx with rfl | hx
      · exact b'.1
      · exact c x hx h0
    · rw [if_neg hc]
      obtain ⟨a, b, c⟩ := ih n0 hr hn
      refine ⟨a, b, ?_⟩
      intro x hx h0
      rcases List.mem_cons.1 hx with rfl | hx
      · have h1 : n0 ≠ 0 := fun e => hc ⟨h0, .inl e⟩
        have h2 : ¬ x.2.first < n0 := fun e => hc ⟨h0, .inr e⟩
        have := (b h1).1
        omega
      · exact c x hx h0
theorem old_le {K : Nat} {S : St} (h : Fit K S) {x : Int × Tn} (hx : x ∈ S) (h0 : x.2.first ≠ 0) : oldT S ≤ x.2.first :=
  (old_go S 0 (fun x hx => (h.pos x hx).2.1) (Int.le_refl _)).2.2 x hx h0

theorem runT_up {K : Nat} {S : St} (h : Fit K S) : (runT S).Pairwise (· < ·) := by
  unfold runT
  rw [List.pairwise_map]
  exact begunT_up h

/-- Whoever has begun and ended leaves all others as they were. -/
theorem findT_delT (who : Int) (S : St) : findT who (delT who S) = none := by
  unfold findT delT
  rw [Option.map_eq_none_iff, List.find?_eq_none]
  intro x hx
  have := (List.mem_filter.1 hx).2
  simpa [bne] using this
theorem delT_idem (who : Int) (S : St) : delT who (delT who S) = delT who S := by
  unfold delT; rw [List.filter_filter]; simp
theorem delT_insT (who : Int) (t : Tn) (S : St) : delT who (insT who t S) = delT who S := by
  unfold delT
  induction S with
  | nil => simp [insT]
  | cons y r ih =>
    rw [insT]
    split
    · simp
    · simp only [List.filter_cons, ih]
theorem delT_setT (who : Int) (t : Tn) (S : St) : delT who (setT who t S) = delT who S := by
  unfold delT setT
  induction S with
  | nil => rfl
  | cons y r ih =>
    simp only [List.map_cons, List.filter_cons, ih]
    by_cases h : y.1 = who
    · simp [h]
    · simp [h]
theorem delT_none {who : Int} {S : St} (h : findT who S = none) : delT who S = S := by
  unfold delT
  rw [List.filter_eq_self]
  intro x hx
  have := findT_none h x hx
  simpa [bne] using this
theorem endT_is (who : Int) (S : St) : (endT who S).1 = delT who S := by
  unfold endT
  split
  · rfl
  · rename_i h
    exact (delT_none (by simpa using h)).symm
theorem alone_does (who : Int) (c : Cl) (S : St) : delT who (doesT { c with who := who } S) = delT who S := by
  unfold doesT
  dsimp only
  split
  · unfold beginT
    split
    · rfl
    · exact delT_insT _ _ _
  · split
    · unfold takeT
      split
      · rfl
      · split
        · rfl
        · exact delT_setT _ _ _
    · split
      · unfold loggedT
        split
        · rfl
        · split
          · rfl
          · exact delT_setT _ _ _
      · split
        · rw [endT_is]; exact delT_idem _ _
        · rfl
theorem alone_row (who : Int) (l : List Cl) (S : St) : delT who (l.foldl (fun S c => doesT { c with who := who } S) S) = delT who S := by
  induction l generalizing S with
  | nil => rfl
  | cons c r ih => rw [List.foldl_cons, ih, alone_does]

end Go.Proofs.Ytgijmlienolhpaa
