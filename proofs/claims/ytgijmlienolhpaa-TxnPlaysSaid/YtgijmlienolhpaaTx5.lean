
/- What stays true of the list behind calls: bounds. No program is named. -/
import Derived.Test.YtgijmlienolhpaaTx4
namespace Go.Proofs.Ytgijmlienolhpaa

structure Good (K : Nat) (S : St) : Prop where
  fit : Fit K S
  len : S.length ≤ K
  xids : ∀ x ∈ S, x.2.xid ≤ 9223372036854775807
  acts : ∀ x ∈ S, (x.2.act.length : Int) ≤ 17592186044416
theorem good_nil : Good 0 [] := ⟨fit_nil, Nat.le_refl _, by simp, by simp⟩
theorem Good.mono {K K' : Nat} {S : St} (h : Good K S) (hk : K ≤ K') : Good K' S := ⟨h.fit.mono hk, Nat.le_trans h.len hk, h.xids, h.acts⟩
theorem good_begin {K : Nat} {S : St} (h : Good K S) (who next : Int) (act : List Int) (ha : (act.length : Int) ≤ 17592186044416) : Good (K + 1) (beginT who next act S).1 := by
  refine ⟨begin_fit h.fit who next act, ?_, ?_, ?_⟩
  · unfold beginT
    split
    · exact Nat.le_succ_of_le h.len
    · rw [(insT_perm _ _ _).length_eq]; have := h.len; simp; omega
  · unfold beginT
    split
    · exact h.xids
    · intro x hx
      rcases mem_insT.1 hx with rfl | hx
      · simp [newT]
      · exact h.xids x hx
  · unfold beginT
    split
    · exact h.acts
    · intro x hx
      rcases mem_insT.1 hx with rfl | hx
      · exact ha
      · exact h.acts x hx
theorem setT_length (who : Int) (t : Tn) (S : St) : (setT who t S).length = S.length := by simp [setT]
theorem good_take {K : Nat} {S : St} (h : Good K S) (who n : Int) (hn : n ≤ 9223372036854775807) : Good (K + 1) (takeT who n S).1 := by
  refine ⟨take_fit h.fit who n, ?_, ?_, ?_⟩
  · unfold takeT
    split
    · exact Nat.le_succ_of_le h.len
    · split
      · exact Nat.le_succ_of_le h.len
      · rw [setT_length]; exact Nat.le_succ_of_le h.len
  · unfold takeT
    split
    · exact h.xids
    · split
      · exact h.xids
      · intro x hx
        rcases mem_setT hx with rfl | ⟨hx, _⟩
        · exact hn
        · exact h.xids x hx
  · unfold takeT
    split
    · exact h.acts
    · rename_i t ht
      split
      · exact h.acts
      · intro x hx
        rcases mem_setT hx with rfl | ⟨hx, _⟩
        · have h1 := h.acts _ (findT_mem ht); exact h1
        · exact h.acts x hx
theorem good_logged {K : Nat} {S : St} (h : Good K S) (who n : Int) (un : Bool) : Good (K + 1) (loggedT who n un S).1 := by
  refine ⟨logged_fit h.fit who n un, ?_, ?_, ?_⟩
  · unfold loggedT
    split
    · exact Nat.le_succ_of_le h.len
    · split
      · exact Nat.le_succ_of_le h.len
      · rw [setT_length]; exact Nat.le_succ_of_le h.len
  · unfold loggedT
    split
    · exact h.xids
    · rename_i t ht
      split
      · exact h.xids
      · intro x hx
        rcases mem_setT hx with rfl | ⟨hx, _⟩
        · have h1 := h.xids _ (findT_mem ht); exact h1
        · exact h.xids x hx
  · unfold loggedT
    split
    · exact h.acts
    · rename_i t ht
      split
      · exact h.acts
      · intro x hx
        rcases mem_setT hx with rfl | ⟨hx, _⟩
        · have h1 := h.acts _ (findT_mem ht); exact h1
        · exact h.acts x hx
theorem good_end {K : Nat} {S : St} (h : Good K S) (who : Int) : Good K (endT who S).1 := by
  unfold endT
  split
  · refine ⟨⟨h.fit.up.filter _, fun x hx => h.fit.pos x (List.mem_filter.1 hx).1, h.fit.ids.filter _⟩, ?_, fun x hx => h.xids x (List.mem_filter.1 hx).1, fun x hx => h.acts x (List.mem_filter.1 hx).1⟩
    exact Nat.le_trans (List.length_filter_le _ _) h.len
  · exact h
/-- A call with numbers and a list that fit. -/
structure ClOk (c : Cl) : Prop where
  n : c.n ≤ 9223372036854775807
  act : (c.act.length : Int) ≤ 17592186044416
theorem good_does {K : Nat} {S : St} (h : Good K S) {c : Cl} (hc : ClOk c) : Good (K + 1) (doesT c S) := by
  unfold doesT
  split
  · exact good_begin h _ _ _ hc.act
  · split
    · exact good_take h _ _ hc.n
    · split
      · exact good_logged h _ _ _
      · split
        · exact (good_end h _).mono (by omega)
        · exact h.mono (by omega)

end Go.Proofs.Ytgijmlienolhpaa
