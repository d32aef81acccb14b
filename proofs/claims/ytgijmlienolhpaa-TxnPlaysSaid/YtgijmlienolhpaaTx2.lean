
/- Rows that were sorted by a number of their elements: there is but one such row. No program is named. -/
import Derived.Shelf.SlSortCmp.Whole1
namespace Go.Proofs.Ytgijmlienolhpaa

theorem perm_up {α : Type} (f : α → Int) : ∀ {l1 l2 : List α}, l1.Perm l2 → l1.Pairwise (fun a b => f a < f b) → l2.Pairwise (fun a b => f a < f b) → l1 = l2
  | [], l2, h, _, _ => by rw [List.nil_perm] at h; exact h.symm
  | a :: l1, [], h, _, _ => by rw [List.perm_nil] at h; cases h
  | a :: l1, b :: l2, h, h1, h2 => by
    have ha : a ∈ b :: l2 := h.subset (List.mem_cons_self ..)
    have hb : b ∈ a :: l1 := h.symm.subset (List.mem_cons_self ..)
    rw [List.pairwise_cons] at h1 h2
    have hab : a = b := by
      rcases List.mem_cons.1 ha with e | ha'
      · exact e
      · rcases List.mem_cons.1 hb with e | hb'
        · exact e.symm
        · have := h2.1 a ha'
          have := h1.1 b hb'
          omega
    subst hab
    rw [perm_up f (List.Perm.cons_inv h) h1.2 h2.2]

/-- What the sorts of the library say, with a number that orders: it is the list that rises. -/
theorem sorted_is {α : Type} [Inhabited α] (f : α → Int) (lt : α → α → Bool) (hlt : ∀ x y, lt x y = decide (f x < f y)) {d d' : Array α} {l : List α} (hp : Go.Sort.PermIn 0 d.size d d') (hs : Go.Sort.SortedIn lt 0 d.size d')
    (hl : l.Perm d.toList) (hup : l.Pairwise (fun a b => f a < f b)) : d'.toList = l := by
  obtain ⟨h1, _, h3⟩ := hp
  have e1 : (d'.extract 0 d.size).toList = d'.toList := by rw [← h1]; simp
  have e2 : (d.extract 0 d.size).toList = d.toList := by simp
  rw [e1, e2] at h3
  have hpl : d'.toList.Perm l := h3.trans hl.symm
  have hne : l.Pairwise (fun a b => f a ≠ f b) := hup.imp (fun h => by omega)
  have hne' : d'.toList.Pairwise (fun a b => f a ≠ f b) := (hpl.symm.pairwise_iff (fun h => Ne.symm h)).1 hne
  refine perm_up f hpl ?_ hup
  rw [List.pairwise_iff_getElem] at hne' ⊢
  intro i j hi hj hij
  have h4 := hs i j (Nat.zero_le _) hij (by rw [← h1]; simpa using hj)
  rw [hlt] at h4
  have hi' : i < d'.size := by simpa using hi
  have hj' : j < d'.size := by simpa using hj
  rw [getElem!_pos d' i hi', getElem!_pos d' j hj'] at h4
  have h5 := hne' i j hi hj hij
  simp only [Array.getElem_toList] at h5 ⊢
  simp only [decide_eq_false_iff_not] at h4
  omega

end Go.Proofs.Ytgijmlienolhpaa
