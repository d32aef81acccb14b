
import Derived.Test.YtikmkimkhngihaaGreatKNames1
/- Bounds of what VacuumSorts builds. -/
namespace Go.Proofs.YtikmkimkhngihaaGreat
open Go.RowKit

theorem blankS_fine62 (m fr : Int) : ∀ x ∈ (blankS m fr).1.items, (x.length : Int) ≤ 4611686018427387000 := by
  unfold blankS
  split
  · rename_i h
    obtain ⟨hm, _, _⟩ := idsB_one h
    obtain ⟨_, hm2, _⟩ := modB_bd hm
    intro x hx
    simp only [madeP, List.mem_cons, List.not_mem_nil, or_false] at hx
    rcases hx with rfl | rfl
    · have := sev_length fr.toNat; omega
    · simp; omega
  · simp [noPg]
theorem setS_fine62 (m : Int) (p : Pg) (x : Int) (s : Nat) (h : (setS m p x s).2 = 0) : ∀ y ∈ (setS m p x s).1.items, (y.length : Int) ≤ 4611686018427387000 := by
  unfold setS at *
  split at h
  · rename_i h0
    rw [if_pos h0]
    split at h
    · rename_i h1
      rw [if_pos h1]
      obtain ⟨_, hm2, _⟩ := modB_bd (openE_zero h0).1
      have hl := (openE_len h0).2.1
      intro y hy
      simp only [madeP, List.mem_cons, List.not_mem_nil, or_false] at hy
      rcases hy with rfl | rfl
      · have := sev_length (openNum m p).1.toNat; omega
      · simp only [putS, List.length_set]; omega
    · simp at h
  · rename_i h0
    exact absurd h h0
theorem viewK_fine62 (m : Int) (P : Pg) (l : List (Int × Nat)) (hP : ∀ y ∈ P.items, (y.length : Int) ≤ 4611686018427387000) (k : Nat) : ∀ y ∈ (viewK m P l k).items, (y.length : Int) ≤ 4611686018427387000 := by
  induction k with
  | zero => exact hP
  | succ k ih =>
    rw [viewK]
    split
    · rename_i h; exact setS_fine62 _ _ _ _ h
    · exact ih

theorem slotS_fine62 (x : Sl) (h : (x.raw.length : Int) ≤ 4611686018427387000) : ((slotS x).length : Int) ≤ 4611686018427387000 := by
  have hd : ((deadSS x.key).1.length : Int) ≤ 4611686018427387000 := by
    unfold deadSS; split
    · rename_i hf
      have hk := fits_len hf
      have h1 := sev_length 4
      have h2 := sev_length x.key.length
      simp [deadS, txt]; omega
    · simp
  have he : ((encS x).1.length : Int) ≤ 4611686018427387000 := by
    unfold encS; split
    · rename_i hf
      have hk := tup_len hf
      have h2 := sev_length x.key.length
      have h3 := sev_length x.val.length
      simp [tupS, txt, bigS_length]; omega
    · simp
  unfold slotS
  split
  · simp
  · split
    · exact hd
    · split
      · split
        · exact he
        · exact h
      · exact h

theorem pageS_fine62 (l : List Sl) (h : ∀ x ∈ l, (x.raw.length : Int) ≤ 4611686018427387000) : ∀ y ∈ (pageS l).items, (y.length : Int) ≤ 4611686018427387000 := by
  intro y hy
  simp only [pageS, pageOf, List.mem_map] at hy
  obtain ⟨x, hx, rfl⟩ := hy
  exact slotS_fine62 x (h x hx)

theorem viewS_fine62 (m fr : Int) (l : List (Int × Nat)) (v : Vw) (h : ∀ x ∈ v.clog.items, (x.length : Int) ≤ 4611686018427387000) : ∀ x ∈ (viewS m fr l v).1.clog.items, (x.length : Int) ≤ 4611686018427387904 := by
  intro x hx
  have : (x.length : Int) ≤ 4611686018427387000 := by
    unfold viewS at hx
    split at hx
    · exact viewK_fine62 m _ l (blankS_fine62 m fr) l.length x hx
    · exact h x hx
  omega
/-- The slots of what is gone. -/
def slotsOf' (k : Wk) : List Int := k.gone.map (·.2.2)
theorem sort_up (v : Vw) (h pg : Int) (p : Pg) : (slotsOf' (sortS v h pg p)).Pairwise (· < ·) := by
  unfold sortS slotsOf'
  split
  · exact (law_sort v h pg p.items p.items.length).goneUp
  · exact List.Pairwise.nil
theorem sameW_self (k : Wk) : sameW k k = true := by simp [sameW]

end Go.Proofs.YtikmkimkhngihaaGreat
