
import Derived.Test.YtikmkimkhngihaaGreatKView2
import Derived.Test.YtikmkimkhngihaaGreatKPage1
import Derived.Test.YtikmkimkhngihaaGreatKSame2
/- That nothing grows beyond all measure; what is gathered is in order. No program in sight. -/
namespace Go.Proofs.YtikmkimkhngihaaGreat
open Go.RowKit

theorem setS_two (m : Int) (p : Pg) (x : Int) (s : Nat) : (setS m p x s).1.items.length ≤ 2 := by
  unfold setS; split
  · split
    · simp [madeP]
    · simp [noPg]
  · simp [noPg]
theorem blankS_two (m fr : Int) : (blankS m fr).1.items.length ≤ 2 := by
  unfold blankS; split
  · simp [madeP]
  · simp [noPg]
theorem viewK_two (m : Int) (P : Pg) (l : List (Int × Nat)) (hP : P.items.length ≤ 2) (k : Nat) : (viewK m P l k).items.length ≤ 2 := by
  induction k with
  | zero => exact hP
  | succ k ih =>
    rw [viewK]
    split
    · exact setS_two _ _ _ _
    · exact ih

theorem viewS_in {w_ w' : World} {m fr : Int} {l : List (Int × Nat)} {v : Vw} {av rv iv iv' : Value} (h : VwIn w_ v av rv iv) (hb : Below w_.heap.size w_ w') (hi : Items w' iv' (viewS m fr l v).1.clog.items) : VwIn w' (viewS m fr l v).1 av rv iv' := by
  unfold viewS at *
  split
  · rename_i hok
    rw [if_pos hok] at hi
    have h2 := viewK_two m (blankS m fr).1 l (blankS_two m fr) l.length
    exact ⟨h.act.fits hb, h.run.fits hb, hi, h.actl, h.runl, by dsimp only; omega, viewK_fine m _ l (blankS_fine m fr) l.length⟩
  · rename_i hok
    rw [if_neg hok] at hi
    exact ⟨h.act.fits hb, h.run.fits hb, hi, h.actl, h.runl, h.itemsl, h.texts⟩
theorem viewS_next (m fr : Int) (l : List (Int × Nat)) (v : Vw) : (viewS m fr l v).1.next = v.next := by unfold viewS; split <;> rfl

theorem fits_len {k : List UInt8} (h : fitsB (str k) = true) : k.length ≤ 24 := by
  unfold fitsB at h
  rw [Bool.and_eq_true, decide_eq_true_eq, decide_eq_true_eq, str_size] at h
  exact h.2
theorem tup_len {a b : Int} {k v : List UInt8} (h : tupOk a b (str k) (str v) = true) : k.length ≤ 24 ∧ v.length ≤ 64 := by
  unfold tupOk at h
  rw [Bool.and_eq_true, Bool.and_eq_true, decide_eq_true_eq, str_size] at h
  exact ⟨fits_len h.1.2, h.2⟩
theorem slotS_fine (x : Sl) (h : (x.raw.length : Int) ≤ 9223372036854775807) : ((slotS x).length : Int) ≤ 9223372036854775807 := by
  have hd : ((deadSS x.key).1.length : Int) ≤ 9223372036854775807 := by
    unfold deadSS; split
    · rename_i hf
      have hk := fits_len hf
      have h1 := sev_length 4
      have h2 := sev_length x.key.length
      simp [deadS, txt]; omega
    · simp
  have he : ((encS x).1.length : Int) ≤ 9223372036854775807 := by
    unfold encS; split
    · rename_i hf
      have hk := tup_len hf
      have h2 := sev_length x.key.length
      have h3 := sev_length x.val.length
      simp [tupS, txt, bigS_length]; omega
    · simp
  unfold slotS
  split
  · simp
  · split
    · exact hd
    · split
      · split
        · exact he
        · exact h
      · exact h

theorem pageS_fine (l : List Sl) (h : ∀ x ∈ l, (x.raw.length : Int) ≤ 9223372036854775807) : ∀ y ∈ (pageS l).items, (y.length : Int) ≤ 9223372036854775807 := by
  intro y hy
  simp only [pageS, pageOf, List.mem_map] at hy
  obtain ⟨x, hx, rfl⟩ := hy
  exact slotS_fine x (h x hx)
theorem pageS_len (l : List Sl) : (pageS l).items.length = l.length := by simp [pageS, pageOf]
theorem sortS_len (v : Vw) (h pg : Int) (p : Pg) : (sortS v h pg p).fr.length ≤ p.items.length ∧ (sortS v h pg p).off.length ≤ p.items.length ∧ (sortS v h pg p).gone.length ≤ p.items.length := by
  unfold sortS; split
  · exact sortK_len v h pg p.items _
  · simp

theorem sort_in {w' : World} {v : Vw} {h pg : Int} {p : Pg} {fv ov gv : Value} (hl : (p.items.length : Int) ≤ 1759218604441) (h1 : Ints w' fv (sortS v h pg p).fr) (h2 : Ints w' ov (sortS v h pg p).off) (h3 : Row w' 73 gv (sortS v h pg p).gone.length (gCells (sortS v h pg p).gone)) : WkIn w' (sortS v h pg p) fv ov gv := by
  obtain ⟨a, b, c⟩ := sortS_len v h pg p
  exact ⟨h1, h2, h3, by omega, by omega, by omega⟩

/-- What the statement asks of what is gathered. -/
structure Law (pg : Int) (items : List (List UInt8)) (n : Nat) (W : Wk) : Prop where
  goneUp : (W.gone.map fun g => g.2.2).Pairwise (· < ·)
  goneOk : ∀ g ∈ W.gone, ∃ j : Nat, j < n ∧ g = ((keyS (items.getD j [])).1, pg, (j : Int)) ∧ (keyS (items.getD j [])).2 = true
  frUp : W.fr.Pairwise (· < ·)
  frOk : ∀ f ∈ W.fr, ∃ j : Nat, j < n ∧ f = (j : Int) ∧ stateS (items.getD j []) = 3
  offOk : ∀ f ∈ W.off, ∃ j : Nat, j < n ∧ f = (j : Int)
  apartF : ∀ g ∈ W.gone, g.2.2 ∉ W.fr
  apartO : ∀ g ∈ W.gone, g.2.2 ∉ W.off

theorem law_step (v : Vw) (h pg : Int) (items : List (List UInt8)) (n : Nat) (W : Wk) (H : Law pg items n W) : Law pg items (n + 1) (stepW v h pg W n (items.getD n [])) := by
  have up : ∀ {j : Nat}, j < n → j < n + 1 := fun h => by omega
  have hk2 : stateS (items.getD n []) = 2 → (keyS (items.getD n [])).2 = true := by
    generalize items.getD n [] = L
    unfold stateS keyS
    cases (decS L).isSome <;> cases (buriedS L).isSome <;> cases L.isEmpty <;> simp
  have hk3 : stateS (items.getD n []) = 3 → keyS (items.getD n []) = (((decS (items.getD n [])).getD noTup).key, true) := by
    generalize items.getD n [] = L
    unfold stateS keyS
    cases (decS L).isSome <;> cases (buriedS L).isSome <;> cases L.isEmpty <;> simp
  generalize hL : items.getD n [] = L at *
  have gn : ∀ g ∈ W.gone, g.2.2 < (n : Int) := by
    intro g hg; obtain ⟨j, hj, rfl, _⟩ := H.goneOk g hg; simp; omega
  have fn : ∀ f ∈ W.fr, f < (n : Int) := by
    intro g hg; obtain ⟨j, hj, rfl, _⟩ := H.frOk g hg; omega
  have on : ∀ f ∈ W.off, f < (n : Int) := by
    intro g hg; obtain ⟨j, hj, rfl⟩ := H.offOk g hg; omega
  have addGone : ∀ k, keyS L = (k, true) → Law pg items (n + 1) { W with gone := W.gone ++ [(k, pg, (n : Int))] } := by
    intro k hk
    refine ⟨?_, ?_, H.frUp, ?_, ?_, ?_, ?_⟩
    · simp only [List.map_append, List.map_cons, List.map_nil, List.pairwise_append]
      refine ⟨H.goneUp, by simp, ?_⟩
      intro a ha b hb
      simp at hb
      obtain ⟨g, hg, rfl⟩ := List.mem_map.1 ha
      rw [hb]
      exact gn g hg
    · intro g hg
      rcases List.mem_append.1 hg with hg | hg
      · obtain ⟨j, hj, h1, h2⟩ := H.goneOk g hg
        exact ⟨j, up hj, h1, h2⟩
      · simp at hg
        exact ⟨n, by omega, by rw [hL, hk]; exact hg, by rw [hL, hk]⟩
    · intro f hf; obtain ⟨j, hj, h1⟩ := H.frOk f hf; exact ⟨j, up hj, h1⟩
    · intro f hf; obtain ⟨j, hj, h1⟩ := H.offOk f hf; exact ⟨j, up hj, h1⟩
    · intro g hg
      rcases List.mem_append.1 hg with hg | hg
      · exact H.apartF g hg
      · simp at hg; rw [hg]; intro hm; have := fn _ hm; simp at this
    · intro g hg
      rcases List.mem_append.1 hg with hg | hg
      · exact H.apartO g hg
      · simp at hg; rw [hg]; intro hm; have := on _ hm; simp at this
  have addFr : ∀ (a b : Bool), stateS L = 3 → Law pg items (n + 1) { W with fr := if a then W.fr ++ [(n : Int)] else W.fr, off := if b then W.off ++ [(n : Int)] else W.off } := by
    intro a b h3
    have hg : ∀ g ∈ W.gone, g.2.2 ≠ (n : Int) := fun g hg e => by have := gn g hg; omega
    refine ⟨H.goneUp, ?_, ?_, ?_, ?_, ?_, ?_⟩
    · intro g hg; obtain ⟨j, hj, h1⟩ := H.goneOk g hg; exact ⟨j, up hj, h1⟩
    · cases a with
      | false => exact H.frUp
      | true =>
        simp only [if_true, List.pairwise_append]
        exact ⟨H.frUp, by simp, fun x hx y hy => by simp at hy; rw [hy]; exact fn x hx⟩
    · intro f hf
      cases a with
      | false => obtain ⟨j, hj, h1⟩ := H.frOk f hf; exact ⟨j, up hj, h1⟩
      | true =>
        simp only [if_true, List.mem_append, List.mem_singleton] at hf
        rcases hf with hf | rfl
        · obtain ⟨j, hj, h1⟩ := H.frOk f hf; exact ⟨j, up hj, h1⟩
        · exact ⟨n, by omega, rfl, by rw [hL]; exact h3⟩
    · intro f hf
      cases b with
      | false => obtain ⟨j, hj, h1⟩ := H.offOk f hf; exact ⟨j, up hj, h1⟩
      | true =>
        simp only [if_true, List.mem_append, List.mem_singleton] at hf
        rcases hf with hf | rfl
        · obtain ⟨j, hj, h1⟩ := H.offOk f hf; exact ⟨j, up hj, h1⟩
        · exact ⟨n, by omega, rfl⟩
    · intro g hm
      cases a with
      | false => exact H.apartF g hm
      | true =>
        simp only [if_true, List.mem_append, List.mem_singleton, not_or]
        exact ⟨H.apartF g hm, hg g hm⟩
    · intro g hm
      cases b with
      | false => exact H.apartO g hm
      | true =>
        simp only [if_true, List.mem_append, List.mem_singleton, not_or]
        exact ⟨H.apartO g hm, hg g hm⟩
  have same : Law pg items (n + 1) W :=
    ⟨H.goneUp, fun g hg => by obtain ⟨j, hj, h1⟩ := H.goneOk g hg; exact ⟨j, up hj, h1⟩, H.frUp, fun f hf => by obtain ⟨j, hj, h1⟩ := H.frOk f hf; exact ⟨j, up hj, h1⟩, fun f hf => by obtain ⟨j, hj, h1⟩ := H.offOk f hf; exact ⟨j, up hj, h1⟩, H.apartF, H.apartO⟩
  unfold stepW
  split
  · rename_i h2
    have := hk2 h2
    exact addGone _ (Prod.ext rfl this)
  · split
    · rename_i h3
      split
      · exact addGone _ (hk3 h3)
      · exact addFr _ _ h3
    · exact same

theorem law_sort (v : Vw) (h pg : Int) (items : List (List UInt8)) (n : Nat) : Law pg items n (sortK v h pg items n) := by
  induction n with
  | zero => exact ⟨by simp [sortK], by simp [sortK], by simp [sortK], by simp [sortK], by simp [sortK], by simp [sortK], by simp [sortK]⟩
  | succ n ih => rw [sortK]; exact law_step v h pg items n _ ih

end Go.Proofs.YtikmkimkhngihaaGreat
