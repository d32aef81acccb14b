import Derived.Test.YtigbgodbalpgdaaGreatKRu3
import Derived.Test.YtigbgodbalpgdaaGreatKAp1
/- The document's answers: Child. -/
namespace Go.Proofs.YtigbgodbalpgdaaGreat
open Go.RowKit
attribute [local go_sem] givesF_none givesF_some evalF_tmp evalF_const evalF_global evalF_func lookL isB_bool isB_undef givesUpon_value givesUpon_skip givesUpon_enter

theorem pos_iff {l : List En} {t : En} (h : Sorted l) (i : Nat) (hi : i < l.length) : cmpE l[i] t < 0 ↔ i < posE l t := by
  constructor
  · intro hc
    have h1 := search_low h hi hc
    have h2 : posE l t = (l.take (i + 1)).countP (fun x => decide (cmpE x t < 0)) + (l.drop (i + 1)).countP (fun x => decide (cmpE x t < 0)) := by
      unfold posE
      rw [← List.countP_append, List.take_append_drop]
    have h3 : (l.take (i + 1)).countP (fun x => decide (cmpE x t < 0)) = (l.take (i + 1)).length := by
      rw [List.countP_eq_length]
      intro x hx
      obtain ⟨j, hj, rfl⟩ := List.getElem_of_mem hx
      rw [List.length_take] at hj
      rw [List.getElem_take]
      exact decide_eq_true (h1 j (by omega) (by omega))
    rw [List.length_take] at h3
    omega
  · intro hp
    by_cases hc : cmpE l[i] t < 0
    · exact hc
    · exfalso
      have h1 := search_high h hi hc
      have h2 : posE l t = (l.take i).countP (fun x => decide (cmpE x t < 0)) + (l.drop i).countP (fun x => decide (cmpE x t < 0)) := by
        unfold posE
        rw [← List.countP_append, List.take_append_drop]
      have h3 : (l.drop i).countP (fun x => decide (cmpE x t < 0)) = 0 := by
        rw [List.countP_eq_zero]
        intro x hx
        obtain ⟨j, hj, rfl⟩ := List.getElem_of_mem hx
        rw [List.length_drop] at hj
        rw [List.getElem_drop]
        simpa using h1 (i + j) (by omega) (by omega)
      have h4 : (l.take i).countP (fun x => decide (cmpE x t < 0)) ≤ (l.take i).length := List.countP_le_length
      rw [List.length_take] at h4
      omega
/-- Where the way leads, of the first n separators. -/
def wayTo (Q : List Int) (pos n : Nat) : Int := if min n pos = 0 then 0 else Q.getD (min n pos - 1) 0
theorem way_low {Q : List Int} {pos n : Nat} (h : n < pos) : wayTo Q pos (n + 1) = Q.getD n 0 := by
  unfold wayTo
  rw [show min (n + 1) pos = n + 1 by omega, if_neg (by omega), Nat.add_sub_cancel]
theorem way_high {Q : List Int} {pos n : Nat} (h : ¬ n < pos) : wayTo Q pos (n + 1) = wayTo Q pos n := by
  unfold wayTo
  rw [show min (n + 1) pos = min n pos by omega]

end Go.Proofs.YtigbgodbalpgdaaGreat
