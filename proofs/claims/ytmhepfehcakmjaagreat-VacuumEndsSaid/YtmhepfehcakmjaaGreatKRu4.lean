import Derived.Test.YtmhepfehcakmjaaGreatKLexm
import Derived.Test.YtmhepfehcakmjaaGreatKRu3
import Derived.Test.YtmhepfehcakmjaaGreatKCg2
namespace Go.Proofs.YtmhepfehcakmjaaGreat
open Go.RowKit
attribute [local go_sem] givesV lookV knAt givesF_none givesF_some evalF_tmp evalF_const evalF_global evalF_func lookL isB_bool isB_undef givesUpon_value givesUpon_skip givesUpon_enter
theorem pos_iff {l : List En} {t : En} (h : Sorted l) (i : Nat) (hi : i < l.length) : cmpE l[i] t < 0 ↔ i < posE l t := by
 constructor
 ·intro hc
  have h1 := search_low h hi hc
  have h2 : posE l t = (l.take (i + 1)).countP (fun x => decide (cmpE x t < 0)) + (l.drop (i + 1)).countP (fun x => decide (cmpE x t < 0)) := by
   unfold posE
   rw [← List.countP_append, List.take_append_drop]
  have h3 : (l.take (i + 1)).countP (fun x => decide (cmpE x t < 0)) = (l.take (i + 1)).length := by
   rw [List.countP_eq_length]
   intro x hx
   obtain ⟨j, hj, rfl⟩ := List.getElem_of_mem hx
   rw [List.length_take] at hj
   rw [List.getElem_take]
   exact decide_eq_true (h1 j (by omega) (by omega))
  rw [List.length_take] at h3
  omega
 ·intro hp
  by_cases hc : cmpE l[i] t < 0
  ·exact hc
  ·exfalso
   have h1 := search_high h hi hc
   have h2 : posE l t = (l.take i).countP (fun x => decide (cmpE x t < 0)) + (l.drop i).countP (fun x => decide (cmpE x t < 0)) := by
    unfold posE
    rw [← List.countP_append, List.take_append_drop]
   have h3 : (l.drop i).countP (fun x => decide (cmpE x t < 0)) = 0 := by
    rw [List.countP_eq_zero]
    intro x hx
    obtain ⟨j, hj, rfl⟩ := List.getElem_of_mem hx
    rw [List.length_drop] at hj
    rw [List.getElem_drop]
    simpa using h1 (i + j) (by omega) (by omega)
   have h4 : (l.take i).countP (fun x => decide (cmpE x t < 0)) ≤ (l.take i).length := List.countP_le_length
   rw [List.length_take] at h4
   omega
end Go.Proofs.YtmhepfehcakmjaaGreat
