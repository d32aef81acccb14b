import Derived.Test.YtmhepfehcakmjaaGreatKQAwake2
import Derived.Test.YtmhepfehcakmjaaGreatKQVr6
import Derived.Test.YtmhepfehcakmjaaGreatKQz1
namespace Go.Proofs.YtmhepfehcakmjaaGreat.Vac
open Go.RowKit
theorem slotS_fine47 (x : Sl) (h : (x.raw.length : Int) ≤ 140737488355328) : ((slotS x).length : Int) ≤ 140737488355328 := by
 have hd : ((deadSS x.key).1.length : Int) ≤ 140737488355328 := by
  unfold deadSS; split
  ·rename_i hf
   have hk := fits_len hf
   have h1 := sev_length 4
   have h2 := sev_length x.key.length
   simp [deadS, txt]; omega
  ·simp
 have he : ((encS x).1.length : Int) ≤ 140737488355328 := by
  unfold encS; split
  ·rename_i hf
   have hk := tup_len hf
   have h2 := sev_length x.key.length
   have h3 := sev_length x.val.length
   simp [tupS, txt, bigS_length]; omega
  ·simp
 unfold slotS
 split
 ·simp
 ·split
  ·exact hd
  ·split
   ·split
    ·exact he
    ·exact h
   ·exact h
theorem pageS_pgS (l : List Sl) (h : ∀ x ∈ l, (x.raw.length : Int) ≤ 140737488355328) (hl : (l.length : Int) ≤ 1759218604441) : PgS (pageS l) := by
 refine ⟨fun y hy => ?_, by simp [pageS, pageOf], by simp [pageS, pageOf]; omega, by simp [pageS, pageOf]⟩
 simp only [pageS, pageOf, List.mem_map] at hy
 obtain ⟨x, hx, rfl⟩ := hy
 exact slotS_fine47 x (h x hx)
theorem sort_up (v : Vw) (h pg : Int) (p : Pg) : (slotsOf (sortS v h pg p)).Pairwise (· < ·) := by
 unfold sortS slotsOf
 split
 ·rw [sort_eq, List.map_map, List.pairwise_map]
  refine (List.pairwise_lt_range.filter _).imp fun {a b} hab => ?_
  show (a : Int) < (b : Int)
  omega
 ·exact List.Pairwise.nil
end Go.Proofs.YtmhepfehcakmjaaGreat.Vac
