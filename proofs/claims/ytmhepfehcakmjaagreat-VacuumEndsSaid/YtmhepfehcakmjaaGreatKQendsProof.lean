import Derived.Test.YtmhepfehcakmjaaGreatRows
import Derived.Test.YtmhepfehcakmjaaGreatKYow
import Derived.Test.YtmhepfehcakmjaaGreatKQw1
import Derived.Test.YtmhepfehcakmjaaGreatKQVo1
namespace Go.Proofs.YtmhepfehcakmjaaGreat.Vac
open Go.ChangeShapes Go.WideShapes Go.ChangeAt Go.RowKit
set_option maxRecDepth 100000 in
theorem ends_lifted (os : Os) (started : os.Started) (H : Type) (enc : TypeId × Value → H) :
  ReturnsInHanded {} Tryz.checked os 7 .any (Rows.vacuumEndsSpec.pre6 enc Tryz.prog Tryz.f7 Rows.vacuumEndsRow.domain false) (Rows.vacuumEndsSpec.post enc Tryz.prog Tryz.f7 false true false false) := by
 refine returnsInHanded_of_change_sized (C := Tryz.checked) Tryz.own started (by kernel_rfl) Tryz.func7
  (ChangeSpec.witness6 (enc := enc) (C := Tryz.checked) false ⟨#[], #[.agg #[.int .i64 0, .int .i64 0, .slice none 0 0], .agg #[.int .i64 0, .int .i64 0, .slice none 0 0, .int .i64 0, .slice none 0 0, .int .i64 0, .int .i64 0, .int .i64 0, .int .i64 0, .string ⟨#[]⟩, .slice none 0 0], .slice none 0 0], []⟩ 8 (by kernel_rfl) (by kernel_rfl) (by kernel_rfl) (by kernel_rfl)) ?_
 intro W base args ds gs before hval0 hW _ hsz0 _
 have hsz : (DataW.weightsEach Tryz.prog (Tryz.f7.params.toList ++ Rows.vacuumEndsSpec.plain.varTypes Tryz.prog) (ds ++ gs)).all (· ≤ reachBytes) = true := hsz0
 clear hsz0
 have hval : ∀ (j : Nat) t v, Tryz.f7.params[j]? = some t → args[j]? = some v → Value.okWide Tryz.prog W .any base t v := hval0
 have hW' := hW
 obtain ⟨p, q, hA0, hV, rfl, _, _⟩ := hW
 have hA : DataW.TrodAll enc Tryz.prog W 0 (fun _ => true) true Tryz.f7.params.toList args.toList ds p := hA0
 rw [Tryz.params7] at hA hval hsz
 obtain ⟨v0, v1, v2, d0, d1, d2, p0, p1, p2, rfl, rfl, rfl, h0, h1, h2⟩ := trodAll_three hA
 obtain ⟨rfl, rfl⟩ := trodVars_none hV
 clear hA0 hval0
 simp only [List.append_nil] at hW'
 obtain ⟨m, fr, sv, sl, rfl, hs, hsl, hs8⟩ := lawpage_of_trod (hval 0 61 v0 rfl rfl) h0 (light_arg hsz (j := 0) rfl rfl)
 obtain ⟨vw, av, rv, iv, rfl, hv, hv62⟩ := view_of_light (hval 1 65 v1 rfl rfl) h1 (light_arg hsz (j := 1) rfl rfl)
 obtain ⟨l, hl, hll, hraw⟩ := slots_of_light (hval 2 66 v2 rfl rfl) h2 (light_arg hsz (j := 2) rfl rfl)
 refine (ends_law m fr sv sl vw av rv iv v2 l W hs hsl hs8 hv hl hll (fun x hx => by have := hraw x hx; omega)).mono fun e W' ⟨he, hb⟩ => ?_
 subst he
 have hlt : ∀ x ∈ p0 ++ (p1 ++ p2), x.block < W.heap.size := fun x hx => by simpa using hW'.lt x (by simpa using hx)
 refine ⟨_, rfl, _, _, _, [] ++ [], p0 ++ (p1 ++ p2), [], hW', ?_, ?_, rfl, hb.frame _, fun h => by cases h⟩
 ·exact trodAll_mk1 (shut_bool Tryz.underlying4 true)
 ·exact trodAll_mk3 (Below.trod Tryz.laidOut (by kernel_rfl) (of_decide_eq_true (by kernel_rfl)) h0 hb (fun x hx => hlt x (by simp [hx]))) (Below.trod Tryz.laidOut (by kernel_rfl) (of_decide_eq_true (by kernel_rfl)) h1 hb (fun x hx => hlt x (by simp [hx]))) (Below.trod Tryz.laidOut (by kernel_rfl) (of_decide_eq_true (by kernel_rfl)) h2 hb (fun x hx => hlt x (by simp [hx])))
end Go.Proofs.YtmhepfehcakmjaaGreat.Vac
namespace Go.Proofs.YtmhepfehcakmjaaGreat
theorem vacuumEnds_holds : Rows.VacuumEndsSaid :=
 OpenClaim.holds_of_wide 7 Tryz.f7 rfl rfl rfl rfl rfl rfl rfl ⟨rfl, rfl, rfl, rfl, rfl⟩ rfl rfl rfl rfl rfl (by kernel_rfl) Tryz.func7 (by kernel_rfl)
  (of_decide_eq_true (by kernel_rfl)) (by unfold Func.isWrapper; rw [if_neg (of_decide_eq_false (by kernel_rfl))]; exact ⟨rfl, rfl⟩)
  (fun os started H enc _ => Vac.ends_lifted os started H enc)
end Go.Proofs.YtmhepfehcakmjaaGreat
