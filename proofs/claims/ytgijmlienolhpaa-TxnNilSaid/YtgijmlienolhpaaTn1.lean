
/- A nil table. -/
import Derived.Test.YtgijmlienolhpaaTl1
import Derived.Deep.CutRange
namespace Go.Proofs.Ytgijmlienolhpaa
open Go.RowKit Go.Maps Go.Shelf Go.Sort

theorem nil_find (who : Int) (w : World) : Calls Try.prog 31 #[.pointer none, .int .i64 who] w fun e w' => e = .returned (.tuple #[.pointer none, .int .i64 2]) ∧ w = w' := by
  go_enter Try.func31, Try.ntmps31
  go_wp2_with fail
  go_ret2
  exact ⟨rfl, rfl⟩
theorem nil_of (who : Int) (w : World) : Calls Try.prog 10 #[.pointer none, .int .i64 who] w fun e w' => e = .returned (.tuple #[.agg #[.int .i64 0, .slice none 0 0, .int .i64 0, .int .i64 0, .int .i64 0, .int .i64 0], .bool false]) ∧ Below w.heap.size w w' := by
  obtain ⟨w1, hw1⟩ : ∃ w1, w1 = w.alloc (.cells #[.int .i64 0, .slice none 0 0, .int .i64 0, .int .i64 0, .int .i64 0, .int .i64 0] 32) := ⟨_, rfl⟩
  have HG1 := keep (show Grow w w1 from by subst hw1; exact (Grow.refl w).alloc _)
  have HX := keep (show Blk w1 w.heap.size 32 [.int .i64 0, .slice none 0 0, .int .i64 0, .int .i64 0, .int .i64 0, .int .i64 0] from by subst hw1; exact Blk.new w _ [_, _, _, _, _, _])
  go_enter Try.func10, Try.ntmps10
  go_upto_region 1 with fail
  rw [← hw1]
  clear hw1
  obtain ⟨x0, x1, x2, x3, x4, x5, f0, f1, f2, f3, f4, f5⟩ := six_of HX.out
  have Hset := keep (set6 HX.out (.int .i64 0) (.slice none 0 0) (.int .i64 0) (.int .i64 0) (.int .i64 0) (.int .i64 0))
  have Hbut := keep (but6 w1 w.heap.size (.int .i64 0) (.slice none 0 0) (.int .i64 0) (.int .i64 0) (.int .i64 0) (.int .i64 0))
  have hz1 := HG1.out.size
  go_wp2_with (go_at_call 31; refine (nil_find who _).mono ?_; rintro e w' ⟨rfl, rfl⟩)
  have hB := But.below HG1.out Hbut.out (Nat.le_refl _) (by omega)
  refine bodyPost_ret (v := .tuple #[.agg #[.int .i64 0, .slice none 0 0, .int .i64 0, .int .i64 0, .int .i64 0, .int .i64 0], .bool false]) ?_ rfl ⟨rfl, hB⟩
  obtain ⟨s0, s1, s2, s3, s4, s5, _⟩ := six_of Hset.out
  simp [results, Try.results10, go_sem, s0, s1, s2, s3, s4, s5]
theorem nil_end (who : Int) (w : World) : Calls Try.prog 21 #[.pointer none, .int .i64 who] w fun e w' => e = .returned (.tuple #[.agg #[.int .i64 0, .slice none 0 0, .int .i64 0, .int .i64 0, .int .i64 0, .int .i64 0], .int .i64 2]) ∧ Below w.heap.size w w' := by
  obtain ⟨w1, hw1⟩ : ∃ w1, w1 = w.alloc (.cells #[.int .i64 0, .slice none 0 0, .int .i64 0, .int .i64 0, .int .i64 0, .int .i64 0] 32) := ⟨_, rfl⟩
  have HG1 := keep (show Grow w w1 from by subst hw1; exact (Grow.refl w).alloc _)
  have HX := keep (show Blk w1 w.heap.size 32 [.int .i64 0, .slice none 0 0, .int .i64 0, .int .i64 0, .int .i64 0, .int .i64 0] from by subst hw1; exact Blk.new w _ [_, _, _, _, _, _])
  go_enter Try.func21, Try.ntmps21
  go_upto_region 1 with fail
  rw [← hw1]
  clear hw1
  obtain ⟨x0, x1, x2, x3, x4, x5, f0, f1, f2, f3, f4, f5⟩ := six_of HX.out
  have Hset := keep (set6 HX.out (.int .i64 0) (.slice none 0 0) (.int .i64 0) (.int .i64 0) (.int .i64 0) (.int .i64 0))
  have Hbut := keep (but6 w1 w.heap.size (.int .i64 0) (.slice none 0 0) (.int .i64 0) (.int .i64 0) (.int .i64 0) (.int .i64 0))
  have hz1 := HG1.out.size
  go_wp2_with (go_at_call 31; refine (nil_find who _).mono ?_; rintro e w' ⟨rfl, rfl⟩)
  have hB := But.below HG1.out Hbut.out (Nat.le_refl _) (by omega)
  refine bodyPost_ret (v := .tuple #[.agg #[.int .i64 0, .slice none 0 0, .int .i64 0, .int .i64 0, .int .i64 0, .int .i64 0], .int .i64 2]) ?_ rfl ⟨rfl, hB⟩
  obtain ⟨s0, s1, s2, s3, s4, s5, _⟩ := six_of Hset.out
  simp [results, Try.results21, go_sem, s0, s1, s2, s3, s4, s5]
theorem nil_begin (who : Int) (w : World) : Calls Try.prog 15 #[.pointer none, .int .i64 who, .agg #[.int .i64 0, .slice none 0 0]] w fun e w' => e = .returned (.int .i64 2) ∧ Below w.heap.size w w' := by
  go_enter Try.func15, Try.ntmps15
  go_wp2_with fail
  go_ret
  exact ⟨rfl, by first | exact Below.refl _ _ | exact (Grow.refl w).alloc _⟩
theorem nil_take (who : Int) (w : World) : Calls Try.prog 17 #[.pointer none, .int .i64 who, .int .i64 1] w fun e w' => e = .returned (.int .i64 2) ∧ Below w.heap.size w w' := by
  go_enter Try.func17, Try.ntmps17
  go_wp2_with (go_at_call 31; refine (nil_find who _).mono ?_; rintro e w' ⟨rfl, rfl⟩)
  go_ret
  exact ⟨rfl, Below.refl _ _⟩
theorem nil_logged (who : Int) (w : World) : Calls Try.prog 19 #[.pointer none, .int .i64 who, .int .i64 1, .bool true] w fun e w' => e = .returned (.int .i64 2) ∧ Below w.heap.size w w' := by
  go_enter Try.func19, Try.ntmps19
  go_wp2_with (go_at_call 31; refine (nil_find who _).mono ?_; rintro e w' ⟨rfl, rfl⟩)
  go_ret
  exact ⟨rfl, Below.refl _ _⟩
theorem nil_all (w : World) : Calls Try.prog 33 #[.pointer none] w fun e w' => e = .returned (.slice none 0 0) ∧ w = w' := by
  go_enter Try.func33, Try.ntmps33
  go_wp2_with fail
  go_ret
  exact ⟨rfl, rfl⟩
set_option maxRecDepth 100000 in
theorem nil_begun (w : World) : Calls Try.prog 27 #[.pointer none] w fun e w' => e = .returned (.slice none 0 0) ∧ Below w.heap.size w w' := by
  go_enter Try.func27, Try.ntmps27
  go_wp2_with (go_at_call 33; refine (nil_all w).mono ?_; rintro e w' ⟨rfl, rfl⟩)
  go_loopw [3, 9] (fun x i wr => x = .slice none 0 0 ∧ i = .int .i64 0 ∧ wr = w) (fun _ i _ => 0)
  case atStart => exact ⟨rfl, rfl, rfl⟩
  case round =>
    obtain ⟨rfl, rfl, rfl⟩ := hrel
    go_wp2_with (go_at_call 42; refine (show Calls Try.prog 42 _ _ _ from AnyF.slices_SortFunc_none Try.l42 none 0 (.func (.func 43) #[] #[]) wr).mono ?_; rintro e w' ⟨rfl, rfl⟩)
    go_ret
    exact ⟨rfl, Below.refl _ _⟩
set_option maxRecDepth 100000 in
theorem nil_running (w : World) : Calls Try.prog 12 #[.pointer none] w fun e w' => e = .returned (.slice none 0 0) ∧ Below w.heap.size w w' := by
  go_enter Try.func12, Try.ntmps12
  go_wp2_with (go_at_call 27; refine (nil_begun w).mono ?_; rintro e w1 ⟨rfl, hb⟩; have HB := keep hb; clear hb)
  go_loopw [3, 9] (fun x i wr => x = .slice none 0 0 ∧ i = .int .i64 0 ∧ wr = w1) (fun _ i _ => 0)
  case atStart => exact ⟨rfl, rfl, rfl⟩
  case round =>
    obtain ⟨rfl, rfl, rfl⟩ := hrel
    go_wp2_with fail
    go_ret
    exact ⟨rfl, HB.out⟩
set_option maxRecDepth 100000 in
theorem nil_snaps (w : World) : Calls Try.prog 26 #[.pointer none] w fun e w' => e = .returned (.slice none 0 0) ∧ Below w.heap.size w w' := by
  go_enter Try.func26, Try.ntmps26
  go_wp2_with (go_at_call 33; refine (nil_all w).mono ?_; rintro e w' ⟨rfl, rfl⟩)
  go_loopw [3, 9] (fun x i wr => x = .slice none 0 0 ∧ i = .int .i64 0 ∧ wr = w) (fun _ i _ => 0)
  case atStart => exact ⟨rfl, rfl, rfl⟩
  case round =>
    obtain ⟨rfl, rfl, rfl⟩ := hrel
    go_wp2_with fail
    go_ret
    exact ⟨rfl, Below.refl _ _⟩
set_option maxRecDepth 100000 in
theorem nil_oldest (w : World) : Calls Try.prog 11 #[.pointer none] w fun e w' => e = .returned (.int .i64 0) ∧ Below w.heap.size w w' := by
  go_enter Try.func11, Try.ntmps11
  go_wp2_with (go_at_call 33; refine (nil_all w).mono ?_; rintro e w' ⟨rfl, rfl⟩)
  go_loopw [3, 9] (fun x i wr => x = .int .i64 0 ∧ i = .int .i64 0 ∧ wr = w) (fun _ i _ => 0)
  case atStart => exact ⟨rfl, rfl, rfl⟩
  case round =>
    obtain ⟨rfl, rfl, rfl⟩ := hrel
    go_wp2_with fail
    go_ret
    exact ⟨rfl, Below.refl _ _⟩

set_option maxRecDepth 100000 in
set_option maxHeartbeats 4000000 in
theorem nil_law (who : Int) (w_ : World) : Calls Try.prog 6 #[.int .i64 who] w_ fun e w' => e = .returned (.bool true) ∧ Below w_.heap.size w_ w' := by
  go_enter Try.func6, Try.ntmps6
  go_upto_region 3 with (go_at_call 10; refine (nil_of who w_).mono ?_; rintro e w1 ⟨rfl, hb1⟩; have HB1 := keep hb1; clear hb1)
  obtain ⟨w2, hw2⟩ : ∃ w2, w2 = w1.alloc (.cells #[.int .i64 0, .slice none 0 0, .int .i64 0, .int .i64 0, .int .i64 0, .int .i64 0] 32) := ⟨_, rfl⟩
  have hg2 : Grow w1 w2 := by subst hw2; exact (Grow.refl w1).alloc _
  have hx2 : Blk w2 w1.heap.size 32 [.int .i64 0, .slice none 0 0, .int .i64 0, .int .i64 0, .int .i64 0, .int .i64 0] := by subst hw2; exact Blk.new w1 _ [_, _, _, _, _, _]
  rw [← hw2]
  have HX2 := keep hx2
  have HB2 := keep (Grow.trans HB1.out hg2)
  clear hw2 hg2 hx2
  go_upto_region 4 with (go_at_call 21; refine (nil_end who w2).mono ?_; rintro e w3 ⟨rfl, hb3⟩; have HB3 := keep hb3; clear hb3)
  obtain ⟨w4, hw4⟩ : ∃ w4, w4 = w3.alloc (.cells #[.int .i64 0, .slice none 0 0, .int .i64 0, .int .i64 0, .int .i64 0, .int .i64 0] 32) := ⟨_, rfl⟩
  have hg4 : Grow w3 w4 := by subst hw4; exact (Grow.refl w3).alloc _
  rw [← hw4]
  have HX4 := keep (HX2.out.fits (Grow.trans HB3.out hg4))
  have HB4 := keep (Grow.trans HB2.out (Grow.trans HB3.out hg4))
  clear hw4 hg4
  go_wp2_with (first
    | (go_at_call 15; refine (nil_begin who w4).mono ?_; rintro e w5 ⟨rfl, hb⟩; have HG5 := keep hb; clear hb)
    | (go_at_call 17; refine (nil_take who w5).mono ?_; rintro e w6 ⟨rfl, hb⟩; have HG6 := keep (Grow.trans HG5.out hb); clear hb)
    | (go_at_call 19; refine (nil_logged who w6).mono ?_; rintro e w7 ⟨rfl, hb⟩; have HG7 := keep (Grow.trans HG6.out hb); obtain ⟨-, -, x2, -⟩ := six_of (HX4.out.fits HG7.out); clear hb)
    | (go_at_call 12; refine (nil_running w7).mono ?_; rintro e w8 ⟨rfl, hb⟩; have HG8 := keep (Grow.trans HG7.out hb); clear hb)
    | (go_at_call 26; refine (nil_snaps w8).mono ?_; rintro e w9 ⟨rfl, hb⟩; have HG9 := keep (Grow.trans HG8.out hb); clear hb)
    | (go_at_call 11; refine (nil_oldest w9).mono ?_; rintro e w10 ⟨rfl, hb⟩; have HG10 := keep (Grow.trans HG9.out hb); clear hb)
    | (go_at_call 27; refine (nil_begun w10).mono ?_; rintro e w11 ⟨rfl, hb⟩; have HG11 := keep (Grow.trans HG10.out hb); clear hb)
    | (go_at_call 13; refine (awake_any w11).mono ?_; rintro e w12 ⟨rfl, hb⟩; have HG12 := keep (Grow.trans HG11.out hb); clear hb))
  go_ret
  exact ⟨rfl, Grow.trans HB4.out HG12.out⟩
theorem nil_top (who : Int) (w_ : World) (_ : (Lit.int .i64 who).wf = true) : Calls Try.prog 6 #[.int .i64 who] w_ fun e w' => e = .returned (.bool true) ∧ Below w_.heap.size w_ w' := nil_law who w_

end Go.Proofs.Ytgijmlienolhpaa
