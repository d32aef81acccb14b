import Derived.Test.YtigbgodbalpgdaaKNd1
/- cmp.Or of three. -/
namespace Go.Proofs.Ytigbgodbalpgdaa
open Go.RowKit

def or3 (a b c : Int) : Int := if a ≠ 0 then a else if b ≠ 0 then b else c

set_option maxRecDepth 100000 in
set_option maxHeartbeats 1000000 in
theorem or_any (b cap : Nat) (x y z : Int) (w : World) (h : Blk w b 3 [.int .i64 x, .int .i64 y, .int .i64 z]) :
    Calls Try.prog 39 #[.slice (some ⟨b, 0, none⟩) 3 cap] w fun e w' => e = .returned (.int .i64 (or3 x y z)) ∧ w = w' := by
  obtain ⟨c0, c1, c2, _⟩ := enres h
  by_cases hx : x = 0
  · subst hx
    by_cases hy : y = 0
    · subst hy
      by_cases hz : z = 0
      · subst hz
        go_enter Try.func39, Try.ntmps39
        go_wp2_with fail
        refine wp_loop_rounds 4 ?_
        rw [rounds_succ]
        go_wp2_with fail
        rw [rounds_succ]
        go_wp2_with fail
        rw [rounds_succ]
        go_wp2_with fail
        rw [rounds_succ]
        go_wp2_with fail
        go_ret
        exact ⟨rfl, rfl⟩
      · have qz : (z != 0) = true := by simp [hz]
        have hd : or3 0 0 z = z := by simp [or3]
        rw [hd]
        clear hd hz
        go_enter Try.func39, Try.ntmps39
        go_wp2_with fail
        refine wp_loop_rounds 3 ?_
        rw [rounds_succ]
        go_wp2_with fail
        rw [rounds_succ]
        go_wp2_with fail
        rw [rounds_succ]
        go_wp2_with fail
        go_ret
        exact ⟨rfl, rfl⟩
    · have qy : (y != 0) = true := by simp [hy]
      have hd : or3 0 y z = y := by simp [or3, hy]
      rw [hd]
      clear hd hy
      go_enter Try.func39, Try.ntmps39
      go_wp2_with fail
      refine wp_loop_rounds 2 ?_
      rw [rounds_succ]
      go_wp2_with fail
      rw [rounds_succ]
      go_wp2_with fail
      go_ret
      exact ⟨rfl, rfl⟩
  · have qx : (x != 0) = true := by simp [hx]
    have hd : or3 x y z = x := by simp [or3, hx]
    rw [hd]
    clear hd hx
    go_enter Try.func39, Try.ntmps39
    go_wp2_with fail
    refine wp_loop_rounds 1 ?_
    rw [rounds_succ]
    go_wp2_with fail
    go_ret
    exact ⟨rfl, rfl⟩

end Go.Proofs.Ytigbgodbalpgdaa
