/- clog: the small ones. -/
import Derived.Test.YtklpbhajmnogeaaXid
namespace Go.Proofs.Ytklpbhajmnogeaa
open Go.RowKit

set_option maxHeartbeats 400000 in
theorem size_any (m : Int) (w : World) (h0 : 0 ≤ m) (h1 : m ≤ 1024) : Calls Try.prog 24 #[.int .i64 m] w fun e w' => e = .returned (.int .i64 ((m + 3) / 4)) ∧ w = w' := by
  go_enter Try.func24, Try.ntmps24
  go_wp2
  go_ret
  refine ⟨?_, rfl⟩
  show Ending.returned (Value.int IntKind.i64 ((m + 4 - 1) / 4)) = _
  rw [show m + 4 - 1 = m + 3 from by omega]

set_option maxHeartbeats 400000 in
theorem isModulus_any (m : Int) (w : World) : Calls Try.prog 21 #[.int .i64 m] w fun e w' => e = .returned (.bool (modB m)) ∧ Below w.heap.size w w' := by
  have hS := addS_mod m
  go_enter Try.func21, Try.ntmps21
  go_wp2_with fail
  refine (add_any _ _ _ _).mono ?_
  rintro e w' ⟨rfl, hb⟩
  cases hm : modB m with
  | true =>
    rw [hm] at hS
    have HM := keep hm
    clear hm
    go_wp2_with fail
    go_ret
    rw [HM.out]
    exact ⟨rfl, hb⟩
  | false =>
    rw [hm] at hS
    have HM := keep hm
    clear hm
    go_wp2_with fail
    go_ret
    rw [HM.out]
    exact ⟨rfl, hb⟩

set_option maxHeartbeats 400000 in
theorem isID_any (m x : Int) (w : World) : Calls Try.prog 22 #[.int .i64 m, .int .i64 x] w fun e w' => e = .returned (.bool (idsB m [x])) ∧ Below w.heap.size w w' := by
  have hS := addS_id m x
  go_enter Try.func22, Try.ntmps22
  go_wp2_with fail
  refine (add_any _ _ _ _).mono ?_
  rintro e w' ⟨rfl, hb⟩
  cases hm : idsB m [x] with
  | true =>
    obtain ⟨_, h1, _⟩ := idsB_one hm
    rw [hm] at hS
    have hS' : addS m x 0 = x := by simpa using hS
    have hx : (x != 0) = true := by rw [bne_iff_ne]; omega
    have HM := keep hm
    clear hS hm
    go_wp2_with fail
    go_ret
    rw [HM.out]
    exact ⟨rfl, hb⟩
  | false =>
    rw [hm] at hS
    have hS' : addS m x 0 = 0 := by simpa using hS
    have HM := keep hm
    clear hS hm
    by_cases hx : x = 0
    · subst hx
      go_wp2_with fail
      go_ret
      rw [HM.out]
      exact ⟨rfl, hb⟩
    · have hx' : ((0 : Int) == x) = false := by rw [beq_eq_false_iff_ne]; omega
      go_wp2_with fail
      go_ret
      rw [HM.out]
      exact ⟨rfl, hb⟩

set_option maxHeartbeats 400000 in
theorem place_any (x : Int) (w : World) (h0 : 1 ≤ x) (h1 : x ≤ 1024) : Calls Try.prog 42 #[.int .i64 x] w fun e w' => e = .returned (.tuple #[.int .i64 ((x - 1) / 4), .int .i64 (2 * ((x - 1) % 4))]) ∧ w = w' := by
  go_enter Try.func42, Try.ntmps42
  go_wp2
  go_ret2
  exact ⟨rfl, rfl⟩

end Go.Proofs.Ytklpbhajmnogeaa
