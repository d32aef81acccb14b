import Derived.Test.YtmhepfehcakmjaaGreatKBld1
import Derived.Test.YtmhepfehcakmjaaGreatKBits5
namespace Go.Proofs.YtmhepfehcakmjaaGreat
open Go.RowKit
set_option maxRecDepth 100000 in
set_option maxHeartbeats 1000000 in
theorem turned_any (x : Int) (w : World) : Calls Tryz.prog 148 #[.int .u32 x] w fun e w' => (∃ y, e = .returned (.int .u32 y)) /\ w = w' := by
 go_enter Tryz.func148, Tryz.ntmps148;go_wp2_with fail;go_loop [0, 3] (fun c i => ∃ k : Nat, k <= 8 /\ i = .int .i64 k /\ ∃ y, c = .int .u32 y) (fun _ i => 8 - (intOf i).toNat)
 case atStart => exact ⟨0, by omega, rfl, _, rfl⟩
 case round =>
  obtain ⟨k, hk, rfl, y, rfl⟩ := hrel
  by_cases hlt : k < 8
  ·go_wp2_with fail;go_round
   case rel => exact ⟨k + 1, by omega, by go_num, _, rfl⟩
   case measure => simp [intOf]; omega
  ·go_wp2_with fail;go_ret;exact ⟨⟨_, rfl⟩, rfl⟩
theorem u32_bits (op : BinOp) (a b : Int) : 0 <= bits op .u32 a b /\ bits op .u32 a b < 4294967296 := by
 unfold bits;rw [IntKind.wrap_u32];omega
set_option maxRecDepth 100000 in
set_option maxHeartbeats 1000000 in
theorem sum_any (s : ByteArray) (w : World) (hs : (s.size : Int) <= 9223372036854775807) : Calls Tryz.prog 140 #[.string s] w fun e w' => (∃ y : Nat, y < 4294967296 /\ e = .returned (.int .u32 y)) /\ w = w' := by
 go_enter Tryz.func140, Tryz.ntmps140;go_wp2_with fail;go_loop [3, 7] (fun c i => ∃ k : Nat, k <= s.size /\ i = .int .i64 k /\ ∃ y, c = .int .u32 y) (fun _ i => s.size - (intOf i).toNat)
 case atStart => exact ⟨0, by omega, rfl, _, rfl⟩
 case round =>
  obtain ⟨k, hk, rfl, y, rfl⟩ := hrel
  by_cases hlt : k < s.size
  ·go_wp2_with fail;refine (turned_any _ _).mono ?_;rintro e w' ⟨⟨z, rfl⟩, rfl⟩;go_wp2_with fail;go_round
   case rel => exact ⟨k + 1, by omega, by go_num, _, rfl⟩
   case measure => simp [intOf]; omega
  ·go_wp2_with fail;go_ret;refine ⟨?_, rfl⟩;have hr := u32_bits .xor (IntKind.max .u32) y
   exact ⟨(bits BinOp.xor IntKind.u32 (IntKind.max .u32) y).toNat, by omega, by
    show Ending.returned (.int .u32 (bits BinOp.xor IntKind.u32 (IntKind.max .u32) y)) = _
    rw [Int.toNat_of_nonneg hr.1]⟩
end Go.Proofs.YtmhepfehcakmjaaGreat
