import Derived.Test.YtigbgodbalpgdaaKBits3
/- bits.Big and bits.Of. -/
namespace Go.Proofs.Ytigbgodbalpgdaa
open Go.RowKit

/-- A number's bytes, the highest one first. -/
def bigS (n width : Nat) : List UInt8 := (List.range width).map fun i => UInt8.ofNat (n / 2 ^ (8 * (width - 1 - i)) % 256)

theorem bigS_length (n width : Nat) : (bigS n width).length = width := by simp [bigS]

theorem bigS_getElem (n width k : Nat) (hk : k < width) : (bigS n width)[k]? = some (UInt8.ofNat (n / 2 ^ (8 * (width - 1 - k)) % 256)) := by
  simp [bigS, hk]

theorem big_cell (n e : Nat) : Value.int .u8 ((n : Int) / 2 ^ e % 256) = Value.int .u8 (UInt8.ofNat (n / 2 ^ e % 256)).toNat := by
  congr 1
  rw [UInt8.toNat_ofNat']
  have e1 : ((n : Int) / 2 ^ e) = ((n / 2 ^ e : Nat) : Int) := by push_cast; rfl
  rw [e1]
  omega

theorem row_set (B : List UInt8) (width k : Nat) (z x : Value) (c : UInt8) (hk : k < width) (hB : B[k]? = some c) (hx : x = .int .u8 c.toNat) :
    (bcells (B.take k) ++ List.replicate (width - k) z).set k x = bcells (B.take (k + 1)) ++ List.replicate (width - (k + 1)) z := by
  subst hx
  have hl : (bcells (B.take k)).length = k := by
    have : k < B.length := by
      rcases Nat.lt_or_ge k B.length with h | h
      · exact h
      · rw [List.getElem?_eq_none h] at hB; cases hB
    simp; omega
  have hr : List.replicate (width - k) z = z :: List.replicate (width - (k + 1)) z := by
    rw [show width - k = (width - (k + 1)) + 1 from by omega, List.replicate_succ]
  rw [hr, List.set_append_right _ _ (by omega), hl, Nat.sub_self, List.set_cons_zero, List.take_add_one, hB, bcells_append]
  simp [bcells]

set_option maxRecDepth 100000 in
set_option maxHeartbeats 1000000 in
theorem big_ok (n width : Nat) (w : World) (h1 : 1 ≤ width) (h2 : width ≤ 8) (hn : (n : Int) ≤ 9223372036854775807) : Calls Try.prog 89 #[.int .i64 n, .int .i64 width] w fun e w' =>
    e = .returned (.string (str (bigS n width))) ∧ Below w.heap.size w w' := by
  obtain ⟨i0, hi, hz0, hz1, hz2⟩ := info_parts infoU8
  go_enter Try.func89, Try.ntmps89
  go_wp2_with ((at_make; go_must (refine wpList_make_full _ rfl _ _ 98 rfl w.heap.size 5 i0 (.int .u8 0) 1 Try.underlying98 hi hz0 hz1 .i64 .i64 _ _ width rfl rfl rfl rfl (by rw [hz2]; omega) (by unfold maxLen; omega) (Nat.le_refl _) ?_); intro w1 hown hgrow))
  obtain ⟨wo, rfl⟩ : ∃ wo : World, wo = w := ⟨_, rfl⟩
  go_loopw [21] (fun i wr => ∃ k : Nat, k ≤ width ∧ i = .int .i64 k ∧ wr.ownsRow wo.heap.size 5 1 (.slice (some ⟨wo.heap.size, 0, none⟩) width width) width (bcells ((bigS n width).take k) ++ List.replicate (width - k) (.int .u8 0)) ∧ Below wo.heap.size wo wr) (fun i _ => width - (intOf i).toNat)
  case atStart =>
    refine ⟨0, Nat.zero_le _, rfl, ?_, (Below.refl _ _).grown hgrow (Nat.le_refl _) (by simp)⟩
    have hz : (madeCells (Value.int IntKind.u8 0).cells (width * 1)).toList = List.replicate width (.int .u8 0) := by rw [Nat.mul_one]; exact toList_madeCells_one _ _
    rw [hz] at hown
    simpa [bcells] using hown
  case round =>
    obtain ⟨k, hk, rfl, hown, hbl⟩ := hrel
    by_cases hlt : k < width
    · have hc : wr.cell? ⟨wo.heap.size, k, none⟩ = some (.int .u8 0) := by
        have hl : (bcells ((bigS n width).take k)).length = k := by simp [bigS_length]; omega
        rw [hown.cellAt k (by omega), List.getElem?_append_right (by omega), hl, Nat.sub_self]
        rw [List.getElem?_replicate, if_pos (by omega)]
      have hf := hown.frozenAt k
      have hst := hown.stored k (.int .u8 ((n : Int) / 2 ^ (8 * (width - 1 - k)) % 256))
      rw [row_set _ _ _ _ _ _ hlt (bigS_getElem n width k hlt) (big_cell n _)] at hst
      have Hst := keep hst
      clear hst hown
      go_wp2_with fail
      go_roundw
      case rel => exact ⟨k + 1, by omega, by go_num, Hst.out.1, hbl.setCell (Nat.le_refl _) _⟩
      case measure => simp [intOf]; omega
    · have e : k = width := by omega
      have hfull : bcells ((bigS n width).take k) ++ List.replicate (width - k) (.int .u8 0) = bcells (bigS n width) := by
        rw [e, List.take_of_length_le (by simp [bigS_length]), Nat.sub_self]; simp
      rw [hfull] at hown
      have hcv := own_convert hown (bigS_length n width).symm
      clear e hfull
      go_wp2_with fail
      go_ret
      exact ⟨rfl, hbl⟩

theorem big_at (N W : Int) (n width : Nat) (w : World) (hN : N = n) (hW : W = width) (h1 : 1 ≤ width) (h2 : width ≤ 8) (hn : (n : Int) ≤ 9223372036854775807) : Calls Try.prog 89 #[.int .i64 N, .int .i64 W] w fun e w' =>
    e = .returned (.string (str (bigS n width))) ∧ Below w.heap.size w w' := by
  subst hN hW
  exact big_ok n width w h1 h2 hn

end Go.Proofs.Ytigbgodbalpgdaa
