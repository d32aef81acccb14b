
import Derived.Test.YtikmkimkhngihaaGreatKBits3
/- bits.Big and bits.Of. -/
namespace Go.Proofs.YtikmkimkhngihaaGreat
open Go.RowKit

/-- A number's bytes, the highest one first. -/
def bigS (n width : Nat) : List UInt8 := (List.range width).map fun i => UInt8.ofNat (n / 2 ^ (8 * (width - 1 - i)) % 256)

theorem bigS_length (n width : Nat) : (bigS n width).length = width := by simp [bigS]

theorem bigS_getElem (n width k : Nat) (hk : k < width) : (bigS n width)[k]? = some (UInt8.ofNat (n / 2 ^ (8 * (width - 1 - k)) % 256)) := by
  simp [bigS, hk]

theorem big_cell (n e : Nat) : Value.int .u8 ((n : Int) / 2 ^ e % 256) = Value.int .u8 (UInt8.ofNat (n / 2 ^ e % 256)).toNat := by
  congr 1
  rw [UInt8.toNat_ofNat']
  have e1 : ((n : Int) / 2 ^ e) = ((n / 2 ^ e : Nat) : Int) := by push_cast; rfl
  rw [e1]
  omega

theorem row_set (B : List UInt8) (width k : Nat) (z x : Value) (c : UInt8) (hk : k < width) (hB : B[k]? = some c) (hx : x = .int .u8 c.toNat) :
    (bcells (B.take k) ++ List.replicate (width - k) z).set k x = bcells (B.take (k + 1)) ++ List.replicate (width - (k + 1)) z := by
  subst hx
  have hl : (bcells (B.take k)).length = k := by
    have : k < B.length := by
      rcases Nat.lt_or_ge k B.length with h | h
      · exact h
      · rw [List.getElem?_eq_none h] at hB; cases hB
    simp; omega
  have hr : List.replicate (width - k) z = z :: List.replicate (width - (k + 1)) z := by
    rw [show width - k = (width - (k + 1)) + 1 from by omega, List.replicate_succ]
  rw [hr, List.set_append_right _ _ (by omega), hl, Nat.sub_self, List.set_cons_zero, List.take_add_one, hB, bcells_append]
  simp [bcells]

set_option maxRecDepth 100000 in
set_option maxHeartbeats 1000000 in
theorem big_ok (n width : Nat) (w : World) (h1 : 1 ≤ width) (h2 : width ≤ 8) (hn : (n : Int) ≤ 9223372036854775807) : Calls Tryz.prog 47 #[.int .i64 n, .int .i64 width] w fun e w' =>
    e = .returned (.string (str (bigS n width))) ∧ Below w.heap.size w w' := by
  obtain ⟨i0, hi, hz0, hz1, hz2⟩ := info_parts infoU8
  go_enter Tryz.func47, Tryz.ntmps47
  go_wp2_with ((at_make; go_must (refine wpList_make_full _ rfl _ _ 84 rfl w.heap.size 5 i0 (.int .u8 0) 1 Tryz.underlying84 hi hz0 hz1 .i64 .i64 _ _ width rfl rfl rfl rfl (by rw [hz2]; omega) (by unfold maxLen; omega) (Nat.le_refl _) ?_); intro w1 hown hgrow))
  obtain ⟨wo, rfl⟩ : ∃ wo : World, wo = w := ⟨_, rfl⟩
  go_loopw [21] (fun i wr => ∃ k : Nat, k ≤ width ∧ i = .int .i64 k ∧ wr.ownsRow wo.heap.size 5 1 (.slice (some ⟨wo.heap.size, 0, none⟩) width width) width (bcells ((bigS n width).take k) ++ List.replicate (width - k) (.int .u8 0)) ∧ Below wo.heap.size wo wr) (fun i _ => width - (intOf i).toNat)
  case atStart =>
    refine ⟨0, Nat.zero_le _, rfl, ?_, (Below.refl _ _).grown hgrow (Nat.le_refl _) (by simp)⟩
    have hz : (madeCells (Value.int IntKind.u8 0).cells (width * 1)).toList = List.replicate width (.int .u8 0) := by rw [Nat.mul_one]; exact toList_madeCells_one _ _
    rw [hz] at hown
    simpa [bcells] using hown
  case round =>
    obtain ⟨k, hk, rfl, hown, hbl⟩ := hrel
    by_cases hlt : k < width
    · have hc : wr.cell? ⟨wo.heap.size, k, none⟩ = some (.int .u8 0) := by
        have hl : (bcells ((bigS n width).take k)).length = k := by simp [bigS_length]; omega
        rw [hown.cellAt k (by omega), List.getElem?_append_right (by omega), hl, Nat.sub_self]
        rw [List.getElem?_replicate, if_pos (by omega)]
      have hf := hown.frozenAt k
      have hst := hown.stored k (.int .u8 ((n : Int) / 2 ^ (8 * (width - 1 - k)) % 256))
      rw [row_set _ _ _ _ _ _ hlt (bigS_getElem n width k hlt) (big_cell n _)] at hst
      have Hst := keep hst
      clear hst hown
      go_wp2_with fail
      go_roundw
      case rel => exact ⟨k + 1, by omega, by go_num, Hst.out.1, hbl.setCell (Nat.le_refl _) _⟩
      case measure => simp [intOf]; omega
    · have e : k = width := by omega
      have hfull : bcells ((bigS n width).take k) ++ List.replicate (width - k) (.int .u8 0) = bcells (bigS n width) := by
        rw [e, List.take_of_length_le (by simp [bigS_length]), Nat.sub_self]; simp
      rw [hfull] at hown
      have hcv := own_convert hown (bigS_length n width).symm
      clear e hfull
      go_wp2_with fail
      go_ret
      exact ⟨rfl, hbl⟩

theorem big_at (N W : Int) (n width : Nat) (w : World) (hN : N = n) (hW : W = width) (h1 : 1 ≤ width) (h2 : width ≤ 8) (hn : (n : Int) ≤ 9223372036854775807) : Calls Tryz.prog 47 #[.int .i64 N, .int .i64 W] w fun e w' =>
    e = .returned (.string (str (bigS n width))) ∧ Below w.heap.size w w' := by
  subst hN hW
  exact big_ok n width w h1 h2 hn

end Go.Proofs.YtikmkimkhngihaaGreat

/- bits.Of. -/
namespace Go.Proofs.YtikmkimkhngihaaGreat
open Go.RowKit

/-- The number of bytes, the highest one first. -/
def ofGo : Nat → List UInt8 → Nat
  | n, [] => n
  | n, c :: l => ofGo ((n * 256 + c.toNat) % 2 ^ 64) l
def ofS (l : List UInt8) : Nat := ofGo 0 l % 2 ^ 63

theorem or_byte (m c : Nat) (hc : c < 256) : bits BinOp.or IntKind.u64 (IntKind.u64.wrap ((m : Int) * 256)) (IntKind.u64.wrap (c : Int)) = (((m * 256 + c) % 2 ^ 64 : Nat) : Int) := by
  have e1 : IntKind.u64.wrap ((m : Int) * 256) = ((m * 256 % 18446744073709551616 : Nat) : Int) := by rw [IntKind.wrap_u64]; omega
  have e2 : IntKind.u64.wrap (c : Int) = ((c : Nat) : Int) := by rw [IntKind.wrap_u64]; omega
  rw [e1, e2, u64_or_nat _ _ (by omega) (by omega)]
  congr 1
  have e3 : m * 256 % 18446744073709551616 = 2 ^ 8 * (m % 72057594037927936) := by omega
  rw [e3, ← Nat.two_pow_add_eq_or_of_lt (by omega)]
  omega

theorem and_low (m : Nat) (hm : m < 18446744073709551616) : wrap64 (bits BinOp.andNot IntKind.u64 (↑m) 9223372036854775808) = ((m % 2 ^ 63 : Nat) : Int) := by
  have e2 : (9223372036854775808 : Int) = ((9223372036854775808 : Nat) : Int) := rfl
  rw [e2, u64_andNot_nat _ _ hm (by omega)]
  have e3 : m &&& (18446744073709551615 - 9223372036854775808) = m % 2 ^ 63 := Nat.and_two_pow_sub_one_eq_mod m 63
  rw [e3]
  unfold wrap64
  omega

set_option maxRecDepth 100000 in
set_option maxHeartbeats 1000000 in
theorem of_ok (s : ByteArray) (w : World) (hs : (s.size : Int) ≤ 9223372036854775807) : Calls Tryz.prog 50 #[.string s] w fun e w' =>
    e = .returned (.int .i64 (ofS s.data.toList)) ∧ w = w' := by
  go_enter Tryz.func50, Tryz.ntmps50
  go_wp2_with fail
  go_loop [3, 7] (fun n i => ∃ k m : Nat, k ≤ s.size ∧ i = .int .i64 k ∧ n = .int .u64 m ∧ (m : Int) ≤ 18446744073709551615 ∧ Kept (ofGo m (s.data.toList.drop k) = ofGo 0 s.data.toList)) (fun _ i => s.size - (intOf i).toNat)
  case atStart => exact ⟨0, 0, Nat.zero_le _, rfl, rfl, by omega, keep rfl⟩
  case round =>
    obtain ⟨k, m, hk, rfl, rfl, hm, hrel⟩ := hrel
    by_cases hlt : k < s.size
    · have hd : s.data.toList.drop k = s[k] :: s.data.toList.drop (k + 1) := by
        rw [List.drop_eq_getElem_cons (by simpa using hlt)]; rfl
      have Hd := keep hd
      have hor := or_byte m s[k].toNat s[k].toNat_lt
      have Hor := keep hor
      clear hd hor
      go_wp2_with fail
      go_round
      case rel =>
        refine ⟨k + 1, (m * 256 + s[k].toNat) % 2 ^ 64, by omega, by go_num, ?_, by omega, keep ?_⟩
        · rw [Hor.out]
        · rw [← hrel.out, Hd.out]; rfl
      case measure => simp [intOf]; omega
    · have Hand := keep (and_low m (by omega))
      go_wp2_with fail
      go_ret
      have h0 := hrel.out
      rw [List.drop_eq_nil_of_le (by simp; omega)] at h0
      refine ⟨?_, rfl⟩
      show Ending.returned (Value.int IntKind.i64 (wrap64 (bits BinOp.andNot IntKind.u64 (↑m) 9223372036854775808))) = _
      rw [Hand.out, ofS, ← h0]
      rfl

end Go.Proofs.YtikmkimkhngihaaGreat
