import Derived.Test.YtaninphcgeaepaaGreatKPe1
import Derived.Laws.Closers25b
/- The document's answers: numbers of some bytes, a sum. -/
namespace Go.Proofs.YtaninphcgeaepaaGreat
open Go.RowKit

set_option maxRecDepth 100000 in
set_option maxHeartbeats 1000000 in
theorem rbig_any (n width : Nat) (w : World) (h1 : 1 ≤ width) (h2 : width ≤ 8) (hn : (n : Int) ≤ 9223372036854775807) : Calls Tryz.prog 103 #[.int .i64 n, .int .i64 width] w fun e w' =>
    (∃ l : List UInt8, l.length = width ∧ e = .returned (.string (str l))) ∧ Below w.heap.size w w' := by
  obtain ⟨i0, hi, hz0, hz1, hz2⟩ := info_parts infoU8
  go_enter Tryz.func103, Tryz.ntmps103
  go_wp2_with ((at_make; go_must (refine wpList_make_full _ rfl _ _ 140 rfl w.heap.size 5 i0 (.int .u8 0) 1 Tryz.underlying140 hi hz0 hz1 .i64 .i64 _ _ width rfl rfl rfl rfl (by rw [hz2]; omega) (by unfold maxLen; omega) (Nat.le_refl _) ?_); intro w1 hown hgrow))
  obtain ⟨wo, rfl⟩ : ∃ wo : World, wo = w := ⟨_, rfl⟩
  go_loopw [0, 6] (fun x i wr => ∃ (k m : Nat) (l : List UInt8), k ≤ width ∧ i = .int .i64 ((k : Int) - 1) ∧ x = .int .i64 m ∧ (m : Int) ≤ 9223372036854775807 ∧ l.length = width ∧ Kept (wr.ownsRow wo.heap.size 5 1 (.slice (some ⟨wo.heap.size, 0, none⟩) width width) width (bcells l)) ∧ Below wo.heap.size wo wr) (fun _ i _ => ((intOf i) + 1).toNat)
  case atStart =>
    refine ⟨width, n, List.replicate width 0, Nat.le_refl _, rfl, rfl, hn, by simp, keep ?_, (Below.refl _ _).grown hgrow (Nat.le_refl _) (by simp)⟩
    have hz : (madeCells (Value.int IntKind.u8 0).cells (width * 1)).toList = List.replicate width (.int .u8 0) := by rw [Nat.mul_one]; exact toList_madeCells_one _ _
    rw [hz] at hown
    have hb : bcells (List.replicate width (0 : UInt8)) = List.replicate width (.int .u8 0) := by simp [bcells]
    rw [hb]
    exact hown
  case round =>
    obtain ⟨k, m, l, hk, rfl, rfl, hm, hl, HO, hbl⟩ := hrel
    by_cases h0 : 0 < k
    · obtain ⟨i, rfl⟩ : ∃ i, k = i + 1 := ⟨k - 1, by omega⟩
      have e0 : ((i + 1 : Nat) : Int) - 1 = (i : Int) := by omega
      rw [e0]
      clear e0
      have hbl2 : (bcells l).length = width := by rw [bcells_length, hl]
      have hc : wr.cell? ⟨wo.heap.size, i, none⟩ = some ((bcells l)[i]'(by omega)) := by
        rw [HO.out.cellAt i (by omega), List.getElem?_eq_getElem]
      have hf := HO.out.frozenAt i
      have hst := HO.out.stored i (.int .u8 ((m : Int) % 256))
      have hx : (bcells l).set i (.int .u8 ((m : Int) % 256)) = bcells (l.set i (UInt8.ofNat (m % 256))) := by
        unfold bcells
        rw [List.map_set]
        congr 2
        simp
      rw [hx] at hst
      have Hst := keep hst
      clear hst hx
      go_wp2_with fail
      go_roundw
      case rel => exact ⟨i, m / 256, l.set i (UInt8.ofNat (m % 256)), by omega, rfl, by go_num, by omega, by rw [List.length_set]; exact hl, keep Hst.out.1, hbl.setCell (Nat.le_refl _) _⟩
      case measure => simp [intOf]
    · have e : k = 0 := by omega
      subst e
      have e0 : ((0 : Nat) : Int) - 1 = (-1 : Int) := by omega
      rw [e0]
      have hcv := own_convert HO.out hl.symm
      clear e0
      go_wp2_with fail
      go_ret
      exact ⟨⟨l, hl, rfl⟩, hbl⟩

theorem xor_nat (a b : Int) : ∃ z : Nat, bits .xor .u32 a b = (z : Int) ∧ z ≤ 4294967295 := by
  have h := bits_within .xor .u32 a b
  have h1 : (0 : Int) ≤ bits .xor .u32 a b := h.1
  have h2 : bits .xor .u32 a b ≤ 4294967295 := h.2
  exact ⟨(bits .xor .u32 a b).toNat, by omega, by omega⟩
theorem xor_val (a b : Int) : ∃ z : Nat, Value.int .u32 (bits .xor .u32 a b) = Value.int .u32 z ∧ z ≤ 4294967295 := by
  obtain ⟨z, h1, h2⟩ := xor_nat a b
  exact ⟨z, by rw [h1], h2⟩
set_option maxRecDepth 100000 in
set_option maxHeartbeats 1000000 in
theorem rsum_any (s : List UInt8) (w_ : World) (hs : (s.length : Int) ≤ 4611686018427387904) : Calls Tryz.prog 104 #[.string (str s)] w_ fun e w' =>
    (∃ c : Nat, c ≤ 4294967295 ∧ e = .returned (.int .u32 c)) ∧ w_ = w' := by
  go_enter Tryz.func104, Tryz.ntmps104
  go_wp2_with fail
  go_loop [3, 4] (fun c i => ∃ (x k : Nat), k ≤ s.length ∧ c = .int .u32 x ∧ x ≤ 4294967295 ∧ i = .int .i64 k) (fun _ i => s.length - (intOf i).toNat)
  case atStart => exact ⟨4294967295, 0, Nat.zero_le _, rfl, by omega, rfl⟩
  case round =>
    obtain ⟨x, k, hk, rfl, h1, rfl⟩ := hrel
    by_cases hlt : k < s.length
    · have hlt2 : k < (str s).size := hlt
      go_wp2_with fail
      go_loop [3, 5] (fun c i => ∃ (x k : Nat), k ≤ 8 ∧ c = .int .u32 x ∧ x ≤ 4294967295 ∧ i = .int .i64 k) (fun _ i => 8 - (intOf i).toNat)
      case atStart => exact (xor_val _ _).elim fun z hz => ⟨z, 0, by omega, hz.1, hz.2, rfl⟩
      case round =>
        obtain ⟨y, j, hj, rfl, h2, rfl⟩ := hrel
        by_cases hj8 : j < 8
        · go_wp2_with fail
          all_goals first
            | exact ⟨(xor_val _ _).elim fun z hz => ⟨z, j + 1, by omega, hz.1, hz.2, by simp⟩, by simp [intOf]; omega⟩
            | exact ⟨⟨y / 2, j + 1, by omega, by simp, by omega, by simp⟩, by simp [intOf]; omega⟩
        · have e : j = 8 := by omega
          subst e
          go_wp2_with fail
          exact ⟨⟨y, k + 1, by omega, rfl, h2, by simp⟩, by simp [intOf]; omega⟩
    · have e : k = s.length := by omega
      subst e
      obtain ⟨z, hz, hz2⟩ := xor_nat x 4294967295
      go_wp2_with fail
      go_ret
      exact ⟨⟨z, hz2, rfl⟩, rfl⟩

end Go.Proofs.YtaninphcgeaepaaGreat
