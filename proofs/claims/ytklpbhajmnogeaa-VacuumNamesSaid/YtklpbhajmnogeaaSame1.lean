/- almonryref00.SameInts: whether two rows of ints are the same. -/
import Derived.Test.YtklpbhajmnogeaaSort2
import Derived.Deep.QuietTactic
import Derived.BigQuiet
namespace Go.Proofs.Ytklpbhajmnogeaa
open Go.RowKit

theorem take_eq_succ {a b : List Int} {k : Nat} (h : a.take k = b.take k) (ha : k < a.length) (hb : k < b.length) (hk : a.getD k 0 = b.getD k 0) : a.take (k + 1) = b.take (k + 1) := by
  rw [List.take_succ_eq_append_getElem ha, List.take_succ_eq_append_getElem hb, h]
  simp [ha, hb] at hk
  rw [hk]

set_option maxRecDepth 100000 in
set_option maxHeartbeats 1000000 in
theorem sameInts_any (av bv : Value) (a b : List Int) (w : World) (ha : Ints w av a) (hb : Ints w bv b) (hla : (a.length : Int) ≤ 70368744177664) (hlb : (b.length : Int) ≤ 70368744177664) :
    Calls Try.prog 40 #[av, bv] w fun e w' => e = .returned (.bool (decide (a = b))) ∧ Below w.heap.size w w' := by
  obtain ⟨aa, ac, rfl, hca⟩ := ints_form ha
  obtain ⟨ba, bc, rfl, hcb⟩ := ints_form hb
  clear ha hb
  have HA := keep hca
  have HB := keep hcb
  clear hca hcb
  go_enter Try.func40, Try.ntmps40
  by_cases hl : a.length = b.length
  · have hl' : ((a.length : Int) != (b.length : Int)) = false := by simp [hl]
    go_wp2_with fail
    go_loopw [5] (fun i wr => ∃ k : Nat, k ≤ a.length ∧ i = .int .i64 k ∧ Kept (a.take k = b.take k) ∧ Below w.heap.size w wr) (fun i _ => a.length - (intOf i).toNat)
    case atStart => exact ⟨0, Nat.zero_le _, rfl, keep rfl, Below.refl _ _⟩
    case round =>
      obtain ⟨k, hk, rfl, hT, hG⟩ := hrel
      by_cases hlt : k < a.length
      · have hltb : k < b.length := by omega
        obtain ⟨c, off, rfl, hx⟩ := HA.out k hlt
        obtain ⟨d, off', rfl, hy⟩ := HB.out k hltb
        have hx1 := (hG.cell (p := ⟨c, off + k, none⟩) (World.block_lt_of_cell? w _ hx)).trans hx
        have hy1 := (hG.cell (p := ⟨d, off' + k, none⟩) (World.block_lt_of_cell? w _ hy)).trans hy
        have hi1 : (k : Int) < (a.length : Int) := by omega
        have hi2 : (k : Int) < (b.length : Int) := by omega
        have hst := take_eq_succ hT.out hlt hltb
        have hne : a.getD k 0 ≠ b.getD k 0 → decide (a = b) = false := by
          intro h; simp; intro e; rw [e] at h; exact h rfl
        generalize a.getD k 0 = x at *
        generalize b.getD k 0 = y at *
        have HS := keep hst
        have HN := keep hne
        clear hst hne hx hy
        by_cases hxy : x = y
        · have e1 : (x != y) = false := by simp [hxy]
          go_wp2_with fail
          go_quiet (fail)
          go_wp2_with fail
          go_roundw
          case rel => exact ⟨k + 1, by omega, by go_num, keep (HS.out hxy), ⟨hG.os, hG.tape, hG.output, hG.size, hG.block⟩⟩
          case measure => simp [intOf]; omega
        · have e1 : (x != y) = true := by simp [hxy]
          go_wp2_with fail
          go_quiet (fail)
          go_wp2_with fail
          go_ret
          rw [HN.out hxy]
          exact ⟨rfl, ⟨hG.os, hG.tape, hG.output, hG.size, hG.block⟩⟩
      · have e : decide (a = b) = true := by
          have := hT.out
          rw [List.take_of_length_le (by omega), List.take_of_length_le (by omega)] at this
          simp [this]
        have He := keep e
        clear e
        go_wp2_with fail
        go_ret
        rw [He.out]
        exact ⟨rfl, hG⟩
  · have hl' : ((a.length : Int) != (b.length : Int)) = true := by simp; omega
    have e : decide (a = b) = false := by simp; intro h; exact hl (by rw [h])
    have He := keep e
    clear e
    go_wp2_with fail
    go_ret
    rw [He.out]
    exact ⟨rfl, Below.refl _ _⟩

end Go.Proofs.Ytklpbhajmnogeaa
