import Derived.Test.YtigbgodbalpgdaaGreatKPe2
/- The document's answers: a page's size. -/
namespace Go.Proofs.YtigbgodbalpgdaaGreat
open Go.RowKit

set_option maxRecDepth 100000 in
set_option maxHeartbeats 1000000 in
theorem rsize_any (P : Pg) (iv : Value) (w : World) (hi : Items w iv P.items) (h255 : P.items.length ≤ 255) (hs : ∀ x ∈ P.items, (x.length : Int) ≤ 140737488355328) (hh : (P.high.length : Int) ≤ 140737488355328) :
    Calls Tryz.prog 82 #[pgV P iv] w fun e w' => e = .returned (.int .i64 (sizeP P)) ∧ Below w.heap.size w w' := by
  obtain ⟨w0, hw0⟩ : ∃ w0, w0 = w.alloc (.cells (pgCells P iv).toArray 24) := ⟨_, rfl⟩
  have hg0 : Grow w w0 := by subst hw0; exact (Grow.refl w).alloc _
  have hB0 : Blk w0 w.heap.size 24 (pgCells P iv) := by subst hw0; exact Blk.new w _ _
  have hi0 := Row.fits hi hg0
  obtain ⟨ia, ic, rfl⟩ := items_form hi
  unfold pgCells at hw0 hB0
  obtain ⟨p0, p1, p2, p3, p4, p5, _⟩ := pgres hB0
  have hle := sumL_le P.items hs
  have HI := keep hi0
  have HB := keep hB0
  have HLe : Kept (∀ k, ((20 + P.high.length + sumL (P.items.take k) : Nat) : Int) ≤ 180000000000000000) := keep (by
    intro k; have := sumL_take P.items k; omega)
  clear hi hi0 hle hs hB0
  unfold pgV
  go_enter Tryz.func82, Tryz.ntmps82
  go_upto_region 1 with fail
  rw [← hw0]
  clear hw0
  go_wp2_with fail
  clear p0 p1 p2 p3 p4 p5
  go_loopw [3, 4] (fun n i wr => ∃ k : Nat, k ≤ P.items.length ∧ i = .int .i64 k ∧ n = .int .i64 ((20 + P.high.length + sumL (P.items.take k) : Nat) : Int) ∧ Below w0.heap.size w0 wr) (fun _ i _ => P.items.length - (intOf i).toNat)
  case atStart => exact ⟨0, Nat.zero_le _, rfl, by simp [sumL], Below.refl _ _⟩
  case round =>
    obtain ⟨k, hk, rfl, rfl, hG⟩ := hrel
    have hle := HLe.out k
    obtain ⟨p0, p1, p2, p3, p4, p5, _⟩ := pgres (HB.out.fits hG)
    by_cases hlt : k < P.items.length
    · obtain ⟨c, off, cap, e, hc⟩ := items_cells (Row.fits HI.out hG) (by omega)
      simp only [Value.slice.injEq] at e
      obtain ⟨rfl, _, rfl⟩ := e
      have hcell := hc k hlt
      have hstep : sumL (P.items.take (k + 1)) = sumL (P.items.take k) + (2 + P.items[k].length) := by
        rw [List.take_succ_eq_append_getElem hlt, sumL_append]; simp [sumL]
      have hle2 := HLe.out (k + 1)
      rw [hstep] at hle2
      generalize P.items[k] = x at *
      generalize sumL (P.items.take k) = S at *
      have HStep := keep hstep
      have HG := keep hG
      clear hstep hc hG
      go_wp2_with fail
      go_roundw
      case rel => exact ⟨k + 1, by omega, by go_num, by rw [HStep.out]; go_num, HG.out⟩
      case measure => simp [intOf]; omega
    · have e : P.items.take k = P.items := List.take_of_length_le (by omega)
      rw [e] at hle ⊢
      have hd : ((sizeP P : Nat) : Int) = ((20 + P.high.length + sumL P.items : Nat) : Int) := rfl
      have HD := keep hd
      clear hd
      go_wp2_with fail
      go_ret
      rw [HD.out]
      exact ⟨rfl, Grow.trans hg0 hG⟩

end Go.Proofs.YtigbgodbalpgdaaGreat
