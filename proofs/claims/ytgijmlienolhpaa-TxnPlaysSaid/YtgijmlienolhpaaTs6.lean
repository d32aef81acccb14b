
/- The laws' comparisons of what is the same: numbers, snapshots, those that have begun. -/
import Derived.Test.YtgijmlienolhpaaTl1
import Derived.BigQuiet
namespace Go.Proofs.Ytgijmlienolhpaa
open Go.RowKit Go.Maps

theorem grow_drewN {w w' : World} (h : Grow w w') (n : Nat) : Grow w (w'.drewN n) := ⟨h.os, h.tape, h.output, h.size, h.block⟩
theorem ints_at {w : World} {t n : Nat} {v : Value} {l : List Int} (h : Row w t v n (iCells l)) (hn : n = l.length) {k : Nat} (hk : k < l.length) : ∃ c off cap, v = .slice (some ⟨c, off, none⟩) n cap ∧ w.cell? ⟨c, off + k, none⟩ = some (.int .i64 l[k]) := by
  rcases h with ⟨h0, _⟩ | ⟨c, off, cap, rfl, hc⟩
  · omega
  · exact ⟨c, off, cap, rfl, by rw [hc k (by simpa [iCells] using hk)]; simp [iCells]⟩
/-- A round that only reads. -/
def RdRel (n : Nat) (w0 : World) (i : Value) (wr : World) : Prop := ∃ k : Nat, k ≤ n ∧ i = .int .i64 k ∧ Kept (Grow w0 wr)

set_option maxRecDepth 100000 in
set_option maxHeartbeats 4000000 in
theorem sameInts_eq (l : List Int) (v v2 : Value) (w_ : World) (hi : Ints w_ v l) (hj : Ints w_ v2 l) (hl : (l.length : Int) ≤ 4611686018427387904) :
    Calls Try.prog 28 #[v, v2] w_ fun x w' => x = .returned (.bool true) ∧ Below w_.heap.size w_ w' := by
  obtain ⟨ia, ic, rfl⟩ := row_sl hi
  obtain ⟨ja, jc, rfl⟩ := row_sl hj
  have HI0 := keep hi
  have HJ0 := keep hj
  clear hi hj
  go_enter Try.func28, Try.ntmps28
  go_wp2_with fail
  go_loopw [5] (fun i wr => RdRel l.length w_ i wr) (fun i _ => l.length - (intOf i).toNat)
  case atStart => exact show RdRel l.length w_ _ _ from ⟨0, Nat.zero_le _, rfl, keep (Below.refl _ _)⟩
  case round =>
    obtain ⟨n, hn, rfl, HG⟩ := hrel
    by_cases hlt : n < l.length
    · obtain ⟨c1, off1, cap1, e1, d1⟩ := ints_at (Row.fits HI0.out HG.out) rfl hlt
      obtain ⟨c2, off2, cap2, e2, d2⟩ := ints_at (Row.fits HJ0.out HG.out) rfl hlt
      simp only [Value.slice.injEq] at e1 e2
      obtain ⟨rfl, x1, x2⟩ := e1
      obtain ⟨rfl, x3, x4⟩ := e2
      generalize l[n] = e at *
      clear x1 x2 x3 x4
      go_upto_region 6 with fail
      go_quiet (fail)
      go_wp2_with fail
      go_roundw
      case rel => exact show RdRel l.length w_ _ _ from ⟨n + 1, by omega, by go_num, keep (grow_drewN HG.out _)⟩
      case measure => simp [intOf]; omega
    · have e : n = l.length := by omega
      subst e
      go_wp2_with fail
      go_ret
      exact ⟨rfl, HG.out⟩

set_option maxRecDepth 100000 in
set_option maxHeartbeats 4000000 in
theorem begun_eq (l : List (Int × Int)) (v v2 : Value) (w_ : World) (hi : Row w_ 59 v l.length (bgCells l)) (hj : Row w_ 59 v2 l.length (bgCells l)) (hl : (l.length : Int) ≤ 4611686018427387904) :
    Calls Try.prog 30 #[v, v2] w_ fun x w' => x = .returned (.bool true) ∧ Below w_.heap.size w_ w' := by
  obtain ⟨ia, ic, rfl⟩ := row_sl hi
  obtain ⟨ja, jc, rfl⟩ := row_sl hj
  have HI0 := keep hi
  have HJ0 := keep hj
  clear hi hj
  go_enter Try.func30, Try.ntmps30
  go_wp2_with fail
  go_loopw [5] (fun i wr => RdRel l.length w_ i wr) (fun i _ => l.length - (intOf i).toNat)
  case atStart => exact show RdRel l.length w_ _ _ from ⟨0, Nat.zero_le _, rfl, keep (Below.refl _ _)⟩
  case round =>
    obtain ⟨n, hn, rfl, HG⟩ := hrel
    by_cases hlt : n < l.length
    · obtain ⟨c1, off1, cap1, e1, d1, d1'⟩ := bg_at (Row.fits HI0.out HG.out) rfl hlt
      obtain ⟨c2, off2, cap2, e2, d2, d2'⟩ := bg_at (Row.fits HJ0.out HG.out) rfl hlt
      simp only [Value.slice.injEq] at e1 e2
      obtain ⟨rfl, x1, x2⟩ := e1
      obtain ⟨rfl, x3, x4⟩ := e2
      generalize l[n] = e at *
      obtain ⟨e, e'⟩ := e
      clear x1 x2 x3 x4
      go_upto_region 6 with fail
      go_quiet (fail)
      go_wp2_with fail
      go_roundw
      case rel => exact show RdRel l.length w_ _ _ from ⟨n + 1, by omega, by go_num, keep (grow_drewN HG.out _)⟩
      case measure => simp [intOf]; omega
    · have e : n = l.length := by omega
      subst e
      go_wp2_with fail
      go_ret
      exact ⟨rfl, HG.out⟩

set_option maxRecDepth 100000 in
set_option maxHeartbeats 4000000 in
theorem sameSnap_eq (n : Int) (l : List Int) (v v2 : Value) (w_ : World) (hi : Ints w_ v l) (hj : Ints w_ v2 l) (hl : (l.length : Int) ≤ 4611686018427387904) :
    Calls Try.prog 37 #[.agg #[.int .i64 n, v], .agg #[.int .i64 n, v2]] w_ fun x w' => x = .returned (.bool true) ∧ Below w_.heap.size w_ w' := by
  obtain ⟨ia, ic, rfl⟩ := row_sl hi
  obtain ⟨ja, jc, rfl⟩ := row_sl hj
  obtain ⟨w1, hw1⟩ : ∃ w1, w1 = w_.alloc (.cells #[.int .i64 n, .slice ia l.length ic] 28) := ⟨_, rfl⟩
  have hg1 : Grow w_ w1 := by subst hw1; exact (Grow.refl w_).alloc _
  have hx1 : Blk w1 w_.heap.size 28 [.int .i64 n, .slice ia l.length ic] := by subst hw1; exact Blk.new w_ _ [_, _]
  have hz1 : w1.heap.size = w_.heap.size + 1 := by subst hw1; simp
  obtain ⟨w2, hw2⟩ : ∃ w2, w2 = w1.alloc (.cells #[.int .i64 n, .slice ja l.length jc] 28) := ⟨_, rfl⟩
  have hg2 : Grow w1 w2 := by subst hw2; exact (Grow.refl w1).alloc _
  have hx2 : Blk w2 (w_.heap.size + 1) 28 [.int .i64 n, .slice ja l.length jc] := by rw [← hz1]; subst hw2; exact Blk.new w1 _ [_, _]
  have HG2 := keep (Grow.trans hg1 hg2)
  have HI0 := keep (Row.fits hi HG2.out)
  have HJ0 := keep (Row.fits hj HG2.out)
  have HX1 := keep (hx1.fits hg2)
  have HX2 := keep hx2
  obtain ⟨x0, x1, -⟩ := two_of HX1.out
  obtain ⟨y0, y1, -⟩ := two_of HX2.out
  clear hi hj hg1 hx1 hg2 hx2
  go_enter Try.func37, Try.ntmps37
  go_upto_region 1 with fail
  rw [← hw1, ← hw2]
  clear hw1 hw2 hz1
  go_wp2_with fail
  clear x0 x1 y0 y1
  go_loopw [5] (fun i wr => RdRel l.length w2 i wr) (fun i _ => l.length - (intOf i).toNat)
  case atStart => exact show RdRel l.length w2 _ _ from ⟨0, Nat.zero_le _, rfl, keep (Below.refl _ _)⟩
  case round =>
    obtain ⟨k, hn, rfl, HG⟩ := hrel
    obtain ⟨-, x1, -⟩ := two_of (HX1.out.fits HG.out)
    obtain ⟨-, y1, -⟩ := two_of (HX2.out.fits HG.out)
    by_cases hlt : k < l.length
    · obtain ⟨c1, off1, cap1, e1, d1⟩ := ints_at (Row.fits HI0.out HG.out) rfl hlt
      obtain ⟨c2, off2, cap2, e2, d2⟩ := ints_at (Row.fits HJ0.out HG.out) rfl hlt
      simp only [Value.slice.injEq] at e1 e2
      obtain ⟨rfl, x1', x2'⟩ := e1
      obtain ⟨rfl, x3', x4'⟩ := e2
      generalize l[k] = e at *
      clear x1' x2' x3' x4'
      go_upto_region 6 with fail
      go_quiet (fail)
      go_wp2_with fail
      go_roundw
      case rel => exact show RdRel l.length w2 _ _ from ⟨k + 1, by omega, by go_num, keep (grow_drewN HG.out _)⟩
      case measure => simp [intOf]; omega
    · have e : k = l.length := by omega
      subst e
      go_wp2_with fail
      go_ret
      exact ⟨rfl, Grow.trans HG2.out HG.out⟩

end Go.Proofs.Ytgijmlienolhpaa
