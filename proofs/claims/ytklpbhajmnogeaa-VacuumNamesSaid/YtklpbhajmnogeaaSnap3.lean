/- snap: what is gone, old, off. -/
import Derived.Test.YtklpbhajmnogeaaSnap2
namespace Go.Proofs.Ytklpbhajmnogeaa
open Go.RowKit

def offB (v : Vw) (t : Tup) : Bool := t.xmax != 0 && statusS v t.xmax == 3

theorem i64_ne0 (n : Nat) : ((n : Int) != 0) = (n != 0) := by rw [Bool.eq_iff_iff]; simp
theorem u8_eq (n k : Nat) : ((n : Int) == (k : Int)) = (n == k) := by rw [Bool.eq_iff_iff]; simp; omega

set_option maxRecDepth 100000 in
set_option maxHeartbeats 1000000 in
theorem off_any (v : Vw) (av rv iv : Value) (t : Tup) (w : World) (hv : VwIn w v av rv iv) :
    Calls Try.prog 18 #[vwV v av rv iv, tupV t] w fun e w' => e = .returned (.bool (offB v t)) ∧ Below w.heap.size w w' := by
  obtain ⟨w1, hw1⟩ : ∃ w1, w1 = (w.alloc (.cells (vwCells v av rv iv).toArray 32)).alloc (.cells (tuCells t).toArray 57) := ⟨_, rfl⟩
  have hg1 : Grow w w1 := by subst hw1; exact ((Grow.refl w).alloc _).alloc _
  have hB1 : Blk w1 w.heap.size 32 (vwCells v av rv iv) := by subst hw1; exact (Blk.new w _ _).alloc _
  have hT1 : Blk w1 (w.heap.size + 1) 57 (tuCells t) := by
    have := Blk.new (w.alloc (.cells (vwCells v av rv iv).toArray 32)) 57 (tuCells t)
    have e : (w.alloc (.cells (vwCells v av rv iv).toArray 32)).heap.size = w.heap.size + 1 := by simp
    rw [e] at this
    subst hw1; exact this
  have hst := status_any v av rv iv t.xmax w1 (hv.fits hg1)
  have hd : offB v t = ((t.xmax : Int) != 0 && (statusS v t.xmax : Int) == 3) := by
    unfold offB; rw [i64_ne0, show (3 : Int) = ((3 : Nat) : Int) from rfl, u8_eq]
  generalize statusS v t.xmax = S at *
  have Hst := keep hst
  have HD := keep hd
  clear hst hd hv
  unfold vwV vwCells tuCells at *
  obtain ⟨c0, c1, c2, c3, c4, c5, c6, c7, c8, c9, c10⟩ := vwres hB1
  obtain ⟨d0, d1, d2, d3, d4⟩ := tures hT1
  unfold tupV
  go_enter Try.func18, Try.ntmps18
  cases hx : ((t.xmax : Int) != 0) with
  | false =>
    rw [hx] at HD
    go_wp2_with fail
    go_ret
    rw [HD.out, Bool.false_and]
    exact ⟨rfl, by rw [← hw1]; exact hg1⟩
  | true =>
    rw [hx] at HD
    go_wp2_with fail
    rw [← hw1]
    refine Hst.out.mono ?_
    rintro e w2 ⟨rfl, hb2⟩
    go_wp2_with fail
    go_ret
    rw [HD.out, Bool.true_and]
    exact ⟨rfl, Grow.trans hg1 hb2⟩

def oldB (v : Vw) (t : Tup) (h : Int) : Bool := !t.frozen && beforeB v.m t.xmin h && statusS v t.xmin == 2

set_option maxRecDepth 100000 in
set_option maxHeartbeats 1000000 in
theorem old_any (v : Vw) (av rv iv : Value) (t : Tup) (h : Int) (w : World) (hv : VwIn w v av rv iv) :
    Calls Try.prog 17 #[vwV v av rv iv, tupV t, .int .i64 h] w fun e w' => e = .returned (.bool (oldB v t h)) ∧ Below w.heap.size w w' := by
  obtain ⟨w1, hw1⟩ : ∃ w1, w1 = (w.alloc (.cells (vwCells v av rv iv).toArray 32)).alloc (.cells (tuCells t).toArray 57) := ⟨_, rfl⟩
  have hg1 : Grow w w1 := by subst hw1; exact ((Grow.refl w).alloc _).alloc _
  have hB1 : Blk w1 w.heap.size 32 (vwCells v av rv iv) := by subst hw1; exact (Blk.new w _ _).alloc _
  have hT1 : Blk w1 (w.heap.size + 1) 57 (tuCells t) := by
    have := Blk.new (w.alloc (.cells (vwCells v av rv iv).toArray 32)) 57 (tuCells t)
    have e : (w.alloc (.cells (vwCells v av rv iv).toArray 32)).heap.size = w.heap.size + 1 := by simp
    rw [e] at this
    subst hw1; exact this
  have hd : oldB v t h = (!t.frozen && beforeB v.m t.xmin h && ((statusS v t.xmin : Int) == 2)) := by
    unfold oldB; rw [show (2 : Int) = ((2 : Nat) : Int) from rfl, u8_eq]
  have Hv := keep (hv.fits hg1)
  have HD := keep hd
  clear hd hv
  unfold vwV vwCells tuCells at *
  obtain ⟨c0, c1, c2, c3, c4, c5, c6, c7, c8, c9, c10⟩ := vwres hB1
  obtain ⟨d0, d1, d2, d3, d4⟩ := tures hT1
  unfold tupV
  go_enter Try.func17, Try.ntmps17
  cases hf : t.frozen with
  | true =>
    rw [hf] at HD d2 hw1
    go_wp2_with fail
    go_ret
    rw [HD.out]
    exact ⟨rfl, by rw [← hw1]; exact hg1⟩
  | false =>
    rw [hf] at HD d2 hw1 hT1
    go_wp2_with fail
    rw [← hw1]
    refine (before_any v.m t.xmin h w1).mono ?_
    rintro e w2 ⟨rfl, hb2⟩
    have hg2 := Grow.trans hg1 hb2
    have hB2 := hB1.fits hb2
    have hT2 := hT1.fits hb2
    have hst := status_any v av rv iv t.xmin w2 (Hv.out.fits hb2)
    clear c0 c1 c2 c3 c4 c5 c6 c7 c8 c9 c10 d0 d1 d2 d3 d4 hw1 hB1 hT1 hg1 hb2
    generalize statusS v t.xmin = S at *
    have Hst := keep hst
    unfold vwV at hst
    have Hst := keep hst
    clear hst
    obtain ⟨c0, c1, c2, c3, c4, c5, c6, c7, c8, c9, c10⟩ := vwres hB2
    obtain ⟨d0, d1, d2, d3, d4⟩ := tures hT2
    cases hb : beforeB v.m t.xmin h with
    | false =>
      rw [hb] at HD
      go_wp2_with fail
      go_ret
      rw [HD.out]
      exact ⟨rfl, hg2⟩
    | true =>
      rw [hb] at HD
      go_wp2_with fail
      refine Hst.out.mono ?_
      rintro e w3 ⟨rfl, hb3⟩
      go_wp2_with fail
      go_ret
      rw [HD.out]
      exact ⟨rfl, Grow.trans hg2 hb3⟩

def goneB (v : Vw) (t : Tup) (h : Int) : Bool := (!t.frozen && statusS v t.xmin == 3) || (t.xmax != 0 && beforeB v.m t.xmax h && statusS v t.xmax == 2)

set_option maxRecDepth 100000 in
set_option maxHeartbeats 1000000 in
theorem gone_any (v : Vw) (av rv iv : Value) (t : Tup) (h : Int) (w : World) (hv : VwIn w v av rv iv) :
    Calls Try.prog 16 #[vwV v av rv iv, tupV t, .int .i64 h] w fun e w' => e = .returned (.bool (goneB v t h)) ∧ Below w.heap.size w w' := by
  obtain ⟨w1, hw1⟩ : ∃ w1, w1 = (w.alloc (.cells (vwCells v av rv iv).toArray 32)).alloc (.cells (tuCells t).toArray 57) := ⟨_, rfl⟩
  have hg1 : Grow w w1 := by subst hw1; exact ((Grow.refl w).alloc _).alloc _
  have hB1 : Blk w1 w.heap.size 32 (vwCells v av rv iv) := by subst hw1; exact (Blk.new w _ _).alloc _
  have hT1 : Blk w1 (w.heap.size + 1) 57 (tuCells t) := by
    have := Blk.new (w.alloc (.cells (vwCells v av rv iv).toArray 32)) 57 (tuCells t)
    have e : (w.alloc (.cells (vwCells v av rv iv).toArray 32)).heap.size = w.heap.size + 1 := by simp
    rw [e] at this
    subst hw1; exact this
  have hd : goneB v t h = ((!t.frozen && ((statusS v t.xmin : Int) == 3)) || ((t.xmax : Int) != 0 && beforeB v.m t.xmax h && ((statusS v t.xmax : Int) == 2))) := by
    unfold goneB; rw [i64_ne0, show (2 : Int) = ((2 : Nat) : Int) from rfl, u8_eq, show (3 : Int) = ((3 : Nat) : Int) from rfl, u8_eq]
  have Hv := keep (hv.fits hg1)
  have HD := keep hd
  clear hd hv
  unfold vwV vwCells tuCells at *
  obtain ⟨c0, c1, c2, c3, c4, c5, c6, c7, c8, c9, c10⟩ := vwres hB1
  obtain ⟨d0, d1, d2, d3, d4⟩ := tures hT1
  unfold tupV
  go_enter Try.func16, Try.ntmps16
  have Hv1 := Hv
  cases hf : t.frozen with
  | true =>
    rw [hf] at HD d2 hw1
    cases hx : ((t.xmax : Int) != 0) with
    | false =>
      rw [hx] at HD
      go_wp2_with fail
      go_ret
      rw [HD.out]
      exact ⟨by simp, by rw [← hw1]; exact hg1⟩
    | true =>
      rw [hx] at HD
      go_wp2_with fail
      rw [← hw1]
      refine (before_any v.m t.xmax h w1).mono ?_
      rintro e v2 ⟨rfl, hb2⟩
      have hgB := Grow.trans hg1 hb2
      have hBB := hB1.fits hb2
      have hTB := hT1.fits hb2
      have hst := status_any v av rv iv t.xmax v2 (Hv1.out.fits hb2)
      clear c0 c1 c2 c3 c4 c5 c6 c7 c8 c9 c10 d0 d1 d2 d3 d4
      generalize statusS v t.xmax = S at *
      unfold vwV at hst
      have Hst := keep hst
      clear hst
      obtain ⟨c0, c1, c2, c3, c4, c5, c6, c7, c8, c9, c10⟩ := vwres hBB
      obtain ⟨d0, d1, d2, d3, d4⟩ := tures hTB
      cases hb : beforeB v.m t.xmax h with
      | false =>
        rw [hb] at HD
        go_wp2_with fail
        go_ret
        rw [HD.out]
        exact ⟨by simp, hgB⟩
      | true =>
        rw [hb] at HD
        go_wp2_with fail
        refine Hst.out.mono ?_
        rintro e w3 ⟨rfl, hb3⟩
        go_wp2_with fail
        go_ret
        rw [HD.out]
        exact ⟨by simp, Grow.trans hgB hb3⟩
  | false =>
    rw [hf] at HD d2 hw1 hT1
    have hst := status_any v av rv iv t.xmin w1 Hv.out
    generalize statusS v t.xmin = S1 at *
    unfold vwV at hst
    have Hst := keep hst
    clear hst
    go_wp2_with fail
    rw [← hw1]
    refine Hst.out.mono ?_
    rintro e w2 ⟨rfl, hb2'⟩
    have hg2 := Grow.trans hg1 hb2'
    have hB2 := hB1.fits hb2'
    have hT2 := hT1.fits hb2'
    have Hv2 := keep (Hv.out.fits hb2')
    clear c0 c1 c2 c3 c4 c5 c6 c7 c8 c9 c10 d0 d1 d2 d3 d4 hw1 hB1 hT1 hg1 hb2' Hst
    obtain ⟨c0, c1, c2, c3, c4, c5, c6, c7, c8, c9, c10⟩ := vwres hB2
    obtain ⟨d0, d1, d2, d3, d4⟩ := tures hT2
    cases hs : ((S1 : Int) == 3) with
    | true =>
      rw [hs] at HD
      go_wp2_with fail
      go_ret
      rw [HD.out]
      exact ⟨by simp, hg2⟩
    | false =>
      rw [hs] at HD
      cases hx : ((t.xmax : Int) != 0) with
      | false =>
        rw [hx] at HD
        go_wp2_with fail
        go_ret
        rw [HD.out]
        exact ⟨by simp, hg2⟩
      | true =>
        rw [hx] at HD
        go_wp2_with fail
        refine (before_any v.m t.xmax h w2).mono ?_
        rintro e v2 ⟨rfl, hb2⟩
        have hgB := Grow.trans hg2 hb2
        have hBB := hB2.fits hb2
        have hTB := hT2.fits hb2
        have hst := status_any v av rv iv t.xmax v2 (Hv2.out.fits hb2)
        clear c0 c1 c2 c3 c4 c5 c6 c7 c8 c9 c10 d0 d1 d2 d3 d4
        generalize statusS v t.xmax = S at *
        unfold vwV at hst
        have Hst := keep hst
        clear hst
        obtain ⟨c0, c1, c2, c3, c4, c5, c6, c7, c8, c9, c10⟩ := vwres hBB
        obtain ⟨d0, d1, d2, d3, d4⟩ := tures hTB
        cases hb : beforeB v.m t.xmax h with
        | false =>
          rw [hb] at HD
          go_wp2_with fail
          go_ret
          rw [HD.out]
          exact ⟨by simp, hgB⟩
        | true =>
          rw [hb] at HD
          go_wp2_with fail
          refine Hst.out.mono ?_
          rintro e w3 ⟨rfl, hb3⟩
          go_wp2_with fail
          go_ret
          rw [HD.out]
          exact ⟨by simp, Grow.trans hgB hb3⟩

end Go.Proofs.Ytklpbhajmnogeaa
