import Derived.Test.YtigbgodbalpgdaaKSp1
import Derived.Deep.CutRange
/- node.Split: of what is not split. -/
namespace Go.Proofs.Ytigbgodbalpgdaa
open Go.RowKit
attribute [local go_sem] givesF_none givesF_some evalF_tmp evalF_const evalF_global evalF_func lookL isB_bool isB_undef givesUpon_value givesUpon_skip givesUpon_enter

set_option maxRecDepth 100000 in
set_option maxHeartbeats 4000000 in
theorem split_no (P : Pg) (iv : Value) (r : Int) (w_ : World) (hin : PgIn w_ iv P) (hsp : splitOk P r = false) :
    Calls Try.prog 22 #[pgV P iv, .int .i64 r] w_ (SplitPost zeroP zeroP leastE 140 w_) := by
  obtain ⟨w0, hw0⟩ : ∃ w0, w0 = ((((w_.alloc (.cells (pgCells P iv).toArray 39)).alloc (.cells #[.int .i64 0, .int .i64 0, .int .i64 0, .int .i64 0, .string ⟨#[]⟩, .slice none 0 0] 39)).alloc (.cells #[.int .i64 0, .int .i64 0, .int .i64 0, .int .i64 0, .string ⟨#[]⟩, .slice none 0 0] 39)).alloc (.cells #[.string ⟨#[]⟩, .int .i64 0, .int .i64 0] 23)) := ⟨_, rfl⟩
  have hg0 : Grow w_ w0 := by subst hw0; exact ((((Grow.refl w_).alloc _).alloc _).alloc _).alloc _
  have hP0 : Blk w0 w_.heap.size 39 (pgCells P iv) := by
    have := (((Blk.new w_ 39 (pgCells P iv)).alloc (.cells #[.int .i64 0, .int .i64 0, .int .i64 0, .int .i64 0, .string ⟨#[]⟩, .slice none 0 0] 39)).alloc (.cells #[.int .i64 0, .int .i64 0, .int .i64 0, .int .i64 0, .string ⟨#[]⟩, .slice none 0 0] 39)).alloc (.cells #[.string ⟨#[]⟩, .int .i64 0, .int .i64 0] 23)
    subst hw0; exact this
  have hA0 : Blk w0 (w_.heap.size + 1) 39 [.int .i64 0, .int .i64 0, .int .i64 0, .int .i64 0, .string ⟨#[]⟩, .slice none 0 0] := by
    have := ((Blk.new (w_.alloc (.cells (pgCells P iv).toArray 39)) 39 [.int .i64 0, .int .i64 0, .int .i64 0, .int .i64 0, .string ⟨#[]⟩, .slice none 0 0]).alloc (.cells #[.int .i64 0, .int .i64 0, .int .i64 0, .int .i64 0, .string ⟨#[]⟩, .slice none 0 0] 39)).alloc (.cells #[.string ⟨#[]⟩, .int .i64 0, .int .i64 0] 23)
    have e : (w_.alloc (.cells (pgCells P iv).toArray 39)).heap.size = w_.heap.size + 1 := by simp
    rw [e] at this
    subst hw0; exact this
  have hB0 : Blk w0 (w_.heap.size + 2) 39 [.int .i64 0, .int .i64 0, .int .i64 0, .int .i64 0, .string ⟨#[]⟩, .slice none 0 0] := by
    have := (Blk.new ((w_.alloc (.cells (pgCells P iv).toArray 39)).alloc (.cells #[.int .i64 0, .int .i64 0, .int .i64 0, .int .i64 0, .string ⟨#[]⟩, .slice none 0 0] 39)) 39 [.int .i64 0, .int .i64 0, .int .i64 0, .int .i64 0, .string ⟨#[]⟩, .slice none 0 0]).alloc (.cells #[.string ⟨#[]⟩, .int .i64 0, .int .i64 0] 23)
    have e : ((w_.alloc (.cells (pgCells P iv).toArray 39)).alloc (.cells #[.int .i64 0, .int .i64 0, .int .i64 0, .int .i64 0, .string ⟨#[]⟩, .slice none 0 0] 39)).heap.size = w_.heap.size + 2 := by simp
    rw [e] at this
    subst hw0; exact this
  have hR0 : Blk w0 (w_.heap.size + 3) 23 [.string ⟨#[]⟩, .int .i64 0, .int .i64 0] := by
    have := Blk.new (((w_.alloc (.cells (pgCells P iv).toArray 39)).alloc (.cells #[.int .i64 0, .int .i64 0, .int .i64 0, .int .i64 0, .string ⟨#[]⟩, .slice none 0 0] 39)).alloc (.cells #[.int .i64 0, .int .i64 0, .int .i64 0, .int .i64 0, .string ⟨#[]⟩, .slice none 0 0] 39)) 23 [.string ⟨#[]⟩, .int .i64 0, .int .i64 0]
    have e : (((w_.alloc (.cells (pgCells P iv).toArray 39)).alloc (.cells #[.int .i64 0, .int .i64 0, .int .i64 0, .int .i64 0, .string ⟨#[]⟩, .slice none 0 0] 39)).alloc (.cells #[.int .i64 0, .int .i64 0, .int .i64 0, .int .i64 0, .string ⟨#[]⟩, .slice none 0 0] 39)).heap.size = w_.heap.size + 3 := by simp
    rw [e] at this
    subst hw0; exact this
  have hzR := hR0.lt
  have hop := opened_pg (hin.fits hg0)
  obtain ⟨ia, ic, rfl⟩ := items_form hin.1
  have hic := fun u => isChild_any r u
  have hd : (openOk P && (decide (2 ≤ P.items.length) && inB r 1 65535)) = false := hsp
  generalize inB r 1 65535 = IB at *
  have HIc := keep hic
  have HOp := keep hop
  have HD := keep hd
  have HIn := keep hin
  have HP0 := keep hP0
  have HA0 := keep hA0
  have HB0 := keep hB0
  have HR0 := keep hR0
  clear hop hin hA0 hB0 hR0 hsp hd hic
  unfold pgCells at hw0 hP0
  obtain ⟨p0, p1, p2, p3, p4, p5, _⟩ := pgres hP0
  unfold pgV
  go_enter Try.func22, Try.ntmps22
  go_upto_region 1 with fail
  rw [← hw0]
  clear hw0
  go_wp2_with fail
  refine HOp.out.mono ?_
  rintro x w1 ⟨a1, n1, c1, a2, n2, c2, hi, bd, ok, rfl, hok, hyes, hb1⟩
  have hd := HD.out
  rw [← hok] at hd
  have HD2 := keep hd
  clear p0 p1 p2 p3 p4 p5 hP0 hyes hok hd HD
  obtain ⟨w2, hw2⟩ : ∃ w2, w2 = w1.alloc (.cells #[.slice a1 n1 c1, .slice a2 n2 c2, .string (str hi.1), .int .i64 hi.2.1, .int .i64 hi.2.2, .bool bd] 81) := ⟨_, rfl⟩
  have hg2 : Grow w0 w2 := by subst hw2; exact Grow.alloc hb1 _
  have HG2 := keep hg2
  have HGW := keep (Grow.trans hg0 hg2)
  clear hb1 hg2
  go_upto_region 2 with fail
  rw [← hw2]
  clear hw2
  have hP2 := HP0.out.fits HG2.out
  unfold pgCells at hP2
  obtain ⟨p0, p1, p2, p3, p4, p5, _⟩ := pgres hP2
  clear hP2
  cases ok with
  | false =>
    have hA2 := HA0.out.fits HG2.out
    have hB2 := HB0.out.fits HG2.out
    have hR2 := HR0.out.fits HG2.out
    have HsA := keep (pgset hA2 (.int .i64 0) (.int .i64 0) (.int .i64 0) (.int .i64 0) (.string ⟨#[]⟩) (.slice none 0 0))
    have HbA := keep (pgbut w2 (w_.heap.size + 1) (.int .i64 0) (.int .i64 0) (.int .i64 0) (.int .i64 0) (.string ⟨#[]⟩) (.slice none 0 0))
    have hBA := hB2.but HbA.out (by omega)
    have hRA := hR2.but HbA.out (by omega)
    have HsB := keep (pgset hBA (.int .i64 0) (.int .i64 0) (.int .i64 0) (.int .i64 0) (.string ⟨#[]⟩) (.slice none 0 0))
    have HbB := keep (pgbut ((((((w2.setCell ⟨w_.heap.size + 1, 0, none⟩ (.int .i64 0)).setCell ⟨w_.heap.size + 1, 1, none⟩ (.int .i64 0)).setCell ⟨w_.heap.size + 1, 2, none⟩ (.int .i64 0)).setCell ⟨w_.heap.size + 1, 3, none⟩ (.int .i64 0)).setCell ⟨w_.heap.size + 1, 4, none⟩ (.string ⟨#[]⟩)).setCell ⟨w_.heap.size + 1, 5, none⟩ (.slice none 0 0)) (w_.heap.size + 2) (.int .i64 0) (.int .i64 0) (.int .i64 0) (.int .i64 0) (.string ⟨#[]⟩) (.slice none 0 0))
    have hRB := hRA.but HbB.out (by omega)
    have HsR := keep (enset hRB (.string ⟨#[]⟩) (.int .i64 0) (.int .i64 0))
    have HbR := keep (enbut ((((((((((((w2.setCell ⟨w_.heap.size + 1, 0, none⟩ (.int .i64 0)).setCell ⟨w_.heap.size + 1, 1, none⟩ (.int .i64 0)).setCell ⟨w_.heap.size + 1, 2, none⟩ (.int .i64 0)).setCell ⟨w_.heap.size + 1, 3, none⟩ (.int .i64 0)).setCell ⟨w_.heap.size + 1, 4, none⟩ (.string ⟨#[]⟩)).setCell ⟨w_.heap.size + 1, 5, none⟩ (.slice none 0 0)).setCell ⟨w_.heap.size + 2, 0, none⟩ (.int .i64 0)).setCell ⟨w_.heap.size + 2, 1, none⟩ (.int .i64 0)).setCell ⟨w_.heap.size + 2, 2, none⟩ (.int .i64 0)).setCell ⟨w_.heap.size + 2, 3, none⟩ (.int .i64 0)).setCell ⟨w_.heap.size + 2, 4, none⟩ (.string ⟨#[]⟩)).setCell ⟨w_.heap.size + 2, 5, none⟩ (.slice none 0 0)) (w_.heap.size + 3) (.string ⟨#[]⟩) (.int .i64 0) (.int .i64 0))
    have HfA := keep ((HsA.out.but HbB.out (by omega)).but HbR.out (by omega))
    have HfB := keep (HsB.out.but HbR.out (by omega))
    have hlt2 := hR2.lt
    obtain ⟨r0, r1, r2, r3, r4, r5, f0, f1, f2, f3, f4, f5⟩ := pgres hA2
    obtain ⟨s0, s1, s2, s3, s4, s5, g0, g1, g2, g3, g4, g5⟩ := pgres hB2
    obtain ⟨t0, t1, t2, h0, h1, h2⟩ := enres hR2
    clear hA2 hB2 hR2 hBA hRA hRB
    go_wp2_with fail
    have hb1 := But.below HGW.out HbA.out (by omega) (by omega)
    have hb2 := But.below hb1 HbB.out (by omega) hb1.size
    have hb3 := But.below hb2 HbR.out (by omega) hb2.size
    refine bodyPost_ret (v := .tuple #[pgV zeroP (.slice none 0 0), pgV zeroP (.slice none 0 0), enV leastE, .int .i64 140]) ?_ rfl ⟨_, _, rfl, ItemsC.nil _, ItemsC.nil _, hb3⟩
    obtain ⟨x0, x1, x2, _⟩ := enres HsR.out
    obtain ⟨y0, y1, y2, y3, y4, y5, _⟩ := pgres HfA.out
    obtain ⟨z0, z1, z2, z3, z4, z5, _⟩ := pgres HfB.out
    simp [results, Try.results22, go_sem, x0, x1, x2, y0, y1, y2, y3, y4, y5, z0, z1, z2, z3, z4, z5, pgV, enV, zeroP, leastE]
    rfl
  | true =>
    by_cases hlen : (P.items.length : Int) < 2
    · have hA2 := HA0.out.fits HG2.out
      have hB2 := HB0.out.fits HG2.out
      have hR2 := HR0.out.fits HG2.out
      have HsA := keep (pgset hA2 (.int .i64 0) (.int .i64 0) (.int .i64 0) (.int .i64 0) (.string ⟨#[]⟩) (.slice none 0 0))
      have HbA := keep (pgbut w2 (w_.heap.size + 1) (.int .i64 0) (.int .i64 0) (.int .i64 0) (.int .i64 0) (.string ⟨#[]⟩) (.slice none 0 0))
      have hBA := hB2.but HbA.out (by omega)
      have hRA := hR2.but HbA.out (by omega)
      have HsB := keep (pgset hBA (.int .i64 0) (.int .i64 0) (.int .i64 0) (.int .i64 0) (.string ⟨#[]⟩) (.slice none 0 0))
      have HbB := keep (pgbut ((((((w2.setCell ⟨w_.heap.size + 1, 0, none⟩ (.int .i64 0)).setCell ⟨w_.heap.size + 1, 1, none⟩ (.int .i64 0)).setCell ⟨w_.heap.size + 1, 2, none⟩ (.int .i64 0)).setCell ⟨w_.heap.size + 1, 3, none⟩ (.int .i64 0)).setCell ⟨w_.heap.size + 1, 4, none⟩ (.string ⟨#[]⟩)).setCell ⟨w_.heap.size + 1, 5, none⟩ (.slice none 0 0)) (w_.heap.size + 2) (.int .i64 0) (.int .i64 0) (.int .i64 0) (.int .i64 0) (.string ⟨#[]⟩) (.slice none 0 0))
      have hRB := hRA.but HbB.out (by omega)
      have HsR := keep (enset hRB (.string ⟨#[]⟩) (.int .i64 0) (.int .i64 0))
      have HbR := keep (enbut ((((((((((((w2.setCell ⟨w_.heap.size + 1, 0, none⟩ (.int .i64 0)).setCell ⟨w_.heap.size + 1, 1, none⟩ (.int .i64 0)).setCell ⟨w_.heap.size + 1, 2, none⟩ (.int .i64 0)).setCell ⟨w_.heap.size + 1, 3, none⟩ (.int .i64 0)).setCell ⟨w_.heap.size + 1, 4, none⟩ (.string ⟨#[]⟩)).setCell ⟨w_.heap.size + 1, 5, none⟩ (.slice none 0 0)).setCell ⟨w_.heap.size + 2, 0, none⟩ (.int .i64 0)).setCell ⟨w_.heap.size + 2, 1, none⟩ (.int .i64 0)).setCell ⟨w_.heap.size + 2, 2, none⟩ (.int .i64 0)).setCell ⟨w_.heap.size + 2, 3, none⟩ (.int .i64 0)).setCell ⟨w_.heap.size + 2, 4, none⟩ (.string ⟨#[]⟩)).setCell ⟨w_.heap.size + 2, 5, none⟩ (.slice none 0 0)) (w_.heap.size + 3) (.string ⟨#[]⟩) (.int .i64 0) (.int .i64 0))
      have HfA := keep ((HsA.out.but HbB.out (by omega)).but HbR.out (by omega))
      have HfB := keep (HsB.out.but HbR.out (by omega))
      have hlt2 := hR2.lt
      obtain ⟨r0, r1, r2, r3, r4, r5, f0, f1, f2, f3, f4, f5⟩ := pgres hA2
      obtain ⟨s0, s1, s2, s3, s4, s5, g0, g1, g2, g3, g4, g5⟩ := pgres hB2
      obtain ⟨t0, t1, t2, h0, h1, h2⟩ := enres hR2
      clear hA2 hB2 hR2 hBA hRA hRB
      go_wp2_with fail
      have hb1 := But.below HGW.out HbA.out (by omega) (by omega)
      have hb2 := But.below hb1 HbB.out (by omega) hb1.size
      have hb3 := But.below hb2 HbR.out (by omega) hb2.size
      refine bodyPost_ret (v := .tuple #[pgV zeroP (.slice none 0 0), pgV zeroP (.slice none 0 0), enV leastE, .int .i64 140]) ?_ rfl ⟨_, _, rfl, ItemsC.nil _, ItemsC.nil _, hb3⟩
      obtain ⟨x0, x1, x2, _⟩ := enres HsR.out
      obtain ⟨y0, y1, y2, y3, y4, y5, _⟩ := pgres HfA.out
      obtain ⟨z0, z1, z2, z3, z4, z5, _⟩ := pgres HfB.out
      simp [results, Try.results22, go_sem, x0, x1, x2, y0, y1, y2, y3, y4, y5, z0, z1, z2, z3, z4, z5, pgV, enV, zeroP, leastE]
      rfl
    · have hib : IB = false := by
        have := HD2.out
        rw [Bool.true_and, decide_eq_true (show 2 ≤ P.items.length by omega), Bool.true_and] at this
        exact this
      subst hib
      have hA2 := HA0.out.fits HG2.out
      have hB2 := HB0.out.fits HG2.out
      have hR2 := HR0.out.fits HG2.out
      have HsA := keep (pgset hA2 (.int .i64 0) (.int .i64 0) (.int .i64 0) (.int .i64 0) (.string ⟨#[]⟩) (.slice none 0 0))
      have HbA := keep (pgbut w2 (w_.heap.size + 1) (.int .i64 0) (.int .i64 0) (.int .i64 0) (.int .i64 0) (.string ⟨#[]⟩) (.slice none 0 0))
      have hBA := hB2.but HbA.out (by omega)
      have hRA := hR2.but HbA.out (by omega)
      have HsB := keep (pgset hBA (.int .i64 0) (.int .i64 0) (.int .i64 0) (.int .i64 0) (.string ⟨#[]⟩) (.slice none 0 0))
      have HbB := keep (pgbut ((((((w2.setCell ⟨w_.heap.size + 1, 0, none⟩ (.int .i64 0)).setCell ⟨w_.heap.size + 1, 1, none⟩ (.int .i64 0)).setCell ⟨w_.heap.size + 1, 2, none⟩ (.int .i64 0)).setCell ⟨w_.heap.size + 1, 3, none⟩ (.int .i64 0)).setCell ⟨w_.heap.size + 1, 4, none⟩ (.string ⟨#[]⟩)).setCell ⟨w_.heap.size + 1, 5, none⟩ (.slice none 0 0)) (w_.heap.size + 2) (.int .i64 0) (.int .i64 0) (.int .i64 0) (.int .i64 0) (.string ⟨#[]⟩) (.slice none 0 0))
      have hRB := hRA.but HbB.out (by omega)
      have HsR := keep (enset hRB (.string ⟨#[]⟩) (.int .i64 0) (.int .i64 0))
      have HbR := keep (enbut ((((((((((((w2.setCell ⟨w_.heap.size + 1, 0, none⟩ (.int .i64 0)).setCell ⟨w_.heap.size + 1, 1, none⟩ (.int .i64 0)).setCell ⟨w_.heap.size + 1, 2, none⟩ (.int .i64 0)).setCell ⟨w_.heap.size + 1, 3, none⟩ (.int .i64 0)).setCell ⟨w_.heap.size + 1, 4, none⟩ (.string ⟨#[]⟩)).setCell ⟨w_.heap.size + 1, 5, none⟩ (.slice none 0 0)).setCell ⟨w_.heap.size + 2, 0, none⟩ (.int .i64 0)).setCell ⟨w_.heap.size + 2, 1, none⟩ (.int .i64 0)).setCell ⟨w_.heap.size + 2, 2, none⟩ (.int .i64 0)).setCell ⟨w_.heap.size + 2, 3, none⟩ (.int .i64 0)).setCell ⟨w_.heap.size + 2, 4, none⟩ (.string ⟨#[]⟩)).setCell ⟨w_.heap.size + 2, 5, none⟩ (.slice none 0 0)) (w_.heap.size + 3) (.string ⟨#[]⟩) (.int .i64 0) (.int .i64 0))
      have HfA := keep ((HsA.out.but HbB.out (by omega)).but HbR.out (by omega))
      have HfB := keep (HsB.out.but HbR.out (by omega))
      have hlt2 := hR2.lt
      obtain ⟨r0, r1, r2, r3, r4, r5, f0, f1, f2, f3, f4, f5⟩ := pgres hA2
      obtain ⟨s0, s1, s2, s3, s4, s5, g0, g1, g2, g3, g4, g5⟩ := pgres hB2
      obtain ⟨t0, t1, t2, h0, h1, h2⟩ := enres hR2
      clear hA2 hB2 hR2 hBA hRA hRB
      go_wp2_with fail
      refine (HIc.out w2).mono ?_
      rintro x w3 ⟨rfl, rfl⟩
      go_wp2_with fail
      have hb1 := But.below HGW.out HbA.out (by omega) (by omega)
      have hb2 := But.below hb1 HbB.out (by omega) hb1.size
      have hb3 := But.below hb2 HbR.out (by omega) hb2.size
      refine bodyPost_ret (v := .tuple #[pgV zeroP (.slice none 0 0), pgV zeroP (.slice none 0 0), enV leastE, .int .i64 140]) ?_ rfl ⟨_, _, rfl, ItemsC.nil _, ItemsC.nil _, hb3⟩
      obtain ⟨x0, x1, x2, _⟩ := enres HsR.out
      obtain ⟨y0, y1, y2, y3, y4, y5, _⟩ := pgres HfA.out
      obtain ⟨z0, z1, z2, z3, z4, z5, _⟩ := pgres HfB.out
      simp [results, Try.results22, go_sem, x0, x1, x2, y0, y1, y2, y3, y4, y5, z0, z1, z2, z3, z4, z5, pgV, enV, zeroP, leastE]
      rfl


end Go.Proofs.Ytigbgodbalpgdaa
