import Derived.Test.YtaninphcgeaepaaGreatKSm1
import Derived.Deep.CutRange
namespace Go.Proofs.YtaninphcgeaepaaGreat
open Go.RowKit
attribute [local go_sem] givesF_none givesF_some evalF_tmp evalF_const evalF_global evalF_func lookL isB_bool isB_undef givesUpon_value givesUpon_skip givesUpon_enter
def SplitPost (A B : Pg) (e : En) (c : Int) (w : World) (x : Ending) (w' : World) : Prop :=
 ∃ av bv, x = .returned (.tuple #[pgV A av, pgV B bv, enV e, .int .i64 c]) ∧ ItemsC w' av A.items ∧ ItemsC w' bv B.items ∧ Below w.heap.size w w'
def splitOk (P : Pg) (r : Int) : Bool := openOk P && (decide (2 ≤ P.items.length) && inB r 1 65535)
structure Put2 (r1 r2 t : Nat) (vs1 vs2 : List Value) (u v : World) : Prop where
 os : v.os = u.os
 tape : v.tape = u.tape
 output : v.output = u.output
 size : u.heap.size ≤ v.heap.size
 block : ∀ k, k < u.heap.size → k ≠ r1 → k ≠ r2 → v.heap[k]? = u.heap[k]?
 six1 : (∃ a0 a1 a2 a3 a4 a5, Blk u r1 t [a0, a1, a2, a3, a4, a5]) → ∃ a0 a1 a2 a3 a4 a5, Blk v r1 t [a0, a1, a2, a3, a4, a5]
 six2 : (∃ a0 a1 a2 a3 a4 a5, Blk u r2 t [a0, a1, a2, a3, a4, a5]) → ∃ a0 a1 a2 a3 a4 a5, Blk v r2 t [a0, a1, a2, a3, a4, a5]
 vs1 : Blk u r1 t vs1 → Blk v r1 t vs1
 vs2 : Blk u r2 t vs2 → Blk v r2 t vs2
theorem Put2.refl {r1 r2 t : Nat} {vs1 vs2 : List Value} (u : World) : Put2 r1 r2 t vs1 vs2 u u := ⟨rfl, rfl, rfl, Nat.le_refl _, fun _ _ _ _ => rfl, id, id, id, id⟩
theorem Put2.trans {r1 r2 t : Nat} {vs1 vs2 : List Value} {u v w : World} (h : Put2 r1 r2 t vs1 vs2 u v) (k : Put2 r1 r2 t vs1 vs2 v w) : Put2 r1 r2 t vs1 vs2 u w :=
 ⟨k.os.trans h.os, k.tape.trans h.tape, k.output.trans h.output, Nat.le_trans h.size k.size, fun i hi h1 h2 => (k.block i (Nat.lt_of_lt_of_le hi h.size) h1 h2).trans (h.block i hi h1 h2), fun x => k.six1 (h.six1 x), fun x => k.six2 (h.six2 x), fun x => k.vs1 (h.vs1 x), fun x => k.vs2 (h.vs2 x)⟩
theorem Put2.undrew {r1 r2 t : Nat} {vs1 vs2 : List Value} {u v : World} (h : Put2 r1 r2 t vs1 vs2 u.drew v) : Put2 r1 r2 t vs1 vs2 u v := ⟨h.os, h.tape, h.output, h.size, h.block, h.six1, h.six2, h.vs1, h.vs2⟩
theorem Put2.blk {r1 r2 t : Nat} {vs1 vs2 : List Value} {u v : World} (h : Put2 r1 r2 t vs1 vs2 u v) {b e : Nat} {cs : List Value} (hb : Blk u b e cs) (h1 : b ≠ r1) (h2 : b ≠ r2) : Blk v b e cs := by
 have := hb.lt; unfold Blk at *; rw [h.block _ this h1 h2]; exact hb
theorem Put2.below {r1 r2 t B : Nat} {vs1 vs2 : List Value} {z u v : World} (h : Put2 r1 r2 t vs1 vs2 u v) (hz : Below B z u) (h1 : B ≤ r1) (h2 : B ≤ r2) (hB : B ≤ u.heap.size) : Below B z v :=
 ⟨h.os.trans hz.os, h.tape.trans hz.tape, h.output.trans hz.output, Nat.le_trans hz.size h.size, fun k hk => (h.block k (by omega) (by omega) (by omega)).trans (hz.block k hk)⟩
theorem Put2.row {r1 r2 t e n : Nat} {vs1 vs2 cs : List Value} {u v : World} {x : Value} (h : Put2 r1 r2 t vs1 vs2 u v) (hr : RowS u e x n cs) (h1 : ∃ cs1, Blk u r1 t cs1) (h2 : ∃ cs2, Blk u r2 t cs2) (he : e ≠ t) : RowS v e x n cs :=
 hr.move fun c blk f hc => by
  obtain ⟨cs1, h1⟩ := h1
  obtain ⟨cs2, h2⟩ := h2
  rw [h.block c (lt_of_block hc) ?_ ?_]
  ·exact hc
  ·rintro rfl
   unfold Blk at h1
   rw [h1] at hc
   simp at hc
   exact he hc.2.1.symm
  ·rintro rfl
   unfold Blk at h2
   rw [h2] at hc
   simp at hc
   exact he hc.2.1.symm
theorem Put2.one1 {r1 r2 t : Nat} {vs1 vs2 : List Value} {u v : World} (k : But r1 u v) (h12 : r1 ≠ r2) (h : Blk v r1 t vs1) (hs : ∃ a0 a1 a2 a3 a4 a5, vs1 = [a0, a1, a2, a3, a4, a5]) : Put2 r1 r2 t vs1 vs2 u v :=
 ⟨k.os, k.tape, k.output, k.size, fun i hi h1 _ => k.block i hi h1, fun _ => by obtain ⟨_, _, _, _, _, _, rfl⟩ := hs; exact ⟨_, _, _, _, _, _, h⟩, fun ⟨_, _, _, _, _, _, h2⟩ => ⟨_, _, _, _, _, _, h2.but k h12.symm⟩, fun _ => h, fun h2 => h2.but k h12.symm⟩
theorem Put2.one2 {r1 r2 t : Nat} {vs1 vs2 : List Value} {u v : World} (k : But r2 u v) (h12 : r1 ≠ r2) (h : Blk v r2 t vs2) (hs : ∃ a0 a1 a2 a3 a4 a5, vs2 = [a0, a1, a2, a3, a4, a5]) : Put2 r1 r2 t vs1 vs2 u v :=
 ⟨k.os, k.tape, k.output, k.size, fun i hi _ h2 => k.block i hi h2, fun ⟨_, _, _, _, _, _, h1⟩ => ⟨_, _, _, _, _, _, h1.but k h12⟩, fun _ => by obtain ⟨_, _, _, _, _, _, rfl⟩ := hs; exact ⟨_, _, _, _, _, _, h⟩, fun h1 => h1.but k h12, fun _ => h⟩
theorem decN_ok {l : List UInt8} (h : (decN l).2 = 0) : enOk (decN l).1 = true := by
 unfold decN at *
 cases hd : decOkN l with
 | false => rw [hd] at h; simp at h
 | true =>
  simp only [if_true]
  unfold decOkN at hd
  rw [Bool.and_eq_true] at hd
  exact hd.2
theorem sub_lo {w : World} {c off cap k : Nat} {l : List (List UInt8)} (h : Items w (.slice (some ⟨c, off, none⟩) l.length cap) l) (hk : k ≤ l.length) : Items w (.slice (some ⟨c, off, none⟩) k cap) (l.take k) := by
 have hl : (l.take k).length = k := by rw [List.length_take]; omega
 rcases h with ⟨h1, h2, a, cap', h3⟩ | ⟨c', off', cap', h1, h3⟩
 ·have : k = 0 := by omega
  subst this
  exact .inl ⟨by simp, by simp [sCells], _, _, rfl⟩
 ·simp only [Value.slice.injEq, Option.some.injEq, Addr.mk.injEq] at h1
  obtain ⟨⟨rfl, rfl, _⟩, _, rfl⟩ := h1
  refine .inr ⟨c, off, cap, by rw [hl], fun j hj => ?_⟩
  rw [sCells_length, hl] at hj
  rw [h3 j (by rw [sCells_length]; omega)]
  simp [sCells]
theorem sub_hi {w : World} {c off cap cap2 k : Nat} {l : List (List UInt8)} (h : Items w (.slice (some ⟨c, off, none⟩) l.length cap) l) (hk : k < l.length) : Items w (.slice (some ⟨c, off + k, none⟩) (l.length - k) cap2) (l.drop k) := by
 have hl : (l.drop k).length = l.length - k := List.length_drop
 rcases h with ⟨h1, h2, a, cap', h3⟩ | ⟨c', off', cap', h1, h3⟩
 ·omega
 ·simp only [Value.slice.injEq, Option.some.injEq, Addr.mk.injEq] at h1
  obtain ⟨⟨rfl, rfl, _⟩, _, rfl⟩ := h1
  refine .inr ⟨c, off + k, cap2, by rw [hl], fun j hj => ?_⟩
  rw [sCells_length, hl] at hj
  rw [Nat.add_assoc, h3 (k + j) (by rw [sCells_length]; omega)]
  simp [sCells]
end Go.Proofs.YtaninphcgeaepaaGreat
namespace Go.Proofs.YtaninphcgeaepaaGreat
open Go.RowKit
attribute [local go_sem] givesF_none givesF_some evalF_tmp evalF_const evalF_global evalF_func lookL isB_bool isB_undef givesUpon_value givesUpon_skip givesUpon_enter
set_option maxRecDepth 100000 in
set_option maxHeartbeats 4000000 in
theorem split_no (P : Pg) (iv : Value) (r : Int) (w_ : World) (hin : PgIn w_ iv P) (hsp : splitOk P r = false) :
  Calls Tryz.prog 23 #[pgV P iv, .int .i64 r] w_ (SplitPost zeroP zeroP leastE 140 w_) := by
 obtain ⟨w0, hw0⟩ : ∃ w0, w0 = ((((w_.alloc (.cells (pgCells P iv).toArray 24)).alloc (.cells #[.int .i64 0, .int .i64 0, .int .i64 0, .int .i64 0, .string ⟨#[]⟩, .slice none 0 0] 24)).alloc (.cells #[.int .i64 0, .int .i64 0, .int .i64 0, .int .i64 0, .string ⟨#[]⟩, .slice none 0 0] 24)).alloc (.cells #[.string ⟨#[]⟩, .int .i64 0, .int .i64 0] 41)) := ⟨_, rfl⟩
 have hg0 : Grow w_ w0 := by subst hw0; exact ((((Grow.refl w_).alloc _).alloc _).alloc _).alloc _
 have hP0 : Blk w0 w_.heap.size 24 (pgCells P iv) := by
  have := (((Blk.new w_ 24 (pgCells P iv)).alloc (.cells #[.int .i64 0, .int .i64 0, .int .i64 0, .int .i64 0, .string ⟨#[]⟩, .slice none 0 0] 24)).alloc (.cells #[.int .i64 0, .int .i64 0, .int .i64 0, .int .i64 0, .string ⟨#[]⟩, .slice none 0 0] 24)).alloc (.cells #[.string ⟨#[]⟩, .int .i64 0, .int .i64 0] 41)
  subst hw0; exact this
 have hA0 : Blk w0 (w_.heap.size + 1) 24 [.int .i64 0, .int .i64 0, .int .i64 0, .int .i64 0, .string ⟨#[]⟩, .slice none 0 0] := by
  have := ((Blk.new (w_.alloc (.cells (pgCells P iv).toArray 24)) 24 [.int .i64 0, .int .i64 0, .int .i64 0, .int .i64 0, .string ⟨#[]⟩, .slice none 0 0]).alloc (.cells #[.int .i64 0, .int .i64 0, .int .i64 0, .int .i64 0, .string ⟨#[]⟩, .slice none 0 0] 24)).alloc (.cells #[.string ⟨#[]⟩, .int .i64 0, .int .i64 0] 41)
  have e : (w_.alloc (.cells (pgCells P iv).toArray 24)).heap.size = w_.heap.size + 1 := by simp
  rw [e] at this
  subst hw0; exact this
 have hB0 : Blk w0 (w_.heap.size + 2) 24 [.int .i64 0, .int .i64 0, .int .i64 0, .int .i64 0, .string ⟨#[]⟩, .slice none 0 0] := by
  have := (Blk.new ((w_.alloc (.cells (pgCells P iv).toArray 24)).alloc (.cells #[.int .i64 0, .int .i64 0, .int .i64 0, .int .i64 0, .string ⟨#[]⟩, .slice none 0 0] 24)) 24 [.int .i64 0, .int .i64 0, .int .i64 0, .int .i64 0, .string ⟨#[]⟩, .slice none 0 0]).alloc (.cells #[.string ⟨#[]⟩, .int .i64 0, .int .i64 0] 41)
  have e : ((w_.alloc (.cells (pgCells P iv).toArray 24)).alloc (.cells #[.int .i64 0, .int .i64 0, .int .i64 0, .int .i64 0, .string ⟨#[]⟩, .slice none 0 0] 24)).heap.size = w_.heap.size + 2 := by simp
  rw [e] at this
  subst hw0; exact this
 have hR0 : Blk w0 (w_.heap.size + 3) 41 [.string ⟨#[]⟩, .int .i64 0, .int .i64 0] := by
  have := Blk.new (((w_.alloc (.cells (pgCells P iv).toArray 24)).alloc (.cells #[.int .i64 0, .int .i64 0, .int .i64 0, .int .i64 0, .string ⟨#[]⟩, .slice none 0 0] 24)).alloc (.cells #[.int .i64 0, .int .i64 0, .int .i64 0, .int .i64 0, .string ⟨#[]⟩, .slice none 0 0] 24)) 41 [.string ⟨#[]⟩, .int .i64 0, .int .i64 0]
  have e : (((w_.alloc (.cells (pgCells P iv).toArray 24)).alloc (.cells #[.int .i64 0, .int .i64 0, .int .i64 0, .int .i64 0, .string ⟨#[]⟩, .slice none 0 0] 24)).alloc (.cells #[.int .i64 0, .int .i64 0, .int .i64 0, .int .i64 0, .string ⟨#[]⟩, .slice none 0 0] 24)).heap.size = w_.heap.size + 3 := by simp
  rw [e] at this
  subst hw0; exact this
 have hzR := hR0.lt
 have hop := opened_pg (hin.fits hg0)
 obtain ⟨ia, ic, rfl⟩ := items_form hin.1
 have hic := fun u => isChild_any r u
 have hd : (openOk P && (decide (2 ≤ P.items.length) && inB r 1 65535)) = false := hsp
 generalize inB r 1 65535 = IB at *
 have HIc := keep hic
 have HOp := keep hop
 have HD := keep hd
 have HIn := keep hin
 have HP0 := keep hP0
 have HA0 := keep hA0
 have HB0 := keep hB0
 have HR0 := keep hR0
 clear hop hin hA0 hB0 hR0 hsp hd hic
 unfold pgCells at hw0 hP0
 obtain ⟨p0, p1, p2, p3, p4, p5, _⟩ := pgres hP0
 unfold pgV
 go_enter Tryz.func23, Tryz.ntmps23
 go_upto_region 1 with fail
 rw [← hw0]
 clear hw0
 go_wp2_with fail
 refine HOp.out.mono ?_
 rintro x w1 ⟨a1, n1, c1, a2, n2, c2, hi, bd, ok, rfl, hok, hyes, hb1⟩
 have hd := HD.out
 rw [← hok] at hd
 have HD2 := keep hd
 clear p0 p1 p2 p3 p4 p5 hP0 hyes hok hd HD
 obtain ⟨w2, hw2⟩ : ∃ w2, w2 = w1.alloc (.cells #[.slice a1 n1 c1, .slice a2 n2 c2, .string (str hi.1), .int .i64 hi.2.1, .int .i64 hi.2.2, .bool bd] 97) := ⟨_, rfl⟩
 have hg2 : Grow w0 w2 := by subst hw2; exact Grow.alloc hb1 _
 have HG2 := keep hg2
 have HGW := keep (Grow.trans hg0 hg2)
 clear hb1 hg2
 go_upto_region 2 with fail
 rw [← hw2]
 clear hw2
 have hP2 := HP0.out.fits HG2.out
 unfold pgCells at hP2
 obtain ⟨p0, p1, p2, p3, p4, p5, _⟩ := pgres hP2
 clear hP2
 cases ok with
 | false =>
  have hA2 := HA0.out.fits HG2.out
  have hB2 := HB0.out.fits HG2.out
  have hR2 := HR0.out.fits HG2.out
  have HsA := keep (pgset hA2 (.int .i64 0) (.int .i64 0) (.int .i64 0) (.int .i64 0) (.string ⟨#[]⟩) (.slice none 0 0))
  have HbA := keep (pgbut w2 (w_.heap.size + 1) (.int .i64 0) (.int .i64 0) (.int .i64 0) (.int .i64 0) (.string ⟨#[]⟩) (.slice none 0 0))
  have hBA := hB2.but HbA.out (by omega)
  have hRA := hR2.but HbA.out (by omega)
  have HsB := keep (pgset hBA (.int .i64 0) (.int .i64 0) (.int .i64 0) (.int .i64 0) (.string ⟨#[]⟩) (.slice none 0 0))
  have HbB := keep (pgbut ((((((w2.setCell ⟨w_.heap.size + 1, 0, none⟩ (.int .i64 0)).setCell ⟨w_.heap.size + 1, 1, none⟩ (.int .i64 0)).setCell ⟨w_.heap.size + 1, 2, none⟩ (.int .i64 0)).setCell ⟨w_.heap.size + 1, 3, none⟩ (.int .i64 0)).setCell ⟨w_.heap.size + 1, 4, none⟩ (.string ⟨#[]⟩)).setCell ⟨w_.heap.size + 1, 5, none⟩ (.slice none 0 0)) (w_.heap.size + 2) (.int .i64 0) (.int .i64 0) (.int .i64 0) (.int .i64 0) (.string ⟨#[]⟩) (.slice none 0 0))
  have hRB := hRA.but HbB.out (by omega)
  have HsR := keep (enset hRB (.string ⟨#[]⟩) (.int .i64 0) (.int .i64 0))
  have HbR := keep (enbut ((((((((((((w2.setCell ⟨w_.heap.size + 1, 0, none⟩ (.int .i64 0)).setCell ⟨w_.heap.size + 1, 1, none⟩ (.int .i64 0)).setCell ⟨w_.heap.size + 1, 2, none⟩ (.int .i64 0)).setCell ⟨w_.heap.size + 1, 3, none⟩ (.int .i64 0)).setCell ⟨w_.heap.size + 1, 4, none⟩ (.string ⟨#[]⟩)).setCell ⟨w_.heap.size + 1, 5, none⟩ (.slice none 0 0)).setCell ⟨w_.heap.size + 2, 0, none⟩ (.int .i64 0)).setCell ⟨w_.heap.size + 2, 1, none⟩ (.int .i64 0)).setCell ⟨w_.heap.size + 2, 2, none⟩ (.int .i64 0)).setCell ⟨w_.heap.size + 2, 3, none⟩ (.int .i64 0)).setCell ⟨w_.heap.size + 2, 4, none⟩ (.string ⟨#[]⟩)).setCell ⟨w_.heap.size + 2, 5, none⟩ (.slice none 0 0)) (w_.heap.size + 3) (.string ⟨#[]⟩) (.int .i64 0) (.int .i64 0))
  have HfA := keep ((HsA.out.but HbB.out (by omega)).but HbR.out (by omega))
  have HfB := keep (HsB.out.but HbR.out (by omega))
  have hlt2 := hR2.lt
  obtain ⟨r0, r1, r2, r3, r4, r5, f0, f1, f2, f3, f4, f5⟩ := pgres hA2
  obtain ⟨s0, s1, s2, s3, s4, s5, g0, g1, g2, g3, g4, g5⟩ := pgres hB2
  obtain ⟨t0, t1, t2, h0, h1, h2⟩ := enres hR2
  clear hA2 hB2 hR2 hBA hRA hRB
  go_wp2_with fail
  have hb1 := But.below HGW.out HbA.out (by omega) (by omega)
  have hb2 := But.below hb1 HbB.out (by omega) hb1.size
  have hb3 := But.below hb2 HbR.out (by omega) hb2.size
  refine bodyPost_ret (v := .tuple #[pgV zeroP (.slice none 0 0), pgV zeroP (.slice none 0 0), enV leastE, .int .i64 140]) ?_ rfl ⟨_, _, rfl, ItemsC.nil _, ItemsC.nil _, hb3⟩
  obtain ⟨x0, x1, x2, _⟩ := enres HsR.out
  obtain ⟨y0, y1, y2, y3, y4, y5, _⟩ := pgres HfA.out
  obtain ⟨z0, z1, z2, z3, z4, z5, _⟩ := pgres HfB.out
  simp [results, Tryz.results23, go_sem, x0, x1, x2, y0, y1, y2, y3, y4, y5, z0, z1, z2, z3, z4, z5, pgV, enV, zeroP, leastE]
  rfl
 | true =>
  by_cases hlen : (P.items.length : Int) < 2
  ·have hA2 := HA0.out.fits HG2.out
   have hB2 := HB0.out.fits HG2.out
   have hR2 := HR0.out.fits HG2.out
   have HsA := keep (pgset hA2 (.int .i64 0) (.int .i64 0) (.int .i64 0) (.int .i64 0) (.string ⟨#[]⟩) (.slice none 0 0))
   have HbA := keep (pgbut w2 (w_.heap.size + 1) (.int .i64 0) (.int .i64 0) (.int .i64 0) (.int .i64 0) (.string ⟨#[]⟩) (.slice none 0 0))
   have hBA := hB2.but HbA.out (by omega)
   have hRA := hR2.but HbA.out (by omega)
   have HsB := keep (pgset hBA (.int .i64 0) (.int .i64 0) (.int .i64 0) (.int .i64 0) (.string ⟨#[]⟩) (.slice none 0 0))
   have HbB := keep (pgbut ((((((w2.setCell ⟨w_.heap.size + 1, 0, none⟩ (.int .i64 0)).setCell ⟨w_.heap.size + 1, 1, none⟩ (.int .i64 0)).setCell ⟨w_.heap.size + 1, 2, none⟩ (.int .i64 0)).setCell ⟨w_.heap.size + 1, 3, none⟩ (.int .i64 0)).setCell ⟨w_.heap.size + 1, 4, none⟩ (.string ⟨#[]⟩)).setCell ⟨w_.heap.size + 1, 5, none⟩ (.slice none 0 0)) (w_.heap.size + 2) (.int .i64 0) (.int .i64 0) (.int .i64 0) (.int .i64 0) (.string ⟨#[]⟩) (.slice none 0 0))
   have hRB := hRA.but HbB.out (by omega)
   have HsR := keep (enset hRB (.string ⟨#[]⟩) (.int .i64 0) (.int .i64 0))
   have HbR := keep (enbut ((((((((((((w2.setCell ⟨w_.heap.size + 1, 0, none⟩ (.int .i64 0)).setCell ⟨w_.heap.size + 1, 1, none⟩ (.int .i64 0)).setCell ⟨w_.heap.size + 1, 2, none⟩ (.int .i64 0)).setCell ⟨w_.heap.size + 1, 3, none⟩ (.int .i64 0)).setCell ⟨w_.heap.size + 1, 4, none⟩ (.string ⟨#[]⟩)).setCell ⟨w_.heap.size + 1, 5, none⟩ (.slice none 0 0)).setCell ⟨w_.heap.size + 2, 0, none⟩ (.int .i64 0)).setCell ⟨w_.heap.size + 2, 1, none⟩ (.int .i64 0)).setCell ⟨w_.heap.size + 2, 2, none⟩ (.int .i64 0)).setCell ⟨w_.heap.size + 2, 3, none⟩ (.int .i64 0)).setCell ⟨w_.heap.size + 2, 4, none⟩ (.string ⟨#[]⟩)).setCell ⟨w_.heap.size + 2, 5, none⟩ (.slice none 0 0)) (w_.heap.size + 3) (.string ⟨#[]⟩) (.int .i64 0) (.int .i64 0))
   have HfA := keep ((HsA.out.but HbB.out (by omega)).but HbR.out (by omega))
   have HfB := keep (HsB.out.but HbR.out (by omega))
   have hlt2 := hR2.lt
   obtain ⟨r0, r1, r2, r3, r4, r5, f0, f1, f2, f3, f4, f5⟩ := pgres hA2
   obtain ⟨s0, s1, s2, s3, s4, s5, g0, g1, g2, g3, g4, g5⟩ := pgres hB2
   obtain ⟨t0, t1, t2, h0, h1, h2⟩ := enres hR2
   clear hA2 hB2 hR2 hBA hRA hRB
   go_wp2_with fail
   have hb1 := But.below HGW.out HbA.out (by omega) (by omega)
   have hb2 := But.below hb1 HbB.out (by omega) hb1.size
   have hb3 := But.below hb2 HbR.out (by omega) hb2.size
   refine bodyPost_ret (v := .tuple #[pgV zeroP (.slice none 0 0), pgV zeroP (.slice none 0 0), enV leastE, .int .i64 140]) ?_ rfl ⟨_, _, rfl, ItemsC.nil _, ItemsC.nil _, hb3⟩
   obtain ⟨x0, x1, x2, _⟩ := enres HsR.out
   obtain ⟨y0, y1, y2, y3, y4, y5, _⟩ := pgres HfA.out
   obtain ⟨z0, z1, z2, z3, z4, z5, _⟩ := pgres HfB.out
   simp [results, Tryz.results23, go_sem, x0, x1, x2, y0, y1, y2, y3, y4, y5, z0, z1, z2, z3, z4, z5, pgV, enV, zeroP, leastE]
   rfl
  ·have hib : IB = false := by
    have := HD2.out
    rw [Bool.true_and, decide_eq_true (show 2 ≤ P.items.length by omega), Bool.true_and] at this
    exact this
   subst hib
   have hA2 := HA0.out.fits HG2.out
   have hB2 := HB0.out.fits HG2.out
   have hR2 := HR0.out.fits HG2.out
   have HsA := keep (pgset hA2 (.int .i64 0) (.int .i64 0) (.int .i64 0) (.int .i64 0) (.string ⟨#[]⟩) (.slice none 0 0))
   have HbA := keep (pgbut w2 (w_.heap.size + 1) (.int .i64 0) (.int .i64 0) (.int .i64 0) (.int .i64 0) (.string ⟨#[]⟩) (.slice none 0 0))
   have hBA := hB2.but HbA.out (by omega)
   have hRA := hR2.but HbA.out (by omega)
   have HsB := keep (pgset hBA (.int .i64 0) (.int .i64 0) (.int .i64 0) (.int .i64 0) (.string ⟨#[]⟩) (.slice none 0 0))
   have HbB := keep (pgbut ((((((w2.setCell ⟨w_.heap.size + 1, 0, none⟩ (.int .i64 0)).setCell ⟨w_.heap.size + 1, 1, none⟩ (.int .i64 0)).setCell ⟨w_.heap.size + 1, 2, none⟩ (.int .i64 0)).setCell ⟨w_.heap.size + 1, 3, none⟩ (.int .i64 0)).setCell ⟨w_.heap.size + 1, 4, none⟩ (.string ⟨#[]⟩)).setCell ⟨w_.heap.size + 1, 5, none⟩ (.slice none 0 0)) (w_.heap.size + 2) (.int .i64 0) (.int .i64 0) (.int .i64 0) (.int .i64 0) (.string ⟨#[]⟩) (.slice none 0 0))
   have hRB := hRA.but HbB.out (by omega)
   have HsR := keep (enset hRB (.string ⟨#[]⟩) (.int .i64 0) (.int .i64 0))
   have HbR := keep (enbut ((((((((((((w2.setCell ⟨w_.heap.size + 1, 0, none⟩ (.int .i64 0)).setCell ⟨w_.heap.size + 1, 1, none⟩ (.int .i64 0)).setCell ⟨w_.heap.size + 1, 2, none⟩ (.int .i64 0)).setCell ⟨w_.heap.size + 1, 3, none⟩ (.int .i64 0)).setCell ⟨w_.heap.size + 1, 4, none⟩ (.string ⟨#[]⟩)).setCell ⟨w_.heap.size + 1, 5, none⟩ (.slice none 0 0)).setCell ⟨w_.heap.size + 2, 0, none⟩ (.int .i64 0)).setCell ⟨w_.heap.size + 2, 1, none⟩ (.int .i64 0)).setCell ⟨w_.heap.size + 2, 2, none⟩ (.int .i64 0)).setCell ⟨w_.heap.size + 2, 3, none⟩ (.int .i64 0)).setCell ⟨w_.heap.size + 2, 4, none⟩ (.string ⟨#[]⟩)).setCell ⟨w_.heap.size + 2, 5, none⟩ (.slice none 0 0)) (w_.heap.size + 3) (.string ⟨#[]⟩) (.int .i64 0) (.int .i64 0))
   have HfA := keep ((HsA.out.but HbB.out (by omega)).but HbR.out (by omega))
   have HfB := keep (HsB.out.but HbR.out (by omega))
   have hlt2 := hR2.lt
   obtain ⟨r0, r1, r2, r3, r4, r5, f0, f1, f2, f3, f4, f5⟩ := pgres hA2
   obtain ⟨s0, s1, s2, s3, s4, s5, g0, g1, g2, g3, g4, g5⟩ := pgres hB2
   obtain ⟨t0, t1, t2, h0, h1, h2⟩ := enres hR2
   clear hA2 hB2 hR2 hBA hRA hRB
   go_wp2_with fail
   refine (HIc.out w2).mono ?_
   rintro x w3 ⟨rfl, rfl⟩
   go_wp2_with fail
   have hb1 := But.below HGW.out HbA.out (by omega) (by omega)
   have hb2 := But.below hb1 HbB.out (by omega) hb1.size
   have hb3 := But.below hb2 HbR.out (by omega) hb2.size
   refine bodyPost_ret (v := .tuple #[pgV zeroP (.slice none 0 0), pgV zeroP (.slice none 0 0), enV leastE, .int .i64 140]) ?_ rfl ⟨_, _, rfl, ItemsC.nil _, ItemsC.nil _, hb3⟩
   obtain ⟨x0, x1, x2, _⟩ := enres HsR.out
   obtain ⟨y0, y1, y2, y3, y4, y5, _⟩ := pgres HfA.out
   obtain ⟨z0, z1, z2, z3, z4, z5, _⟩ := pgres HfB.out
   simp [results, Tryz.results23, go_sem, x0, x1, x2, y0, y1, y2, y3, y4, y5, z0, z1, z2, z3, z4, z5, pgV, enV, zeroP, leastE]
   rfl
end Go.Proofs.YtaninphcgeaepaaGreat
