/- almonrylaw20.view, whatever its page. -/
import Derived.Test.YtklpbhajmnogeaaView1
namespace Go.Proofs.Ytklpbhajmnogeaa
open Go.RowKit
attribute [local go_sem] gives givesUpon_value givesUpon_skip givesUpon_enter

set_option maxRecDepth 100000 in
set_option maxHeartbeats 1000000 in
theorem view_bad (m fr : Int) (sv : Value) (l : List (Int × Nat)) (v : Vw) (av rv iv : Value) (w_ : World) (hsv : Row w_ 55 sv l.length (saidCells l)) (hv : VwIn w_ v av rv iv) (hok : (blankS m fr).2 ≠ 0) :
    Calls Try.prog 4 #[.agg #[.int .i64 m, .int .i64 fr, sv], vwV v av rv iv] w_ fun e w' => ∃ iv', e = .returned (.tuple #[vwV (viewS m fr l v).1 av rv iv', .bool (viewS m fr l v).2]) ∧ Items w' iv' (viewS m fr l v).1.clog.items ∧ Below w_.heap.size w_ w' := by
  obtain ⟨sa, sc, rfl, hsaid⟩ := said_get hsv
  obtain ⟨iva, ivc, rfl⟩ := items_form hv.items
  obtain ⟨rva, rvc, rfl, _⟩ := ints_form hv.run
  obtain ⟨ava, avc, rfl, _⟩ := ints_form hv.act
  obtain ⟨w0, hw0⟩ : ∃ w0, w0 = ((w_.alloc (.cells #[.int .i64 m, .int .i64 fr, .slice sa l.length sc] 24)).alloc (.cells (vwCells v (.slice ava v.active.length avc) (.slice rva v.running.length rvc) (.slice iva v.clog.items.length ivc)).toArray 32)).alloc (.cells vw0.toArray 32) := ⟨_, rfl⟩
  have hg0 : Grow w_ w0 := by subst hw0; exact (((Grow.refl w_).alloc _).alloc _).alloc _
  have hM0 : Blk w0 w_.heap.size 24 [.int .i64 m, .int .i64 fr, .slice sa l.length sc] := by subst hw0; exact ((Blk.new w_ _ _).alloc _).alloc _
  have hV0 : Blk w0 (w_.heap.size + 1) 32 (vwCells v (.slice ava v.active.length avc) (.slice rva v.running.length rvc) (.slice iva v.clog.items.length ivc)) := by
    have := (Blk.new (w_.alloc (.cells #[.int .i64 m, .int .i64 fr, .slice sa l.length sc] 24)) 32 (vwCells v (.slice ava v.active.length avc) (.slice rva v.running.length rvc) (.slice iva v.clog.items.length ivc))).alloc (.cells vw0.toArray 32)
    have e : (w_.alloc (.cells #[.int .i64 m, .int .i64 fr, .slice sa l.length sc] 24)).heap.size = w_.heap.size + 1 := by simp
    rw [e] at this
    subst hw0; exact this
  have hR0 : Blk w0 (w_.heap.size + 2) 32 vw0 := by
    have := Blk.new ((w_.alloc (.cells #[.int .i64 m, .int .i64 fr, .slice sa l.length sc] 24)).alloc (.cells (vwCells v (.slice ava v.active.length avc) (.slice rva v.running.length rvc) (.slice iva v.clog.items.length ivc)).toArray 32)) 32 vw0
    have e : ((w_.alloc (.cells #[.int .i64 m, .int .i64 fr, .slice sa l.length sc] 24)).alloc (.cells (vwCells v (.slice ava v.active.length avc) (.slice rva v.running.length rvc) (.slice iva v.clog.items.length ivc)).toArray 32)).heap.size = w_.heap.size + 2 := by simp
    rw [e] at this
    subst hw0; exact this
  have HV := keep hv
  have hbk := blank_any m fr w0
  have hVS : viewS m fr l v = (v, false) := by unfold viewS; rw [if_neg hok]
  have hbe : blankS m fr = (noPg, 1) := by
    unfold blankS at *
    split
    · rename_i h; rw [if_pos h] at hok; exact absurd rfl hok
    · rfl
  rw [hbe] at hbk
  have HVS := keep hVS
  have Hbk := keep hbk
  clear hv hsaid hsv hbk hVS hok hbe
  unfold vwCells vw0 at hw0
  unfold vwV
  go_enter Try.func4, Try.ntmps4
  go_wp2_with fail
  rw [← hw0]
  have e2 : w_.heap.size + 1 + 1 = w_.heap.size + 2 := by omega
  rw [e2]
  refine Hbk.out.mono ?_
  rintro e w1 ⟨bv, rfl, hbit, hb1⟩
  obtain ⟨ba, bc, rfl⟩ := items_form hbit.weak
  have hltM : w_.heap.size + 2 < w1.heap.size := by have := hR0.lt; have := hb1.size; omega
  have hg1 := Grow.trans hg0 hb1
  have hV1 := hV0.fits hb1
  have hR1 := hR0.fits hb1
  obtain ⟨w2, hw2⟩ : ∃ w2, w2 = w1.alloc (.cells (pgCells noPg (.slice ba 0 bc)).toArray 30) := ⟨_, rfl⟩
  have hga : Grow w1 w2 := by subst hw2; exact (Grow.refl _).alloc _
  have hg2 := Grow.trans hg1 hga
  have hV2 := hV1.fits hga
  have hR2 := hR1.fits hga
  unfold vwCells at hV2
  unfold vw0 at hR2
  clear hw0 hbit hb1 hga hV1 hR1 hM0 hV0 hR0 hg0 hg1 Hbk
  obtain ⟨c0, c1, c2, c3, c4, c5, c6, c7, c8, c9, c10⟩ := vwres hV2
  obtain ⟨q0, q1, q2, q3, q4, q5, q6, q7, q8, q9, q10⟩ := vwres hR2
  have r0 := hR2.free 0
  have r1 := hR2.free 1
  have r2 := hR2.free 2
  have r3 := hR2.free 3
  have r4 := hR2.free 4
  have r5 := hR2.free 5
  have r6 := hR2.free 6
  have r7 := hR2.free 7
  have r8 := hR2.free 8
  have r9 := hR2.free 9
  have r10 := hR2.free 10
  have hset := vwset hR2 (.int .i64 v.m) (.int .i64 v.next) (.slice ava v.active.length avc) (.int .i64 v.own) (.slice rva v.running.length rvc) (.int .i64 v.clog.lsn) (.int .i64 v.clog.kind) (.int .i64 v.clog.level) (.int .i64 v.clog.right) (.string (str v.clog.high)) (.slice iva v.clog.items.length ivc)
  have hbut := vwbut w2 (w_.heap.size + 2) (.int .i64 v.m) (.int .i64 v.next) (.slice ava v.active.length avc) (.int .i64 v.own) (.slice rva v.running.length rvc) (.int .i64 v.clog.lsn) (.int .i64 v.clog.kind) (.int .i64 v.clog.level) (.int .i64 v.clog.right) (.string (str v.clog.high)) (.slice iva v.clog.items.length ivc)
  have hg3 := But.below hg2 hbut (by omega) (by have := hR2.lt; omega)
  have hi3 := Row.fits HV.out.items hg3
  have HF := keep (And.intro hset (And.intro hi3 hg3))
  clear hset hbut hi3 hg3 hg2 hV2 hR2
  unfold pgCells noPg at hw2
  unfold pgV noPg
  go_upto_region 3 with fail
  rw [← hw2]
  clear hw2
  go_wp2_with fail
  rw [HVS.out]
  refine bodyPost_ret (v := .tuple #[vwV v (.slice ava v.active.length avc) (.slice rva v.running.length rvc) (.slice iva v.clog.items.length ivc), .bool false]) ?_ rfl ⟨_, rfl, HF.out.2.1, HF.out.2.2⟩
  obtain ⟨s0, s1, s2, s3, s4, s5, s6, s7, s8, s9, s10⟩ := vwres HF.out.1
  simp [results, Try.results4, go_sem, s0, s1, s2, s3, s4, s5, s6, s7, s8, s9, s10, vwV]

theorem view_any (m fr : Int) (sv : Value) (l : List (Int × Nat)) (v : Vw) (av rv iv : Value) (w_ : World) (hsv : Row w_ 55 sv l.length (saidCells l)) (hlen : (l.length : Int) ≤ 70368744177664) (hs8 : ∀ x ∈ l, x.2 < 256) (hv : VwIn w_ v av rv iv) :
    Calls Try.prog 4 #[.agg #[.int .i64 m, .int .i64 fr, sv], vwV v av rv iv] w_ fun e w' => ∃ iv', e = .returned (.tuple #[vwV (viewS m fr l v).1 av rv iv', .bool (viewS m fr l v).2]) ∧ Items w' iv' (viewS m fr l v).1.clog.items ∧ Below w_.heap.size w_ w' := by
  by_cases hok : (blankS m fr).2 = 0
  · exact view_ok m fr sv l v av rv iv w_ hsv hlen hs8 hv hok
  · exact view_bad m fr sv l v av rv iv w_ hsv hv hok

end Go.Proofs.Ytklpbhajmnogeaa
