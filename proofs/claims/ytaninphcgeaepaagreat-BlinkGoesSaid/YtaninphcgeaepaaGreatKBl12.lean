import Derived.Test.YtaninphcgeaepaaGreatKBl11
import Derived.Test.YtaninphcgeaepaaGreatKBl7
import Derived.Test.YtaninphcgeaepaaGreatKBl4
import Derived.Deep.CutRange
/- almonrylaw15.BlinkGoes answers true, for every page, entry, keys and level. -/
namespace Go.Proofs.YtaninphcgeaepaaGreat
open Go.RowKit
attribute [local go_sem] givesF_none givesF_some evalF_tmp evalF_const evalF_global evalF_func lookL isB_bool isB_undef givesUpon_value givesUpon_skip givesUpon_enter

theorem leaveV_form (n : Int) (x : Option (List UInt8)) : ∃ k p d, leaveV n x = recV k p d := by
  cases x with
  | none => exact ⟨_, _, _, rfl⟩
  | some d => exact ⟨_, _, _, rfl⟩
theorem hits_len (P : Pg) (fr tt : List UInt8) : (hitsL P fr tt).length ≤ 255 := Nat.le_trans (List.length_filter_le _ _) (entL_len P)
theorem pek_new (P : Pg) (ia : Option Addr) (ic : Nat) (k : List UInt8) (p s : Int) (fr tt : List UInt8) (lv : Int) (w_ w0 : World) (h : w0 = ((w_.alloc (.cells (pgCells P (.slice ia P.items.length ic)).toArray 24)).alloc (.cells #[.string (str k), .int .i64 p, .int .i64 s] 41)).alloc (.cells #[.string (str fr), .string (str tt), .int .i64 lv] 48)) :
    Grow w_ w0 ∧ Blk w0 w_.heap.size 24 (pgCells P (.slice ia P.items.length ic)) ∧ Blk w0 (w_.heap.size + 1) 41 [.string (str k), .int .i64 p, .int .i64 s] ∧ Blk w0 (w_.heap.size + 2) 48 [.string (str fr), .string (str tt), .int .i64 lv] := by
  refine ⟨?_, ?_, ?_, ?_⟩
  · subst h; exact (((Grow.refl w_).alloc _).alloc _).alloc _
  · have := ((Blk.new w_ 24 (pgCells P (.slice ia P.items.length ic))).alloc (.cells #[.string (str k), .int .i64 p, .int .i64 s] 41)).alloc (.cells #[.string (str fr), .string (str tt), .int .i64 lv] 48)
    subst h; exact this
  · have := (Blk.new (w_.alloc (.cells (pgCells P (.slice ia P.items.length ic)).toArray 24)) 41 [.string (str k), .int .i64 p, .int .i64 s]).alloc (.cells #[.string (str fr), .string (str tt), .int .i64 lv] 48)
    have e : (w_.alloc (.cells (pgCells P (.slice ia P.items.length ic)).toArray 24)).heap.size = w_.heap.size + 1 := by simp
    rw [e] at this
    subst h; exact this
  · have := Blk.new ((w_.alloc (.cells (pgCells P (.slice ia P.items.length ic)).toArray 24)).alloc (.cells #[.string (str k), .int .i64 p, .int .i64 s] 41)) 48 [.string (str fr), .string (str tt), .int .i64 lv]
    have e : ((w_.alloc (.cells (pgCells P (.slice ia P.items.length ic)).toArray 24)).alloc (.cells #[.string (str k), .int .i64 p, .int .i64 s] 41)).heap.size = w_.heap.size + 2 := by simp
    rw [e] at this
    subst h; exact this
set_option maxRecDepth 100000 in
set_option maxHeartbeats 4000000 in
theorem goes_any (P : Pg) (iv : Value) (e : En) (fr tt : List UInt8) (lv : Int) (w_ : World) (hin : PgIn w_ iv P) :
    Calls Tryz.prog 4 #[pgV P iv, enV e, .agg #[.string (str fr), .string (str tt), .int .i64 lv]] w_ fun x w' => x = .returned (.bool true) ∧ Below w_.heap.size w_ w' := by
  obtain ⟨ia, ic, rfl⟩ := items_form hin.1
  have h1 := fun (u : World) (hu : Grow w_ u) => way_any P _ lv e u (hin.fits hu)
  have h2 := fun (u : World) (hu : Grow w_ u) => rway_any P _ lv e u (hin.fits hu)
  have h3 := fun (u : World) (hu : Grow w_ u) => leave_any P _ 7 e u (hin.fits hu)
  have h4 := fun (u : World) (hu : Grow w_ u) => rleave_any P _ 7 e u (hin.fits hu)
  have h5 := fun (u : World) (hu : Grow w_ u) => hits_any P _ fr tt u (hin.fits hu)
  have h6 := fun (u : World) (hu : Grow w_ u) => rhits_any P _ fr tt u (hin.fits hu)
  have hl := hits_len P fr tt
  obtain ⟨rk, rp, rd, hrv⟩ := leaveV_form 7 (leaveN P e).1
  unfold WayPost at h1 h2
  unfold LeavePost at h3 h4
  unfold HitsPost at h5 h6
  rw [hrv] at h3 h4
  generalize hitsL P fr tt = L at *
  generalize hitsM P tt = M at *
  generalize entC P = C at *
  generalize wayN P lv e = Y at *
  generalize (leaveN P e).2 = lc at *
  obtain ⟨y1, y2, y3⟩ := Y
  obtain ⟨k, p, s⟩ := e
  unfold pgV at h1 h2 h3 h4 h5 h6
  unfold enV at h1 h2 h3 h4
  unfold recV at h3 h4
  dsimp only at h1 h2 h3 h4
  obtain ⟨w0, hw0⟩ : ∃ w0, w0 = ((w_.alloc (.cells (pgCells P (.slice ia P.items.length ic)).toArray 24)).alloc (.cells #[.string (str k), .int .i64 p, .int .i64 s] 41)).alloc (.cells #[.string (str fr), .string (str tt), .int .i64 lv] 48) := ⟨_, rfl⟩
  obtain ⟨hg0, hP0, hE0, hK0⟩ := pek_new P ia ic k p s fr tt lv w_ w0 hw0
  have H1 := keep h1
  have H2 := keep h2
  have H3 := keep h3
  have H4 := keep h4
  have H5 := keep h5
  have H6 := keep h6
  have HL := keep hl
  have HP0 := keep hP0
  have HE0 := keep hE0
  have HK0 := keep hK0
  have HG0 := keep hg0
  clear h1 h2 h3 h4 h5 h6 hl hin hg0 hP0 hE0 hK0 hrv
  unfold pgCells at hw0
  unfold pgV enV
  go_enter Tryz.func4, Tryz.ntmps4
  go_upto_region 1 with fail
  rw [← hw0]
  clear hw0
  have hPx := HP0.out.fits (Grow.refl w0)
  unfold pgCells at hPx
  obtain ⟨p0, p1, p2, p3, p4, p5, _⟩ := pgres hPx
  clear hPx
  obtain ⟨e0, e1, e2, _⟩ := enres (HE0.out.fits (Grow.refl w0))
  obtain ⟨k0, k1, k2, _⟩ := enres (HK0.out.fits (Grow.refl w0))
  go_wp2_with fail
  refine (H1.out w0 (Grow.trans HG0.out (Grow.refl w0))).mono ?_
  rintro x u1 ⟨rfl, hb⟩
  have HS1 := keep hb
  have HG1 := keep (Grow.trans (Grow.refl w0) hb)
  clear p0 p1 p2 p3 p4 p5 e0 e1 e2 k0 k1 k2 hb H1
  have hPx := HP0.out.fits HG1.out
  unfold pgCells at hPx
  obtain ⟨p0, p1, p2, p3, p4, p5, _⟩ := pgres hPx
  clear hPx
  obtain ⟨e0, e1, e2, _⟩ := enres (HE0.out.fits HG1.out)
  obtain ⟨k0, k1, k2, _⟩ := enres (HK0.out.fits HG1.out)
  go_wp2_with fail
  refine (H2.out u1 (Grow.trans HG0.out HG1.out)).mono ?_
  rintro x u2 ⟨rfl, hb⟩
  have HS2 := keep hb
  have HG2 := keep (Grow.trans HG1.out hb)
  clear p0 p1 p2 p3 p4 p5 e0 e1 e2 k0 k1 k2 hb H2
  have hPx := HP0.out.fits HG2.out
  unfold pgCells at hPx
  obtain ⟨p0, p1, p2, p3, p4, p5, _⟩ := pgres hPx
  clear hPx
  obtain ⟨e0, e1, e2, _⟩ := enres (HE0.out.fits HG2.out)
  go_wp2_with fail
  refine (H3.out u2 (Grow.trans HG0.out HG2.out)).mono ?_
  rintro x u3 ⟨rfl, hb⟩
  have HS3 := keep hb
  have HG3 := keep (Grow.trans HG2.out hb)
  clear p0 p1 p2 p3 p4 p5 e0 e1 e2 hb H3
  go_upto_region 4 with fail
  obtain ⟨v3, hv⟩ : ∃ v, v = u3.alloc (.cells (recCells rk rp rd).toArray 36) := ⟨_, rfl⟩
  have hgv : Grow u3 v3 := by subst hv; exact (Grow.refl _).alloc _
  have HC3 := keep (show Blk v3 u3.heap.size 36 (recCells rk rp rd) by subst hv; exact Blk.new u3 _ _)
  have HV3 := keep (Grow.trans HG3.out hgv)
  have HW3 := keep hgv
  unfold recCells at hv
  rw [← hv]
  clear hv hgv
  have hPx := HP0.out.fits HV3.out
  unfold pgCells at hPx
  obtain ⟨p0, p1, p2, p3, p4, p5, _⟩ := pgres hPx
  clear hPx
  obtain ⟨e0, e1, e2, _⟩ := enres (HE0.out.fits HV3.out)
  go_wp2_with fail
  refine (H4.out v3 (Grow.trans HG0.out HV3.out)).mono ?_
  rintro x u4 ⟨rfl, hb⟩
  have HS4 := keep hb
  have HG4 := keep (Grow.trans HV3.out hb)
  clear p0 p1 p2 p3 p4 p5 e0 e1 e2 hb H4
  go_upto_region 5 with fail
  obtain ⟨v4, hv⟩ : ∃ v, v = u4.alloc (.cells (recCells rk rp rd).toArray 36) := ⟨_, rfl⟩
  have hgv : Grow u4 v4 := by subst hv; exact (Grow.refl _).alloc _
  have HC4 := keep (show Blk v4 u4.heap.size 36 (recCells rk rp rd) by subst hv; exact Blk.new u4 _ _)
  have HV4 := keep (Grow.trans HG4.out hgv)
  have HW4 := keep hgv
  unfold recCells at hv
  rw [← hv]
  clear hv hgv
  have hPx := HP0.out.fits HV4.out
  unfold pgCells at hPx
  obtain ⟨p0, p1, p2, p3, p4, p5, _⟩ := pgres hPx
  clear hPx
  obtain ⟨k0, k1, k2, _⟩ := enres (HK0.out.fits HV4.out)
  go_wp2_with fail
  refine (H5.out v4 (Grow.trans HG0.out HV4.out)).mono ?_
  rintro x u5 ⟨la, lc1, rfl, hla, hb⟩
  have HS5 := keep hb
  have HG5 := keep (Grow.trans HV4.out hb)
  clear p0 p1 p2 p3 p4 p5 k0 k1 k2 hb H5
  have HLa := keep hla
  clear hla
  have hPx := HP0.out.fits HG5.out
  unfold pgCells at hPx
  obtain ⟨p0, p1, p2, p3, p4, p5, _⟩ := pgres hPx
  clear hPx
  obtain ⟨k0, k1, k2, _⟩ := enres (HK0.out.fits HG5.out)
  go_wp2_with fail
  refine (H6.out u5 (Grow.trans HG0.out HG5.out)).mono ?_
  rintro x u6 ⟨ma, mc1, rfl, hma, hb⟩
  have HS6 := keep hb
  have HG6 := keep (Grow.trans HG5.out hb)
  clear p0 p1 p2 p3 p4 p5 k0 k1 k2 hb H6
  have HLb := keep hma
  have hA := HC3.out.fits (Grow.trans HS4.out (Grow.trans HW4.out (Grow.trans HS5.out HS6.out)))
  have hB := HC4.out.fits (Grow.trans HS5.out HS6.out)
  unfold recCells at hA hB
  obtain ⟨⟨r0, r1, r2, r3, r4, r5, r6, r7, r8, r9, r10, r11, r12, r13, r14, r15⟩, _⟩ := recres hA
  obtain ⟨⟨q0, q1, q2, q3, q4, q5, q6, q7, q8, q9, q10, q11, q12, q13, q14, q15⟩, _⟩ := recres hB
  have hsm := rsame_nil rk rp rd u6
  unfold recV at hsm
  have HSm := keep hsm
  clear hA hB hma hsm
  go_wp2_with fail
  refine HSm.out.mono ?_
  rintro x z1 ⟨rfl, hb⟩
  have HZ1 := keep hb
  clear r0 r1 r2 r3 r4 r5 r6 r7 r8 r9 r10 r11 r12 r13 r14 r15 q0 q1 q2 q3 q4 q5 q6 q7 q8 q9 q10 q11 q12 q13 q14 q15 hb HSm
  go_wp2_with fail
  refine (hits_same L _ _ z1 (HLa.out.weak.fits (Grow.trans HS6.out HZ1.out)) (HLb.out.weak.fits HZ1.out) (by have := HL.out; omega)).mono ?_
  rintro x z2 ⟨rfl, hb⟩
  have HZ2 := keep (Grow.trans HZ1.out hb)
  clear hb
  go_wp2_with fail
  refine (awake15_any z2).mono ?_
  rintro x z3 ⟨rfl, hb⟩
  go_wp2_with fail
  go_ret
  exact ⟨rfl, Grow.trans HG0.out (Grow.trans HG6.out (Grow.trans HZ2.out hb))⟩

end Go.Proofs.YtaninphcgeaepaaGreat
