import Derived.Test.YtaninphcgeaepaaGreatKCg2
import Derived.Test.YtaninphcgeaepaaGreatKBl1
import Derived.Test.YtaninphcgeaepaaGreatKCh2
namespace Go.Proofs.YtaninphcgeaepaaGreat
open Go.RowKit
attribute [local go_sem] givesF_none givesF_some evalF_tmp evalF_const evalF_global evalF_func lookL isB_bool isB_undef givesUpon_value givesUpon_skip givesUpon_enter
attribute [local simp] eql_entry
attribute [local go_sem] guard_entry
theorem mem_pos {l : List En} {t : En} (h : Sorted l) : t ∈ l ↔ ∃ hk : posE l t < l.length, l[posE l t] = t := by
 have h1 := search_end h (t := t) (k := posE l t) (posE_le l t) (fun j hj hjk => (pos_iff h j hj).2 hjk) (fun j hj hjk hc => by have := (pos_iff h j hj).1 hc; omega)
 rw [h1.2]
 exact ⟨fun ⟨a, b⟩ => ⟨a, cmpE_eq.1 b⟩, fun ⟨a, b⟩ => ⟨a, cmpE_eq.2 b⟩⟩
set_option maxRecDepth 100000 in
set_option maxHeartbeats 4000000 in
theorem rinsert_any (P : Pg) (iv : Value) (e : En) (w_ : World) (hin : PgIn w_ iv P) (hcap : Capd iv) :
  Calls Tryz.prog 52 #[pgV P iv, enV e] w_ (PgPost (insN P e).1 (insN P e).2 w_) := by
 have hd : insN P e = if openOk P && (decide (P.level = 0) && (enOk e && !beyN (bdN P) (hiN P) e)) then (if decide (e ∈ ensN P) then (zeroP, 140) else putN P (posE (ensN P) e) (enBytes e [])) else (zeroP, 140) := rfl
 have hbd : beyondN P e = if openOk P && enOk e then (beyN (bdN P) (hiN P) e, 0) else (false, 140) := rfl
 have hky : entriesOk P = (openOk P && decide (P.level = 0)) := rfl
 have hso := fun (h : openOk P = true) => open_sorted h
 have h255 := fun (h : openOk P = true) => (show (ensN P).length ≤ 255 by rw [ensN_length]; exact (open_fine h).1)
 have hl1 := ensN_length P
 have hpu := fun (u : World) (hi : Items u iv P.items) (h : openOk P = true) (h2 : enOk e = true) => rput14_any P iv (posE (ensN P) e) (enBytes e []) u hi hcap (by rw [← hl1]; exact posE_le _ _) hin.2.1 (by have := enBytes_length _ h2; omega) hin.2.2.1 (by have := (open_fine h).1; omega)
 have hraw := fun (u : World) (h2 : enOk e = true) => rraw_any e u (enOk_fine h2)
 obtain ⟨k, p, s⟩ := e
 obtain ⟨w0, hw0⟩ : ∃ w0, w0 = (((w_.alloc (.cells (pgCells P iv).toArray 24)).alloc (.cells #[.string (str k), .int .i64 p, .int .i64 s] 41)).alloc (.cells #[.int .i64 0, .int .i64 0, .int .i64 0, .int .i64 0, .string ⟨#[]⟩, .slice none 0 0] 24)) := ⟨_, rfl⟩
 have hg0 : Grow w_ w0 := by subst hw0; exact (((Grow.refl w_).alloc _).alloc _).alloc _
 have hP0 : Blk w0 w_.heap.size 24 (pgCells P iv) := by
  have := ((Blk.new w_ 24 (pgCells P iv)).alloc (.cells #[.string (str k), .int .i64 p, .int .i64 s] 41)).alloc (.cells #[.int .i64 0, .int .i64 0, .int .i64 0, .int .i64 0, .string ⟨#[]⟩, .slice none 0 0] 24)
  subst hw0; exact this
 have hE0 : Blk w0 (w_.heap.size + 1) 41 [.string (str k), .int .i64 p, .int .i64 s] := by
  have := (Blk.new (w_.alloc (.cells (pgCells P iv).toArray 24)) 41 [.string (str k), .int .i64 p, .int .i64 s]).alloc (.cells #[.int .i64 0, .int .i64 0, .int .i64 0, .int .i64 0, .string ⟨#[]⟩, .slice none 0 0] 24)
  have e : (w_.alloc (.cells (pgCells P iv).toArray 24)).heap.size = w_.heap.size + 1 := by simp
  rw [e] at this
  subst hw0; exact this
 have hR0 : Blk w0 (w_.heap.size + 2) 24 [.int .i64 0, .int .i64 0, .int .i64 0, .int .i64 0, .string ⟨#[]⟩, .slice none 0 0] := by
  have := Blk.new ((w_.alloc (.cells (pgCells P iv).toArray 24)).alloc (.cells #[.string (str k), .int .i64 p, .int .i64 s] 41)) 24 [.int .i64 0, .int .i64 0, .int .i64 0, .int .i64 0, .string ⟨#[]⟩, .slice none 0 0]
  have e : ((w_.alloc (.cells (pgCells P iv).toArray 24)).alloc (.cells #[.string (str k), .int .i64 p, .int .i64 s] 41)).heap.size = w_.heap.size + 2 := by simp
  rw [e] at this
  subst hw0; exact this
 have hzR := hR0.lt
 have hen := rentries_any P iv w0 (hin.fits hg0)
 have hbe := fun (u : World) (hu : Grow w_ u) => rbeyond_any P iv (k, p, s) u (hin.fits hu)
 have HIw := keep (fun (u : World) (hu : Grow w0 u) => (Row.fits hin.1 (Grow.trans hg0 hu) : Items u iv P.items))
 obtain ⟨ia, ic, rfl⟩ := items_form hin.1
 unfold pgV enV at *
 generalize beyondN P (k, p, s) = B at *
 obtain ⟨ob, oc⟩ := B
 dsimp only at hbe
 have HPw := keep (fun (u : World) (hu : Grow w0 u) => hP0.fits hu)
 have HEw := keep (fun (u : World) (hu : Grow w0 u) => hE0.fits hu)
 have HRw := keep (fun (u : World) (hu : Grow w0 u) => hR0.fits hu)
 have HEn := keep hen
 have HBe := keep hbe
 have HD := keep hd
 have HBd := keep hbd
 have HSo := keep hso
 have HKy := keep hky
 have H255 := keep h255
 have HPut := keep hpu
 have HRaw0 := keep hraw
 have HG0 := keep hg0
 unfold pgCells at hw0 hP0 HPw
 obtain ⟨p0, p1, p2, p3, p4, p5, _⟩ := pgres hP0
 clear hen hbe hd hbd hso hky h255 hpu hraw hP0 hE0 hR0 hg0 hin hcap hl1
 go_enter Tryz.func52, Tryz.ntmps52
 go_upto_region 1 with fail
 rw [← hw0]
 clear hw0
 go_wp2_with fail
 refine HEn.out.mono ?_
 rintro x w1 hx
 unfold EntPost at hx
 obtain ⟨hx, hb1⟩ := hx
 have HG1 := keep hb1
 clear p0 p1 p2 p3 p4 p5 HEn hb1
 obtain ⟨p0, p1, p2, p3, p4, p5, _⟩ := pgres (HPw.out w1 HG1.out)
 obtain ⟨e0, e1, e2, _⟩ := enres (HEw.out w1 HG1.out)
 cases hK : entriesOk P with
 | false =>
  rw [hK, if_neg (by decide)] at hx
  subst hx
  have hno : insN P (k, p, s) = (zeroP, 140) := by
   rw [HD.out]
   have h1 := HKy.out
   rw [hK] at h1
   rw [← Bool.and_assoc, ← h1, Bool.false_and]
   rfl
  have HNo := keep hno
  clear hK hno
  go_wp2_with fail
  refine (HBe.out w1 (Grow.trans HG0.out HG1.out)).mono ?_
  rintro x w2 ⟨rfl, hb2⟩
  have HG2 := keep (Grow.trans HG1.out hb2)
  clear hb2 p0 p1 p2 p3 p4 p5 e0 e1 e2
  have hR := HRw.out w2 HG2.out
  have hz9 := HG2.out.size
  have Hset := keep (pgset hR (.int .i64 0) (.int .i64 0) (.int .i64 0) (.int .i64 0) (.string ⟨#[]⟩) (.slice none 0 0))
  have Hbut := keep (pgbut w2 (w_.heap.size + 2) (.int .i64 0) (.int .i64 0) (.int .i64 0) (.int .i64 0) (.string ⟨#[]⟩) (.slice none 0 0))
  have hlt2 := hR.lt
  obtain ⟨r0, r1, r2, r3, r4, r5, f0, f1, f2, f3, f4, f5⟩ := pgres hR
  clear hR
  go_wp2_with fail
  rw [HNo.out]
  refine bodyPost_ret (v := .tuple #[pgV zeroP (.slice none 0 0), .int .i64 140]) ?_ rfl ⟨_, rfl, ItemsC.nil _, But.below (Grow.trans HG0.out HG2.out) Hbut.out (by omega) (by omega)⟩
  obtain ⟨s0, s1, s2, s3, s4, s5, _⟩ := pgres Hset.out
  simp [results, Tryz.results52, go_sem, s0, s1, s2, s3, s4, s5, pgV, zeroP]
  rfl
 | true =>
  rw [hK, if_pos rfl] at hx
  obtain ⟨a, c, rfl, hes⟩ := hx
  have h1 := HKy.out
  rw [hK] at h1
  have h2 : openOk P = true ∧ P.level = 0 := by simpa using h1.symm
  obtain ⟨hO, hlv⟩ := h2
  have hd := HD.out
  have hbd := HBd.out
  rw [hO, decide_eq_true hlv] at hd
  rw [hO] at hbd
  have hso := HSo.out hO
  have h255 := H255.out hO
  have HPut2 := keep (fun (u : World) (hi : Items u _ P.items) (h2 : enOk (k, p, s) = true) => HPut.out u hi hO h2)
  generalize ensN P = L at *
  clear hK h1 HD HBd HSo HKy H255 hlv hO HPut
  have HEs := keep hes
  have HDd := keep hd
  have HBdd := keep hbd
  have HSo := keep hso
  clear hes hd hbd hso
  go_wp2_with fail
  refine (HBe.out w1 (Grow.trans HG0.out HG1.out)).mono ?_
  rintro x w2 ⟨rfl, hb2⟩
  have HG2 := keep (Grow.trans HG1.out hb2)
  have HB12 := keep hb2
  clear hb2 p0 p1 p2 p3 p4 p5 e0 e1 e2
  cases hA : enOk (k, p, s) with
  | false =>
   have hx := HDd.out
   have hy := HBdd.out
   rw [hA] at hx hy
   simp only [Bool.and_false, Bool.false_and, Bool.false_eq_true, if_false, Prod.mk.injEq] at hx hy
   obtain ⟨rfl, rfl⟩ := hy
   have HNo := keep hx
   clear hA HDd HBdd hx HPut2
   have hR := HRw.out w2 HG2.out
   have hz9 := HG2.out.size
   have Hset := keep (pgset hR (.int .i64 0) (.int .i64 0) (.int .i64 0) (.int .i64 0) (.string ⟨#[]⟩) (.slice none 0 0))
   have Hbut := keep (pgbut w2 (w_.heap.size + 2) (.int .i64 0) (.int .i64 0) (.int .i64 0) (.int .i64 0) (.string ⟨#[]⟩) (.slice none 0 0))
   have hlt2 := hR.lt
   obtain ⟨r0, r1, r2, r3, r4, r5, f0, f1, f2, f3, f4, f5⟩ := pgres hR
   clear hR
   go_wp2_with fail
   rw [HNo.out]
   refine bodyPost_ret (v := .tuple #[pgV zeroP (.slice none 0 0), .int .i64 140]) ?_ rfl ⟨_, rfl, ItemsC.nil _, But.below (Grow.trans HG0.out HG2.out) Hbut.out (by omega) (by omega)⟩
   obtain ⟨s0, s1, s2, s3, s4, s5, _⟩ := pgres Hset.out
   simp [results, Tryz.results52, go_sem, s0, s1, s2, s3, s4, s5, pgV, zeroP]
   rfl
  | true =>
   have hx := HDd.out
   have hy := HBdd.out
   rw [hA] at hx hy
   simp only [Bool.and_true, Bool.true_and, if_true, Prod.mk.injEq] at hx hy
   obtain ⟨hy, rfl⟩ := hy
   rw [← hy] at hx
   have HRaw := keep (fun (u : World) => HRaw0.out u hA)
   have HPut3 := keep (fun (u : World) (hi : Items u _ P.items) => HPut2.out u hi hA)
   clear hA HDd HBdd hy HPut2 HRaw0
   cases ob with
   | true =>
    simp only [Bool.not_true, Bool.false_eq_true, if_false] at hx
    have HNo := keep hx
    clear hx
    have hR := HRw.out w2 HG2.out
    have hz9 := HG2.out.size
    have Hset := keep (pgset hR (.int .i64 0) (.int .i64 0) (.int .i64 0) (.int .i64 0) (.string ⟨#[]⟩) (.slice none 0 0))
    have Hbut := keep (pgbut w2 (w_.heap.size + 2) (.int .i64 0) (.int .i64 0) (.int .i64 0) (.int .i64 0) (.string ⟨#[]⟩) (.slice none 0 0))
    have hlt2 := hR.lt
    obtain ⟨r0, r1, r2, r3, r4, r5, f0, f1, f2, f3, f4, f5⟩ := pgres hR
    clear hR
    go_wp2_with fail
    rw [HNo.out]
    refine bodyPost_ret (v := .tuple #[pgV zeroP (.slice none 0 0), .int .i64 140]) ?_ rfl ⟨_, rfl, ItemsC.nil _, But.below (Grow.trans HG0.out HG2.out) Hbut.out (by omega) (by omega)⟩
    obtain ⟨s0, s1, s2, s3, s4, s5, _⟩ := pgres Hset.out
    simp [results, Tryz.results52, go_sem, s0, s1, s2, s3, s4, s5, pgV, zeroP]
    rfl
   | false =>
    simp only [Bool.not_false, if_true] at hx
    have HX := keep hx
    clear hx
    have HPi := keep (fun (i : Nat) (hi : i < L.length) => pos_iff (t := (k, p, s)) HSo.out i hi)
    have HMem := keep (mem_pos (t := (k, p, s)) HSo.out)
    have hpl : posE L (k, p, s) ≤ L.length := posE_le _ _
    generalize posE L (k, p, s) = J at *
    go_wp2_with fail
    go_loopw [10] (fun x wr => ∃ n : Nat, n ≤ J ∧ x = .int .i64 n ∧ Kept (Grow w2 wr)) (fun x _ => J - (intOf x).toNat)
    case atStart => exact ⟨0, Nat.zero_le _, rfl, keep (Grow.refl _)⟩
    case round =>
     obtain ⟨n, hn, rfl, HG⟩ := hrel
     by_cases hlt : n < L.length
     ·obtain ⟨ce, offe, cape, ee, hce⟩ := ens_at HEs.out hlt
      simp only [Value.slice.injEq] at ee
      obtain ⟨rfl, x1, x2⟩ := ee
      have hpi := HPi.out n hlt
      have hcp := fun (u : World) => rcompare_any L[n] (k, p, s) u
      obtain ⟨g, hgl⟩ : ∃ g, L[n] = g := ⟨_, rfl⟩
      rw [hgl] at hpi hcp hce
      have HGl := keep hgl
      clear hgl
      obtain ⟨gk, gp, gs⟩ := g
      unfold enV at hcp
      dsimp only at hcp hce
      have HCp := keep hcp
      have HPn := keep hpi
      have HC9 := keep (fun (u : World) (hu : Grow wr.drew u) => hce u (Grow.trans HB12.out (Grow.trans HG.out (Grow.undrew hu))))
      have HE9 := keep (fun (u : World) (hu : Grow wr.drew u) => enres (HEw.out u (Grow.trans HG2.out (Grow.trans HG.out (Grow.undrew hu)))))
      have HCx := keep hce
      clear hcp hpi hce x1 x2
      go_upto_region 6 with fail
      refine wp_region_grow_named (by kernel_rfl) 12 (by kernel_rfl) [(32, 0), (33, 1), (34, 2), (35, 3), (36, 4), (37, 5), (38, 6), (39, 7), (40, 8), (41, 9), (42, 10), (43, 11)] (by kernel_rfl) [(0, true), (1, true), (2, true), (3, true), (4, true), (5, true), (6, true), (7, true), (8, true), (9, true), (10, true), (11, true)] (by kernel_rfl) rfl rfl ?_
      intro a0 ha0
      have hsz : a0.tmps.size = 67 := (size_at ha0).trans rfl
      have s3 := slot_at ha0 3 rfl
      have s6 := slot_at ha0 6 rfl
      have s10 := slot_at ha0 10 rfl
      have HA0 := keep ha0
      clear ha0
      apply lq hsz [] [(33, 1), (34, 2), (36, 4), (37, 5), (38, 6), (39, 7), (40, 8), (41, 9), (42, 10), (43, 11), (44, 12)] none (by kernel_rfl) rfl
      ·intro xs w hw hp K hK
       go_simp
       exact hK _ (Grow.refl _)
      apply lq hsz [] [(32, 0), (35, 3), (36, 4), (37, 5), (38, 6), (39, 7), (40, 8), (41, 9), (42, 10), (43, 11), (44, 12)] none (by kernel_rfl) rfl
      ·intro xs w hw hp K hK
       go_simp
       exact hK _ (Grow.refl _)
      apply lq hsz [(1, true)] [(32, 0), (33, 1), (36, 4), (37, 5), (38, 6), (39, 7), (40, 8), (41, 9), (42, 10), (43, 11), (44, 12)] none (by kernel_rfl) rfl
      ·intro xs w hw hp K hK
       simp only [holdsL, List.nil_append, List.cons_append, List.getD_cons_succ, List.getD_cons_zero, if_true, and_true] at hp
       go_simp
       exact hK _ (Grow.refl _)
      apply lq hsz [(0, true), (2, true)] [(32, 0), (33, 1), (34, 2), (37, 5), (38, 6), (39, 7), (40, 8), (41, 9), (42, 10), (43, 11), (44, 12)] none (by kernel_rfl) rfl
      ·intro xs w hw hp K hK
       simp only [holdsL, List.nil_append, List.cons_append, List.getD_cons_succ, List.getD_cons_zero, if_true, and_true] at hp
       have q2 : (n : Int) < (L.length : Int) := by omega
       go_simp
       exact hK _ (Grow.refl _)
      apply lq hsz [(3, true)] [(32, 0), (33, 1), (34, 2), (35, 3)] none (by kernel_rfl) rfl
      ·intro xs w hw hp K hK
       simp only [holdsL, List.nil_append, List.cons_append, List.getD_cons_succ, List.getD_cons_zero, if_true, and_true] at hp
       go_simp
       exact hK _ (Grow.refl _)
      apply lq hsz [(4, true)] [(32, 0), (33, 1), (34, 2), (35, 3), (36, 4), (38, 6), (40, 8), (41, 9), (42, 10), (43, 11), (44, 12)] (some (36, true)) (by kernel_rfl) rfl
      ·intro xs w hw hp K hK
       simp only [holdsL, List.nil_append, List.cons_append, List.getD_cons_succ, List.getD_cons_zero, if_true, and_true] at hp
       go_simp
       exact hK _ (Grow.refl _)
      apply lq hsz [(4, true)] [(32, 0), (33, 1), (34, 2), (35, 3), (36, 4), (37, 5), (40, 8), (41, 9), (42, 10), (43, 11), (44, 12)] (some (36, true)) (by kernel_rfl) rfl
      ·intro xs w hw hp K hK
       simp only [holdsL, List.nil_append, List.cons_append, List.getD_cons_succ, List.getD_cons_zero, if_true, and_true] at hp
       go_simp
       exact hK _ (Grow.refl _)
      apply lq hsz [(4, true), (5, true), (6, true)] [(32, 0), (33, 1), (34, 2), (35, 3), (36, 4), (37, 5), (38, 6), (41, 9), (42, 10), (43, 11), (44, 12)] (some (36, true)) (by kernel_rfl) rfl
      ·intro xs w hw hp K hK
       simp only [holdsL, List.nil_append, List.cons_append, List.getD_cons_succ, List.getD_cons_zero, if_true, and_true] at hp
       have q2 : (n : Int) < (L.length : Int) := by omega
       go_simp
       exact hK _ (Grow.refl _)
      apply lq hsz [(4, true), (7, true)] [(32, 0), (33, 1), (34, 2), (35, 3), (36, 4), (37, 5), (38, 6), (39, 7), (41, 9), (43, 11), (44, 12)] (some (36, true)) (by kernel_rfl) rfl
      ·intro xs w hw hp K hK
       simp only [holdsL, List.nil_append, List.cons_append, List.getD_cons_succ, List.getD_cons_zero, if_true, and_true] at hp
       obtain ⟨c0, c1, c2⟩ := HC9.out w hw
       go_simp
       exact hK _ (Grow.refl _)
      apply lq hsz [(4, true)] [(32, 0), (33, 1), (34, 2), (35, 3), (36, 4), (37, 5), (38, 6), (39, 7), (40, 8), (43, 11), (44, 12)] (some (36, true)) (by kernel_rfl) rfl
      ·intro xs w hw hp K hK
       simp only [holdsL, List.nil_append, List.cons_append, List.getD_cons_succ, List.getD_cons_zero, if_true, and_true] at hp
       obtain ⟨c0, c1, c2, _⟩ := HE9.out w hw
       go_simp
       exact hK _ (Grow.refl _)
      apply lq hsz [(4, true), (8, true), (9, true)] [(32, 0), (33, 1), (34, 2), (35, 3), (36, 4), (37, 5), (38, 6), (39, 7), (40, 8), (41, 9), (44, 12)] (some (36, true)) (by kernel_rfl) rfl
      ·intro xs w hw hp K hK
       simp only [holdsL, List.nil_append, List.cons_append, List.getD_cons_succ, List.getD_cons_zero, if_true, and_true] at hp
       go_simp
       exact (HCp.out w).mono fun e w' h => ⟨_, h.1, hK _ h.2⟩
      apply lq hsz [(4, true), (10, true)] [(32, 0), (33, 1), (34, 2), (35, 3), (36, 4), (37, 5), (38, 6), (39, 7), (40, 8), (41, 9), (42, 10)] (some (36, true)) (by kernel_rfl) rfl
      ·intro xs w hw hp K hK
       simp only [holdsL, List.nil_append, List.cons_append, List.getD_cons_succ, List.getD_cons_zero, if_true, and_true] at hp
       go_simp
       exact hK _ (Grow.refl _)
      intro xs w hw hp
      have ha0 := HA0.out
      clear HA0 hsz s3 s6 s10
      simp only [holdsL, List.nil_append, List.cons_append, List.getD_cons_succ, List.getD_cons_zero, if_true, and_true] at hp
      have h4 := hp.2.2.2.2.1
      have h11 := hp.2.2.2.2.2.2.2.2.2.2.2
      clear hp
      subst ha0
      simp only [putAll, h4, h11]
      have hg9 := Grow.undrew hw
      have HG9 := keep (Grow.trans HG.out hg9)
      clear hw h4 h11 HC9 HE9 hg9
      by_cases hlow : cmpE (gk, gp, gs) (k, p, s) < 0
      ·have hnj : n < J := HPn.out.1 hlow
       go_wp2_with fail
       go_roundw
       case rel => exact ⟨n + 1, by omega, by go_num, HG9⟩
       case measure => simp [intOf]; omega
      ·have hnj : n = J := by
        rcases Nat.lt_or_ge n J with h | h
        ·exact absurd (HPn.out.2 h) hlow
        ·omega
       subst hnj
       have HMm : Kept (decide ((k, p, s) ∈ L) = sameE (gk, gp, gs) (k, p, s)) := keep (by
        unfold sameE
        rw [← HGl.out]
        exact decide_eq_decide.2 (HMem.out.trans ⟨fun ⟨a, b⟩ => b, fun b => ⟨hlt, b⟩⟩))
       have HG10 := keep (Grow.trans HG2.out HG9.out)
       have q2 : (n : Int) < (L.length : Int) := by omega
       obtain ⟨c0, c1, c2⟩ := HCx.out w (Grow.trans HB12.out HG9.out)
       obtain ⟨e0, e1, e2, _⟩ := enres (HEw.out w HG10.out)
       go_upto_region 8 with fail
       clear hlow
       have hx := HX.out
       rw [HMm.out] at hx
       generalize hS : sameE (gk, gp, gs) (k, p, s) = S at *
       cases S with
       | true =>
        have HNo := keep (show insN P (k, p, s) = (zeroP, 140) from hx)
        clear hx HX HMm
        go_quiet (fail)
        clear c0 c1 c2 e0 e1 e2 hS q2
        generalize hwq : w.drewN _ = wq at *
        have HGq := keep (show Grow w0 wq by subst hwq; exact Grow.trans HG10.out (below_drewN (Grow.refl _) _))
        clear hwq
        have hR := HRw.out wq HGq.out
        have hz9 := HGq.out.size
        have Hset := keep (pgset hR (.int .i64 0) (.int .i64 0) (.int .i64 0) (.int .i64 0) (.string ⟨#[]⟩) (.slice none 0 0))
        have Hbut := keep (pgbut wq (w_.heap.size + 2) (.int .i64 0) (.int .i64 0) (.int .i64 0) (.int .i64 0) (.string ⟨#[]⟩) (.slice none 0 0))
        have hlt2 := hR.lt
        obtain ⟨r0, r1, r2, r3, r4, r5, f0, f1, f2, f3, f4, f5⟩ := pgres hR
        clear hR
        go_wp2_with fail
        rw [HNo.out]
        refine bodyPost_ret (v := .tuple #[pgV zeroP (.slice none 0 0), .int .i64 140]) ?_ rfl ⟨_, rfl, ItemsC.nil _, But.below (Grow.trans HG0.out HGq.out) Hbut.out (by omega) (by omega)⟩
        obtain ⟨s0, s1, s2, s3, s4, s5, _⟩ := pgres Hset.out
        simp [results, Tryz.results52, go_sem, s0, s1, s2, s3, s4, s5, pgV, zeroP]
        rfl
       | false =>
        have hx2 : insN P (k, p, s) = putN P n (enBytes (k, p, s) []) := hx
        generalize putN P n (enBytes (k, p, s) []) = R at *
        obtain ⟨Q, cd⟩ := R
        dsimp only at HPut3
        have HYes := keep hx2
        have HPu := HPut3
        unfold PgPost pgV at HPu
        clear hx hx2 HX HMm HPut3
        go_quiet (fail)
        clear c0 c1 c2 e0 e1 e2 hS q2
        generalize hwq : w.drewN _ = wq at *
        have HGq := keep (show Grow w0 wq by subst hwq; exact Grow.trans HG10.out (below_drewN (Grow.refl _) _))
        clear hwq
        have HP7 := keep (fun (u : World) (hu : Grow wq.drew u) => (HPw.out _ (Grow.trans HGq.out (Grow.undrew hu))))
        have HE7 := keep (fun (u : World) (hu : Grow wq.drew u) => (HEw.out _ (Grow.trans HGq.out (Grow.undrew hu))))
        have HI7 := keep (fun (u : World) (hu : Grow wq.drew u) => (HIw.out _ (Grow.trans HGq.out (Grow.undrew hu))))
        go_upto_region 10 with fail
        refine wp_region_grow_named (by kernel_rfl) 7 (by kernel_rfl) [(60, 0), (61, 1), (62, 2), (63, 3), (64, 4), (65, 5), (66, 6)] (by kernel_rfl) [(0, true), (1, true), (2, true), (3, true), (4, true), (5, true), (6, true)] (by kernel_rfl) rfl rfl ?_
        intro a0 ha0
        have hsz : a0.tmps.size = 67 := (size_at ha0).trans rfl
        have s2 := slot_at ha0 2 rfl
        have s3 := slot_at ha0 3 rfl
        have s10 := slot_at ha0 10 rfl
        have HA0 := keep ha0
        clear ha0
        apply lq hsz [] [(61, 1), (62, 2), (63, 3), (65, 5), (66, 6)] none (by kernel_rfl) rfl
        ·intro xs w hw hp K hK
         obtain ⟨p0, p1, p2, p3, p4, p5, _⟩ := pgres (HP7.out w hw)
         go_simp
         exact hK _ (Grow.refl _)
        apply lq hsz [] [(60, 0), (62, 2), (63, 3), (65, 5), (66, 6)] none (by kernel_rfl) rfl
        ·intro xs w hw hp K hK
         go_simp
         exact hK _ (Grow.refl _)
        apply lq hsz [] [(60, 0), (61, 1), (64, 4), (65, 5), (66, 6)] none (by kernel_rfl) rfl
        ·intro xs w hw hp K hK
         obtain ⟨e0, e1, e2, _⟩ := enres (HE7.out w hw)
         go_simp
         exact hK _ (Grow.refl _)
        apply lq hsz [(2, true)] [(60, 0), (61, 1), (62, 2), (65, 5), (66, 6)] none (by kernel_rfl) rfl
        ·intro xs w hw hp K hK
         simp only [holdsL, List.nil_append, List.cons_append, List.getD_cons_succ, List.getD_cons_zero, if_true, and_true] at hp
         go_simp
         exact (HRaw.out w).mono fun e w' h => ⟨_, h.1, hK _ h.2⟩
        refine lexf_says hsz (fun v u => ∃ iv, v = .tuple #[pgV Q iv, .int .i64 cd] ∧ ItemsC u iv Q.items) (fun _ _ _ g h => h.elim fun iv h => ⟨iv, h.1, h.2.fits g⟩) [(0, true), (1, true), (3, true)] [(60, 0), (61, 1), (62, 2), (63, 3)] none (by kernel_rfl) (by kernel_rfl) (by kernel_rfl) (by kernel_rfl) rfl ?_ ?_
        ·intro xs w hw hp K hK
         simp only [holdsL, List.nil_append, List.cons_append, List.getD_cons_succ, List.getD_cons_zero, if_true, and_true] at hp
         go_simp
         exact (HPu.out w (HI7.out w hw)).mono fun e w' ⟨iv, h1, h2, h3⟩ => ⟨_, h1, hK _ _ ⟨iv, rfl, h2⟩ h3⟩
        refine lexf_says hsz (fun v u => ∃ iv, v = pgV Q iv ∧ ItemsC u iv Q.items) (fun _ _ _ g h => h.elim fun iv h => ⟨iv, h.1, h.2.fits g⟩) [(4, true)] [(60, 0), (61, 1), (62, 2), (63, 3), (64, 4), (66, 6)] none (by kernel_rfl) (by kernel_rfl) (by kernel_rfl) (by kernel_rfl) rfl ?_ ?_
        ·intro xs w hw hp K hK
         simp only [holdsL, List.nil_append, List.cons_append, List.getD_cons_succ, List.getD_cons_zero, if_true, and_true] at hp
         obtain ⟨iv8, h8, hit⟩ := hp
         go_simp
         exact hK _ _ ⟨iv8, rfl, hit⟩ (Grow.refl _)
        refine lexf_says hsz (fun v _ => v = .int .i64 cd) (fun _ _ _ _ h => h) [(4, true)] [(60, 0), (61, 1), (62, 2), (63, 3), (64, 4), (65, 5)] none (by kernel_rfl) (by kernel_rfl) (by kernel_rfl) (by kernel_rfl) rfl ?_ ?_
        ·intro xs w hw hp K hK
         simp only [holdsL, List.nil_append, List.cons_append, List.getD_cons_succ, List.getD_cons_zero, if_true, and_true] at hp
         obtain ⟨iv8, h8, hit⟩ := hp
         go_simp
         exact hK _ _ rfl (Grow.refl _)
        intro xs w hw hp
        have ha0 := HA0.out
        clear HA0 hsz s2 s3 s10
        simp only [holdsL, List.nil_append, List.cons_append, List.getD_cons_succ, List.getD_cons_zero, if_true, and_true] at hp
        have h9 := hp.2.2.2.2.2.1
        have h10 := hp.2.2.2.2.2.2
        clear hp
        subst ha0
        simp only [putAll, h10]
        obtain ⟨iv9, h9, hit⟩ := h9
        simp only [h9]
        obtain ⟨qa, qc, rfl⟩ := itemsS_form hit.1
        have hgw := Grow.trans HGq.out hw.undrew
        have hR := HRw.out _ hgw
        have hbb : Below w_.heap.size w_ w := Grow.trans HG0.out hgw
        obtain ⟨r0, r1, r2, r3, r4, r5, f0, f1, f2, f3, f4, f5⟩ := pgres hR
        have Hset := keep (pgset hR (.int .i64 Q.lsn) (.int .i64 Q.kind) (.int .i64 Q.level) (.int .i64 Q.right) (.string (str Q.high)) (.slice qa Q.items.length qc))
        have Hbut := keep (pgbut w (w_.heap.size + 2) (.int .i64 Q.lsn) (.int .i64 Q.kind) (.int .i64 Q.level) (.int .i64 Q.right) (.string (str Q.high)) (.slice qa Q.items.length qc))
        have Hit := keep hit
        have HR := keep hR
        have Hbb := keep hbb
        have hlt2 := hR.lt
        clear hw h9 h10 hit hR hbb hgw
        unfold pgV
        go_wp2_with fail
        rw [HYes.out]
        refine bodyPost_ret (v := .tuple #[pgV Q (.slice qa Q.items.length qc), .int .i64 cd]) ?_ rfl ⟨_, rfl, itemsC_but Hit.out Hbut.out HR.out (by decide), But.below Hbb.out Hbut.out (by omega) (by omega)⟩
        obtain ⟨s0, s1, s2, s3, s4, s5, _⟩ := pgres Hset.out
        simp [results, Tryz.results52, go_sem, s0, s1, s2, s3, s4, s5, pgV]
     ·have hnj : n = L.length := by omega
      have hJ : J = L.length := by omega
      subst hnj hJ
      have hx := HX.out
      rw [decide_eq_false (show ¬ (k, p, s) ∈ L from fun h => by obtain ⟨a, _⟩ := HMem.out.1 h; omega)] at hx
      have hx2 : insN P (k, p, s) = putN P L.length (enBytes (k, p, s) []) := hx
      generalize putN P L.length (enBytes (k, p, s) []) = R at *
      obtain ⟨Q, cd⟩ := R
      dsimp only at HPut3
      have HYes := keep hx2
      have HPu := HPut3
      unfold PgPost pgV at HPu
      have HG10 := keep (Grow.trans HG2.out HG.out)
      clear hx hx2 HX HPut3
      go_upto_region 6 with fail
      go_quiet (fail)
      generalize hwp : wr.drewN _ = wp at *
      have HGp := keep (show Grow w0 wp by subst hwp; exact Grow.trans HG10.out (below_drewN (Grow.refl _) _))
      clear hwp
      go_upto_region 8 with fail
      go_quiet (fail)
      generalize hwq : wp.drewN _ = wq at *
      have HGq := keep (show Grow w0 wq by subst hwq; exact Grow.trans HGp.out (below_drewN (Grow.refl _) _))
      clear hwq
      have HP7 := keep (fun (u : World) (hu : Grow wq.drew u) => (HPw.out _ (Grow.trans HGq.out (Grow.undrew hu))))
      have HE7 := keep (fun (u : World) (hu : Grow wq.drew u) => (HEw.out _ (Grow.trans HGq.out (Grow.undrew hu))))
      have HI7 := keep (fun (u : World) (hu : Grow wq.drew u) => (HIw.out _ (Grow.trans HGq.out (Grow.undrew hu))))
      go_upto_region 10 with fail
      refine wp_region_grow_named (by kernel_rfl) 7 (by kernel_rfl) [(60, 0), (61, 1), (62, 2), (63, 3), (64, 4), (65, 5), (66, 6)] (by kernel_rfl) [(0, true), (1, true), (2, true), (3, true), (4, true), (5, true), (6, true)] (by kernel_rfl) rfl rfl ?_
      intro a0 ha0
      have hsz : a0.tmps.size = 67 := (size_at ha0).trans rfl
      have s2 := slot_at ha0 2 rfl
      have s3 := slot_at ha0 3 rfl
      have s10 := slot_at ha0 10 rfl
      have HA0 := keep ha0
      clear ha0
      apply lq hsz [] [(61, 1), (62, 2), (63, 3), (65, 5), (66, 6)] none (by kernel_rfl) rfl
      ·intro xs w hw hp K hK
       obtain ⟨p0, p1, p2, p3, p4, p5, _⟩ := pgres (HP7.out w hw)
       go_simp
       exact hK _ (Grow.refl _)
      apply lq hsz [] [(60, 0), (62, 2), (63, 3), (65, 5), (66, 6)] none (by kernel_rfl) rfl
      ·intro xs w hw hp K hK
       go_simp
       exact hK _ (Grow.refl _)
      apply lq hsz [] [(60, 0), (61, 1), (64, 4), (65, 5), (66, 6)] none (by kernel_rfl) rfl
      ·intro xs w hw hp K hK
       obtain ⟨e0, e1, e2, _⟩ := enres (HE7.out w hw)
       go_simp
       exact hK _ (Grow.refl _)
      apply lq hsz [(2, true)] [(60, 0), (61, 1), (62, 2), (65, 5), (66, 6)] none (by kernel_rfl) rfl
      ·intro xs w hw hp K hK
       simp only [holdsL, List.nil_append, List.cons_append, List.getD_cons_succ, List.getD_cons_zero, if_true, and_true] at hp
       go_simp
       exact (HRaw.out w).mono fun e w' h => ⟨_, h.1, hK _ h.2⟩
      refine lexf_says hsz (fun v u => ∃ iv, v = .tuple #[pgV Q iv, .int .i64 cd] ∧ ItemsC u iv Q.items) (fun _ _ _ g h => h.elim fun iv h => ⟨iv, h.1, h.2.fits g⟩) [(0, true), (1, true), (3, true)] [(60, 0), (61, 1), (62, 2), (63, 3)] none (by kernel_rfl) (by kernel_rfl) (by kernel_rfl) (by kernel_rfl) rfl ?_ ?_
      ·intro xs w hw hp K hK
       simp only [holdsL, List.nil_append, List.cons_append, List.getD_cons_succ, List.getD_cons_zero, if_true, and_true] at hp
       go_simp
       exact (HPu.out w (HI7.out w hw)).mono fun e w' ⟨iv, h1, h2, h3⟩ => ⟨_, h1, hK _ _ ⟨iv, rfl, h2⟩ h3⟩
      refine lexf_says hsz (fun v u => ∃ iv, v = pgV Q iv ∧ ItemsC u iv Q.items) (fun _ _ _ g h => h.elim fun iv h => ⟨iv, h.1, h.2.fits g⟩) [(4, true)] [(60, 0), (61, 1), (62, 2), (63, 3), (64, 4), (66, 6)] none (by kernel_rfl) (by kernel_rfl) (by kernel_rfl) (by kernel_rfl) rfl ?_ ?_
      ·intro xs w hw hp K hK
       simp only [holdsL, List.nil_append, List.cons_append, List.getD_cons_succ, List.getD_cons_zero, if_true, and_true] at hp
       obtain ⟨iv8, h8, hit⟩ := hp
       go_simp
       exact hK _ _ ⟨iv8, rfl, hit⟩ (Grow.refl _)
      refine lexf_says hsz (fun v _ => v = .int .i64 cd) (fun _ _ _ _ h => h) [(4, true)] [(60, 0), (61, 1), (62, 2), (63, 3), (64, 4), (65, 5)] none (by kernel_rfl) (by kernel_rfl) (by kernel_rfl) (by kernel_rfl) rfl ?_ ?_
      ·intro xs w hw hp K hK
       simp only [holdsL, List.nil_append, List.cons_append, List.getD_cons_succ, List.getD_cons_zero, if_true, and_true] at hp
       obtain ⟨iv8, h8, hit⟩ := hp
       go_simp
       exact hK _ _ rfl (Grow.refl _)
      intro xs w hw hp
      have ha0 := HA0.out
      clear HA0 hsz s2 s3 s10
      simp only [holdsL, List.nil_append, List.cons_append, List.getD_cons_succ, List.getD_cons_zero, if_true, and_true] at hp
      have h9 := hp.2.2.2.2.2.1
      have h10 := hp.2.2.2.2.2.2
      clear hp
      subst ha0
      simp only [putAll, h10]
      obtain ⟨iv9, h9, hit⟩ := h9
      simp only [h9]
      obtain ⟨qa, qc, rfl⟩ := itemsS_form hit.1
      have hgw := Grow.trans HGq.out hw.undrew
      have hR := HRw.out _ hgw
      have hbb : Below w_.heap.size w_ w := Grow.trans HG0.out hgw
      obtain ⟨r0, r1, r2, r3, r4, r5, f0, f1, f2, f3, f4, f5⟩ := pgres hR
      have Hset := keep (pgset hR (.int .i64 Q.lsn) (.int .i64 Q.kind) (.int .i64 Q.level) (.int .i64 Q.right) (.string (str Q.high)) (.slice qa Q.items.length qc))
      have Hbut := keep (pgbut w (w_.heap.size + 2) (.int .i64 Q.lsn) (.int .i64 Q.kind) (.int .i64 Q.level) (.int .i64 Q.right) (.string (str Q.high)) (.slice qa Q.items.length qc))
      have Hit := keep hit
      have HR := keep hR
      have Hbb := keep hbb
      have hlt2 := hR.lt
      clear hw h9 h10 hit hR hbb hgw
      unfold pgV
      go_wp2_with fail
      rw [HYes.out]
      refine bodyPost_ret (v := .tuple #[pgV Q (.slice qa Q.items.length qc), .int .i64 cd]) ?_ rfl ⟨_, rfl, itemsC_but Hit.out Hbut.out HR.out (by decide), But.below Hbb.out Hbut.out (by omega) (by omega)⟩
      obtain ⟨s0, s1, s2, s3, s4, s5, _⟩ := pgres Hset.out
      simp [results, Tryz.results52, go_sem, s0, s1, s2, s3, s4, s5, pgV]
end Go.Proofs.YtaninphcgeaepaaGreat
namespace Go.Proofs.YtaninphcgeaepaaGreat
open Go.RowKit
attribute [local simp] eql_entry
attribute [local go_sem] guard_entry
end Go.Proofs.YtaninphcgeaepaaGreat
namespace Go.Proofs.YtaninphcgeaepaaGreat
open Go.RowKit
attribute [local go_sem] givesF_none givesF_some evalF_tmp evalF_const evalF_global evalF_func lookL isB_bool isB_undef givesUpon_value givesUpon_skip givesUpon_enter
attribute [local simp] eql_entry
attribute [local go_sem] guard_entry
def postOk (P : Pg) (e : En) (c : Int) : Bool := openOk P && (!decide (P.level = 0) && (enOk e && (inB c 1 65535 && !(bdN P && decide (0 ≤ cmpE e (hiN P))))))
def postN (P : Pg) (e : En) (c : Int) : Pg × Int := if postOk P e c then (if decide (e ∈ ensN P) then (zeroP, 140) else putN P (posE (ensN P) e) (enBytes e [c])) else (zeroP, 140)
theorem enBytes_more (e : En) (c : Int) (h : enOk e = true) : (enBytes e [c]).length ≤ 90 := by
 have := (enOk_fine h).1
 have h1 := sev_length e.1.length
 have h2 := sevs_length [e.2.1, e.2.2]
 have h3 := sevs_length [c]
 simp [enBytes, txt, sevs] at *
 omega
set_option maxRecDepth 100000 in
set_option maxHeartbeats 4000000 in
theorem rpost_any (P : Pg) (iv : Value) (e : En) (ch : Int) (w_ : World) (hin : PgIn w_ iv P) (hcap : Capd iv) :
  Calls Tryz.prog 55 #[pgV P iv, enV e, .int .i64 ch] w_ (PgPost (postN P e ch).1 (postN P e ch).2 w_) := by
 have hd : postN P e ch = if openOk P && (!decide (P.level = 0) && (enOk e && (inB ch 1 65535 && !(bdN P && decide (0 ≤ cmpE e (hiN P)))))) then (if decide (e ∈ ensN P) then (zeroP, 140) else putN P (posE (ensN P) e) (enBytes e [ch])) else (zeroP, 140) := rfl
 have hky : kidsOk P = (openOk P && !decide (P.level = 0)) := rfl
 have hdh := hiN_dec P
 have hde := fun (u : World) => rdecode_any P.high u (by have := hin.2.2.1; omega)
 have hso := fun (h : openOk P = true) => open_sorted h
 have h255 := fun (h : openOk P = true) => (show (ensN P).length ≤ 255 by rw [ensN_length]; exact (open_fine h).1)
 have hl1 := ensN_length P
 have hpu := fun (u : World) (hi : Items u iv P.items) (h : openOk P = true) (h2 : enOk e = true) => rput14_any P iv (posE (ensN P) e) (enBytes e [ch]) u hi hcap (by rw [← hl1]; exact posE_le _ _) hin.2.1 (by have := enBytes_more _ ch h2; omega) hin.2.2.1 (by have := (open_fine h).1; omega)
 have hsp := fun (u : World) => rsep_any e ch u
 have hsn : enOk e = true → inB ch 1 65535 = true → sepN e ch = (enBytes e [ch], 0) := fun h1 h2 => by unfold sepN; rw [h1, h2]; simp
 have hie := fun (u : World) => rentry_any e u
 have hic := fun (u : World) => rchild_any ch u
 obtain ⟨k, p, s⟩ := e
 obtain ⟨w0, hw0⟩ : ∃ w0, w0 = (((w_.alloc (.cells (pgCells P iv).toArray 24)).alloc (.cells #[.string (str k), .int .i64 p, .int .i64 s] 41)).alloc (.cells #[.int .i64 0, .int .i64 0, .int .i64 0, .int .i64 0, .string ⟨#[]⟩, .slice none 0 0] 24)) := ⟨_, rfl⟩
 have hg0 : Grow w_ w0 := by subst hw0; exact (((Grow.refl w_).alloc _).alloc _).alloc _
 have hP0 : Blk w0 w_.heap.size 24 (pgCells P iv) := by
  have := ((Blk.new w_ 24 (pgCells P iv)).alloc (.cells #[.string (str k), .int .i64 p, .int .i64 s] 41)).alloc (.cells #[.int .i64 0, .int .i64 0, .int .i64 0, .int .i64 0, .string ⟨#[]⟩, .slice none 0 0] 24)
  subst hw0; exact this
 have hE0 : Blk w0 (w_.heap.size + 1) 41 [.string (str k), .int .i64 p, .int .i64 s] := by
  have := (Blk.new (w_.alloc (.cells (pgCells P iv).toArray 24)) 41 [.string (str k), .int .i64 p, .int .i64 s]).alloc (.cells #[.int .i64 0, .int .i64 0, .int .i64 0, .int .i64 0, .string ⟨#[]⟩, .slice none 0 0] 24)
  have e : (w_.alloc (.cells (pgCells P iv).toArray 24)).heap.size = w_.heap.size + 1 := by simp
  rw [e] at this
  subst hw0; exact this
 have hR0 : Blk w0 (w_.heap.size + 2) 24 [.int .i64 0, .int .i64 0, .int .i64 0, .int .i64 0, .string ⟨#[]⟩, .slice none 0 0] := by
  have := Blk.new ((w_.alloc (.cells (pgCells P iv).toArray 24)).alloc (.cells #[.string (str k), .int .i64 p, .int .i64 s] 41)) 24 [.int .i64 0, .int .i64 0, .int .i64 0, .int .i64 0, .string ⟨#[]⟩, .slice none 0 0]
  have e : ((w_.alloc (.cells (pgCells P iv).toArray 24)).alloc (.cells #[.string (str k), .int .i64 p, .int .i64 s] 41)).heap.size = w_.heap.size + 2 := by simp
  rw [e] at this
  subst hw0; exact this
 have hzR := hR0.lt
 have hkd := rkids_any P iv w0 (hin.fits hg0)
 have HIw := keep (fun (u : World) (hu : Grow w0 u) => (Row.fits hin.1 (Grow.trans hg0 hu) : Items u iv P.items))
 obtain ⟨ia, ic, rfl⟩ := items_form hin.1
 unfold pgV enV at *
 dsimp only at hie
 generalize decN P.high = D at *
 obtain ⟨⟨hk, hp, hsl⟩, dc⟩ := D
 dsimp only at hde hdh
 rw [hdh] at hd
 have hcp0 := fun (u : World) => rcompare_any (k, p, s) (hk, hp, hsl) u
 unfold enV at hcp0
 dsimp only at hcp0
 have HPw := keep (fun (u : World) (hu : Grow w0 u) => hP0.fits hu)
 have HEw := keep (fun (u : World) (hu : Grow w0 u) => hE0.fits hu)
 have HRw := keep (fun (u : World) (hu : Grow w0 u) => hR0.fits hu)
 have HKd := keep hkd
 have HD := keep hd
 have HDe := keep hde
 have HCp0 := keep hcp0
 have HSo := keep hso
 have HKy := keep hky
 have H255 := keep h255
 have HPut := keep hpu
 have HSp0 := keep hsp
 have HSn := keep hsn
 have HIe := keep hie
 have HIc := keep hic
 have HG0 := keep hg0
 unfold pgCells at hw0 hP0 HPw
 obtain ⟨p0, p1, p2, p3, p4, p5, _⟩ := pgres hP0
 clear hkd hd hde hdh hcp0 hso hky h255 hpu hsp hsn hie hic hP0 hE0 hR0 hg0 hin hcap hl1
 go_enter Tryz.func55, Tryz.ntmps55
 go_upto_region 1 with fail
 rw [← hw0]
 clear hw0
 go_wp2_with fail
 refine HKd.out.mono ?_
 rintro x w1 hx
 unfold KidsPost at hx
 obtain ⟨hx, hb1⟩ := hx
 have HG1 := keep hb1
 clear p0 p1 p2 p3 p4 p5 HKd hb1
 obtain ⟨e0, e1, e2, _⟩ := enres (HEw.out w1 HG1.out)
 cases hK : kidsOk P with
 | false =>
  rw [hK, if_neg (by decide)] at hx
  subst hx
  have hno : postN P (k, p, s) ch = (zeroP, 140) := by
   rw [HD.out]
   have h1 := HKy.out
   rw [hK] at h1
   rw [← Bool.and_assoc, ← h1, Bool.false_and]
   rfl
  have HNo := keep hno
  clear hK hno e0 e1 e2
  have hR := HRw.out w1 HG1.out
  have hz9 := HG1.out.size
  have Hset := keep (pgset hR (.int .i64 0) (.int .i64 0) (.int .i64 0) (.int .i64 0) (.string ⟨#[]⟩) (.slice none 0 0))
  have Hbut := keep (pgbut w1 (w_.heap.size + 2) (.int .i64 0) (.int .i64 0) (.int .i64 0) (.int .i64 0) (.string ⟨#[]⟩) (.slice none 0 0))
  have hlt2 := hR.lt
  obtain ⟨r0, r1, r2, r3, r4, r5, f0, f1, f2, f3, f4, f5⟩ := pgres hR
  clear hR
  go_wp2_with fail
  rw [HNo.out]
  refine bodyPost_ret (v := .tuple #[pgV zeroP (.slice none 0 0), .int .i64 140]) ?_ rfl ⟨_, rfl, ItemsC.nil _, But.below (Grow.trans HG0.out HG1.out) Hbut.out (by omega) (by omega)⟩
  obtain ⟨s0, s1, s2, s3, s4, s5, _⟩ := pgres Hset.out
  simp [results, Tryz.results55, go_sem, s0, s1, s2, s3, s4, s5, pgV, zeroP]
  rfl
 | true =>
  rw [hK, if_pos rfl] at hx
  obtain ⟨a, c, a2, c2, rfl, hes, hks⟩ := hx
  have h1 := HKy.out
  rw [hK] at h1
  have h2 : openOk P = true ∧ ¬ P.level = 0 := by simpa using h1.symm
  obtain ⟨hO, hlv⟩ := h2
  have hd := HD.out
  rw [hO, decide_eq_false hlv] at hd
  have hso := HSo.out hO
  have h255 := H255.out hO
  have HPut2 := keep (fun (u : World) (hi : Items u _ P.items) (h2 : enOk (k, p, s) = true) => HPut.out u hi hO h2)
  generalize ensN P = L at *
  clear hK h1 HD HSo HKy H255 hlv hO HPut hks
  have HEs := keep hes
  have HDd := keep hd
  have HSo := keep hso
  clear hes hd hso
  generalize kidsN P = KQ at *
  go_wp2_with fail
  refine (HIe.out w1).mono ?_
  rintro x w2 ⟨rfl, hb2⟩
  have HG2 := keep (Grow.trans HG1.out hb2)
  have HB12 := keep hb2
  clear hb2 e0 e1 e2
  cases hA : enOk (k, p, s) with
  | false =>
   have hx := HDd.out
   rw [hA] at hx
   simp only [Bool.and_false, Bool.false_and, Bool.false_eq_true, if_false] at hx
   have HNo := keep hx
   clear hA HDd hx HPut2
   have hR := HRw.out w2 HG2.out
   have hz9 := HG2.out.size
   have Hset := keep (pgset hR (.int .i64 0) (.int .i64 0) (.int .i64 0) (.int .i64 0) (.string ⟨#[]⟩) (.slice none 0 0))
   have Hbut := keep (pgbut w2 (w_.heap.size + 2) (.int .i64 0) (.int .i64 0) (.int .i64 0) (.int .i64 0) (.string ⟨#[]⟩) (.slice none 0 0))
   have hlt2 := hR.lt
   obtain ⟨r0, r1, r2, r3, r4, r5, f0, f1, f2, f3, f4, f5⟩ := pgres hR
   clear hR
   go_wp2_with fail
   rw [HNo.out]
   refine bodyPost_ret (v := .tuple #[pgV zeroP (.slice none 0 0), .int .i64 140]) ?_ rfl ⟨_, rfl, ItemsC.nil _, But.below (Grow.trans HG0.out HG2.out) Hbut.out (by omega) (by omega)⟩
   obtain ⟨s0, s1, s2, s3, s4, s5, _⟩ := pgres Hset.out
   simp [results, Tryz.results55, go_sem, s0, s1, s2, s3, s4, s5, pgV, zeroP]
   rfl
  | true =>
   have hx := HDd.out
   rw [hA] at hx
   have HPut3 := keep (fun (u : World) (hi : Items u _ P.items) => HPut2.out u hi hA)
   have HSn2 := keep (HSn.out hA)
   have HXa := keep hx
   clear HDd HPut2 HSn hA hx
   go_wp2_with fail
   refine (HIc.out w2).mono ?_
   rintro x w2_ ⟨rfl, rfl⟩
   cases hC : inB ch 1 65535 with
   | false =>
    have hx := HXa.out
    rw [hC] at hx
    simp only [Bool.and_false, Bool.false_and, Bool.false_eq_true, if_false] at hx
    have HNo := keep hx
    clear hC hx HPut3 HXa
    have hR := HRw.out w2 HG2.out
    have hz9 := HG2.out.size
    have Hset := keep (pgset hR (.int .i64 0) (.int .i64 0) (.int .i64 0) (.int .i64 0) (.string ⟨#[]⟩) (.slice none 0 0))
    have Hbut := keep (pgbut w2 (w_.heap.size + 2) (.int .i64 0) (.int .i64 0) (.int .i64 0) (.int .i64 0) (.string ⟨#[]⟩) (.slice none 0 0))
    have hlt2 := hR.lt
    obtain ⟨r0, r1, r2, r3, r4, r5, f0, f1, f2, f3, f4, f5⟩ := pgres hR
    clear hR
    go_wp2_with fail
    rw [HNo.out]
    refine bodyPost_ret (v := .tuple #[pgV zeroP (.slice none 0 0), .int .i64 140]) ?_ rfl ⟨_, rfl, ItemsC.nil _, But.below (Grow.trans HG0.out HG2.out) Hbut.out (by omega) (by omega)⟩
    obtain ⟨s0, s1, s2, s3, s4, s5, _⟩ := pgres Hset.out
    simp [results, Tryz.results55, go_sem, s0, s1, s2, s3, s4, s5, pgV, zeroP]
    rfl
   | true =>
    have hx := HXa.out
    rw [hC] at hx
    simp only [Bool.true_and, Bool.not_false] at hx
    have hsq := HSn2.out hC
    have HSep := HSp0
    rw [hsq] at HSep
    have HX0 := keep hx
    clear hC hx HSn2 hsq HSp0 HIc HIe HXa
    obtain ⟨p0, p1, p2, p3, p4, p5, _⟩ := pgres (HPw.out w2 HG2.out)
    go_wp2_with fail
    refine (HDe.out w2).mono ?_
    rintro x w3 ⟨rfl, hb3⟩
    go_upto_region 5 with fail
    obtain ⟨w4, hw4⟩ : ∃ w4, w4 = w3.alloc (.cells #[.string (str hk), .int .i64 hp, .int .i64 hsl] 41) := ⟨_, rfl⟩
    have hb4 : Grow w2 w4 := by subst hw4; exact Grow.alloc hb3 _
    have hH4 : Blk w4 w3.heap.size 41 [.string (str hk), .int .i64 hp, .int .i64 hsl] := by subst hw4; exact Blk.new w3 _ [_, _, _]
    rw [← hw4]
    have HG4 := keep (Grow.trans HG2.out hb4)
    have HB14 := keep (Grow.trans HB12.out hb4)
    clear hw4 hb3 hb4 p0 p1 p2 p3 p4 p5
    obtain ⟨p0, p1, p2, p3, p4, p5, _⟩ := pgres (HPw.out w4 HG4.out)
    obtain ⟨e0, e1, e2, _⟩ := enres (HEw.out w4 HG4.out)
    obtain ⟨d0, d1, d2, _⟩ := enres hH4
    have HH4 := keep hH4
    clear hH4
    go_cut [49] from 41 to 49 (fun sv wx => sv = .bool (bdN P && decide (0 ≤ cmpE (k, p, s) (hk, hp, hsl))) ∧ Grow w4 wx)
    case first =>
     by_cases q1 : P.high = []
     ·have q1' : (str P.high).toList.isEmpty = true := by rw [str_list, q1]; rfl
      have Q1 := keep (show bdN P = false from decide_eq_false fun h => h q1)
      clear q1
      go_wp2_with fail
      all_goals go_meet
      all_goals (case rel => exact ⟨by rw [Q1.out]; rfl, Grow.refl _⟩)
     ·have q1' : (str P.high).toList.isEmpty = false := by rw [str_list]; simpa using q1
      have Q1 := keep (show bdN P = true from decide_eq_true q1)
      clear q1
      go_wp2_with fail
      refine (HCp0.out w4).mono ?_
      rintro x w5 ⟨rfl, hb5⟩
      go_wp2_with fail
      all_goals go_meet
      all_goals (case rel => exact ⟨by rw [Q1.out, Bool.true_and], hb5⟩)
    case rest =>
     obtain ⟨rfl, hb5⟩ := hcut
     clear p0 p1 p2 p3 p4 p5 e0 e1 e2 d0 d1 d2
     generalize wc = w5 at *
     have HG5 := keep (Grow.trans HG4.out hb5)
     have HB15 := keep (Grow.trans HB14.out hb5)
     clear hb5 HH4
     have hx := HX0.out
     generalize (bdN P && decide (0 ≤ cmpE (k, p, s) (hk, hp, hsl))) = BD at *
     cases BD with
     | true =>
      simp only [Bool.not_true, Bool.false_eq_true, if_false] at hx
      have HNo := keep hx
      clear hx HX0 HPut3
      have hR := HRw.out w5 HG5.out
      have hz9 := HG5.out.size
      have Hset := keep (pgset hR (.int .i64 0) (.int .i64 0) (.int .i64 0) (.int .i64 0) (.string ⟨#[]⟩) (.slice none 0 0))
      have Hbut := keep (pgbut w5 (w_.heap.size + 2) (.int .i64 0) (.int .i64 0) (.int .i64 0) (.int .i64 0) (.string ⟨#[]⟩) (.slice none 0 0))
      have hlt2 := hR.lt
      obtain ⟨r0, r1, r2, r3, r4, r5, f0, f1, f2, f3, f4, f5⟩ := pgres hR
      clear hR
      go_wp2_with fail
      rw [HNo.out]
      refine bodyPost_ret (v := .tuple #[pgV zeroP (.slice none 0 0), .int .i64 140]) ?_ rfl ⟨_, rfl, ItemsC.nil _, But.below (Grow.trans HG0.out HG5.out) Hbut.out (by omega) (by omega)⟩
      obtain ⟨s0, s1, s2, s3, s4, s5, _⟩ := pgres Hset.out
      simp [results, Tryz.results55, go_sem, s0, s1, s2, s3, s4, s5, pgV, zeroP]
      rfl
     | false =>
      simp only [Bool.not_false, if_true] at hx
      have HX := keep hx
      clear hx HX0
      have HPi := keep (fun (i : Nat) (hi : i < L.length) => pos_iff (t := (k, p, s)) HSo.out i hi)
      have HMem := keep (mem_pos (t := (k, p, s)) HSo.out)
      have hpl : posE L (k, p, s) ≤ L.length := posE_le _ _
      generalize posE L (k, p, s) = J at *
      go_wp2_with fail
      go_loopw [13] (fun x wr => ∃ n : Nat, n ≤ J ∧ x = .int .i64 n ∧ Kept (Grow w5 wr)) (fun x _ => J - (intOf x).toNat)
      case atStart => exact ⟨0, Nat.zero_le _, rfl, keep (Grow.refl _)⟩
      case round =>
       obtain ⟨n, hn, rfl, HG⟩ := hrel
       by_cases hlt : n < L.length
       ·obtain ⟨ce, offe, cape, ee, hce⟩ := ens_at HEs.out hlt
        simp only [Value.slice.injEq] at ee
        obtain ⟨rfl, x1, x2⟩ := ee
        have hpi := HPi.out n hlt
        have hcp := fun (u : World) => rcompare_any L[n] (k, p, s) u
        obtain ⟨g, hgl⟩ : ∃ g, L[n] = g := ⟨_, rfl⟩
        rw [hgl] at hpi hcp hce
        have HGl := keep hgl
        clear hgl
        obtain ⟨gk, gp, gs⟩ := g
        unfold enV at hcp
        dsimp only at hcp hce
        have HCp := keep hcp
        have HPn := keep hpi
        have HC9 := keep (fun (u : World) (hu : Grow wr.drew u) => hce u (Grow.trans HB15.out (Grow.trans HG.out (Grow.undrew hu))))
        have HE9 := keep (fun (u : World) (hu : Grow wr.drew u) => enres (HEw.out u (Grow.trans HG5.out (Grow.trans HG.out (Grow.undrew hu)))))
        have HCx := keep hce
        clear hcp hpi hce x1 x2
        go_upto_region 8 with fail
        refine wp_region_grow_named (by kernel_rfl) 12 (by kernel_rfl) [(51, 0), (52, 1), (53, 2), (54, 3), (55, 4), (56, 5), (57, 6), (58, 7), (59, 8), (60, 9), (61, 10), (62, 11)] (by kernel_rfl) [(0, true), (1, true), (2, true), (3, true), (4, true), (5, true), (6, true), (7, true), (8, true), (9, true), (10, true), (11, true)] (by kernel_rfl) rfl rfl ?_
        intro a0 ha0
        have hsz : a0.tmps.size = 91 := (size_at ha0).trans rfl
        have s4 := slot_at ha0 4 rfl
        have s8 := slot_at ha0 8 rfl
        have s13 := slot_at ha0 13 rfl
        have HA0 := keep ha0
        clear ha0
        apply lq hsz [] [(52, 1), (53, 2), (55, 4), (56, 5), (57, 6), (58, 7), (59, 8), (60, 9), (61, 10), (62, 11), (63, 12)] none (by kernel_rfl) rfl
        ·intro xs w hw hp K hK
         go_simp
         exact hK _ (Grow.refl _)
        apply lq hsz [] [(51, 0), (54, 3), (55, 4), (56, 5), (57, 6), (58, 7), (59, 8), (60, 9), (61, 10), (62, 11), (63, 12)] none (by kernel_rfl) rfl
        ·intro xs w hw hp K hK
         go_simp
         exact hK _ (Grow.refl _)
        apply lq hsz [(1, true)] [(51, 0), (52, 1), (55, 4), (56, 5), (57, 6), (58, 7), (59, 8), (60, 9), (61, 10), (62, 11), (63, 12)] none (by kernel_rfl) rfl
        ·intro xs w hw hp K hK
         simp only [holdsL, List.nil_append, List.cons_append, List.getD_cons_succ, List.getD_cons_zero, if_true, and_true] at hp
         go_simp
         exact hK _ (Grow.refl _)
        apply lq hsz [(0, true), (2, true)] [(51, 0), (52, 1), (53, 2), (56, 5), (57, 6), (58, 7), (59, 8), (60, 9), (61, 10), (62, 11), (63, 12)] none (by kernel_rfl) rfl
        ·intro xs w hw hp K hK
         simp only [holdsL, List.nil_append, List.cons_append, List.getD_cons_succ, List.getD_cons_zero, if_true, and_true] at hp
         have q2 : (n : Int) < (L.length : Int) := by omega
         go_simp
         exact hK _ (Grow.refl _)
        apply lq hsz [(3, true)] [(51, 0), (52, 1), (53, 2), (54, 3)] none (by kernel_rfl) rfl
        ·intro xs w hw hp K hK
         simp only [holdsL, List.nil_append, List.cons_append, List.getD_cons_succ, List.getD_cons_zero, if_true, and_true] at hp
         go_simp
         exact hK _ (Grow.refl _)
        apply lq hsz [(4, true)] [(51, 0), (52, 1), (53, 2), (54, 3), (55, 4), (57, 6), (59, 8), (60, 9), (61, 10), (62, 11), (63, 12)] (some (55, true)) (by kernel_rfl) rfl
        ·intro xs w hw hp K hK
         simp only [holdsL, List.nil_append, List.cons_append, List.getD_cons_succ, List.getD_cons_zero, if_true, and_true] at hp
         go_simp
         exact hK _ (Grow.refl _)
        apply lq hsz [(4, true)] [(51, 0), (52, 1), (53, 2), (54, 3), (55, 4), (56, 5), (59, 8), (60, 9), (61, 10), (62, 11), (63, 12)] (some (55, true)) (by kernel_rfl) rfl
        ·intro xs w hw hp K hK
         simp only [holdsL, List.nil_append, List.cons_append, List.getD_cons_succ, List.getD_cons_zero, if_true, and_true] at hp
         go_simp
         exact hK _ (Grow.refl _)
        apply lq hsz [(4, true), (5, true), (6, true)] [(51, 0), (52, 1), (53, 2), (54, 3), (55, 4), (56, 5), (57, 6), (60, 9), (61, 10), (62, 11), (63, 12)] (some (55, true)) (by kernel_rfl) rfl
        ·intro xs w hw hp K hK
         simp only [holdsL, List.nil_append, List.cons_append, List.getD_cons_succ, List.getD_cons_zero, if_true, and_true] at hp
         have q2 : (n : Int) < (L.length : Int) := by omega
         go_simp
         exact hK _ (Grow.refl _)
        apply lq hsz [(4, true), (7, true)] [(51, 0), (52, 1), (53, 2), (54, 3), (55, 4), (56, 5), (57, 6), (58, 7), (60, 9), (62, 11), (63, 12)] (some (55, true)) (by kernel_rfl) rfl
        ·intro xs w hw hp K hK
         simp only [holdsL, List.nil_append, List.cons_append, List.getD_cons_succ, List.getD_cons_zero, if_true, and_true] at hp
         obtain ⟨c0, c1, c2⟩ := HC9.out w hw
         go_simp
         exact hK _ (Grow.refl _)
        apply lq hsz [(4, true)] [(51, 0), (52, 1), (53, 2), (54, 3), (55, 4), (56, 5), (57, 6), (58, 7), (59, 8), (62, 11), (63, 12)] (some (55, true)) (by kernel_rfl) rfl
        ·intro xs w hw hp K hK
         simp only [holdsL, List.nil_append, List.cons_append, List.getD_cons_succ, List.getD_cons_zero, if_true, and_true] at hp
         obtain ⟨c0, c1, c2, _⟩ := HE9.out w hw
         go_simp
         exact hK _ (Grow.refl _)
        apply lq hsz [(4, true), (8, true), (9, true)] [(51, 0), (52, 1), (53, 2), (54, 3), (55, 4), (56, 5), (57, 6), (58, 7), (59, 8), (60, 9), (63, 12)] (some (55, true)) (by kernel_rfl) rfl
        ·intro xs w hw hp K hK
         simp only [holdsL, List.nil_append, List.cons_append, List.getD_cons_succ, List.getD_cons_zero, if_true, and_true] at hp
         go_simp
         exact (HCp.out w).mono fun e w' h => ⟨_, h.1, hK _ h.2⟩
        apply lq hsz [(4, true), (10, true)] [(51, 0), (52, 1), (53, 2), (54, 3), (55, 4), (56, 5), (57, 6), (58, 7), (59, 8), (60, 9), (61, 10)] (some (55, true)) (by kernel_rfl) rfl
        ·intro xs w hw hp K hK
         simp only [holdsL, List.nil_append, List.cons_append, List.getD_cons_succ, List.getD_cons_zero, if_true, and_true] at hp
         go_simp
         exact hK _ (Grow.refl _)
        intro xs w hw hp
        have ha0 := HA0.out
        clear HA0 hsz s4 s8 s13
        simp only [holdsL, List.nil_append, List.cons_append, List.getD_cons_succ, List.getD_cons_zero, if_true, and_true] at hp
        have h4 := hp.2.2.2.2.1
        have h11 := hp.2.2.2.2.2.2.2.2.2.2.2
        clear hp
        subst ha0
        simp only [putAll, h4, h11]
        have hg9 := Grow.undrew hw
        have HG9 := keep (Grow.trans HG.out hg9)
        clear hw h4 h11 HC9 HE9 hg9
        by_cases hlow : cmpE (gk, gp, gs) (k, p, s) < 0
        ·have hnj : n < J := HPn.out.1 hlow
         go_wp2_with fail
         go_roundw
         case rel => exact ⟨n + 1, by omega, by go_num, HG9⟩
         case measure => simp [intOf]; omega
        ·have hnj : n = J := by
          rcases Nat.lt_or_ge n J with h | h
          ·exact absurd (HPn.out.2 h) hlow
          ·omega
         subst hnj
         have HMm : Kept (decide ((k, p, s) ∈ L) = sameE (gk, gp, gs) (k, p, s)) := keep (by
          unfold sameE
          rw [← HGl.out]
          exact decide_eq_decide.2 (HMem.out.trans ⟨fun ⟨a, b⟩ => b, fun b => ⟨hlt, b⟩⟩))
         have HG10 := keep (Grow.trans HG5.out HG9.out)
         have q2 : (n : Int) < (L.length : Int) := by omega
         obtain ⟨c0, c1, c2⟩ := HCx.out w (Grow.trans HB15.out HG9.out)
         obtain ⟨e0, e1, e2, _⟩ := enres (HEw.out w HG10.out)
         go_upto_region 10 with fail
         clear hlow
         have hx := HX.out
         rw [HMm.out] at hx
         generalize hS : sameE (gk, gp, gs) (k, p, s) = S at *
         cases S with
         | true =>
          have HNo := keep (show postN P (k, p, s) ch = (zeroP, 140) from hx)
          clear hx HX HMm
          go_quiet (fail)
          clear c0 c1 c2 e0 e1 e2 hS q2
          generalize hwq : w.drewN _ = wq at *
          have HGq := keep (show Grow w0 wq by subst hwq; exact Grow.trans HG10.out (below_drewN (Grow.refl _) _))
          clear hwq
          have hR := HRw.out wq HGq.out
          have hz9 := HGq.out.size
          have Hset := keep (pgset hR (.int .i64 0) (.int .i64 0) (.int .i64 0) (.int .i64 0) (.string ⟨#[]⟩) (.slice none 0 0))
          have Hbut := keep (pgbut wq (w_.heap.size + 2) (.int .i64 0) (.int .i64 0) (.int .i64 0) (.int .i64 0) (.string ⟨#[]⟩) (.slice none 0 0))
          have hlt2 := hR.lt
          obtain ⟨r0, r1, r2, r3, r4, r5, f0, f1, f2, f3, f4, f5⟩ := pgres hR
          clear hR
          go_wp2_with fail
          rw [HNo.out]
          refine bodyPost_ret (v := .tuple #[pgV zeroP (.slice none 0 0), .int .i64 140]) ?_ rfl ⟨_, rfl, ItemsC.nil _, But.below (Grow.trans HG0.out HGq.out) Hbut.out (by omega) (by omega)⟩
          obtain ⟨s0, s1, s2, s3, s4, s5, _⟩ := pgres Hset.out
          simp [results, Tryz.results55, go_sem, s0, s1, s2, s3, s4, s5, pgV, zeroP]
          rfl
         | false =>
          have hx2 : postN P (k, p, s) ch = putN P n (enBytes (k, p, s) [ch]) := hx
          generalize putN P n (enBytes (k, p, s) [ch]) = R at *
          obtain ⟨Q, cd⟩ := R
          dsimp only at HPut3
          have HYes := keep hx2
          have HPu := HPut3
          unfold PgPost pgV at HPu
          clear hx hx2 HX HMm HPut3
          go_quiet (fail)
          clear c0 c1 c2 e0 e1 e2 hS q2
          generalize hwq : w.drewN _ = wq at *
          have HGq := keep (show Grow w0 wq by subst hwq; exact Grow.trans HG10.out (below_drewN (Grow.refl _) _))
          clear hwq
          obtain ⟨e0, e1, e2, _⟩ := enres (HEw.out wq HGq.out)
          go_wp2_with fail
          refine (HSep.out wq).mono ?_
          rintro x ws ⟨rfl, hbs⟩
          have HGs := keep (Grow.trans HGq.out hbs)
          clear hbs e0 e1 e2
          obtain ⟨p0, p1, p2, p3, p4, p5, _⟩ := pgres (HPw.out ws HGs.out)
          go_wp2_with fail
          refine (HPu.out ws (HIw.out ws HGs.out)).mono ?_
          rintro x w ⟨iv9, rfl, hit, hb9⟩
          clear p0 p1 p2 p3 p4 p5
          obtain ⟨qa, qc, rfl⟩ := itemsS_form hit.1
          have hgw := Grow.trans HGs.out hb9
          have hR := HRw.out _ hgw
          have hbb : Below w_.heap.size w_ w := Grow.trans HG0.out hgw
          obtain ⟨r0, r1, r2, r3, r4, r5, f0, f1, f2, f3, f4, f5⟩ := pgres hR
          have Hset := keep (pgset hR (.int .i64 Q.lsn) (.int .i64 Q.kind) (.int .i64 Q.level) (.int .i64 Q.right) (.string (str Q.high)) (.slice qa Q.items.length qc))
          have Hbut := keep (pgbut w (w_.heap.size + 2) (.int .i64 Q.lsn) (.int .i64 Q.kind) (.int .i64 Q.level) (.int .i64 Q.right) (.string (str Q.high)) (.slice qa Q.items.length qc))
          have Hit := keep hit
          have HR := keep hR
          have Hbb := keep hbb
          have hlt2 := hR.lt
          clear hb9 hit hR hbb hgw
          go_wp2_with fail
          rw [HYes.out]
          refine bodyPost_ret (v := .tuple #[pgV Q (.slice qa Q.items.length qc), .int .i64 cd]) ?_ rfl ⟨_, rfl, itemsC_but Hit.out Hbut.out HR.out (by decide), But.below Hbb.out Hbut.out (by omega) (by omega)⟩
          obtain ⟨s0, s1, s2, s3, s4, s5, _⟩ := pgres Hset.out
          simp [results, Tryz.results55, go_sem, s0, s1, s2, s3, s4, s5, pgV]
       ·have hnj : n = L.length := by omega
        have hJ : J = L.length := by omega
        subst hnj hJ
        have hx := HX.out
        rw [decide_eq_false (show ¬ (k, p, s) ∈ L from fun h => by obtain ⟨a, _⟩ := HMem.out.1 h; omega)] at hx
        have hx2 : postN P (k, p, s) ch = putN P L.length (enBytes (k, p, s) [ch]) := hx
        generalize putN P L.length (enBytes (k, p, s) [ch]) = R at *
        obtain ⟨Q, cd⟩ := R
        dsimp only at HPut3
        have HYes := keep hx2
        have HPu := HPut3
        unfold PgPost pgV at HPu
        have HG10 := keep (Grow.trans HG5.out HG.out)
        clear hx hx2 HX HPut3
        go_upto_region 8 with fail
        go_quiet (fail)
        generalize hwp : wr.drewN _ = wp at *
        have HGp := keep (show Grow w0 wp by subst hwp; exact Grow.trans HG10.out (below_drewN (Grow.refl _) _))
        clear hwp
        go_upto_region 10 with fail
        go_quiet (fail)
        generalize hwq : wp.drewN _ = wq at *
        have HGq := keep (show Grow w0 wq by subst hwq; exact Grow.trans HGp.out (below_drewN (Grow.refl _) _))
        clear hwq
        obtain ⟨e0, e1, e2, _⟩ := enres (HEw.out wq HGq.out)
        go_wp2_with fail
        refine (HSep.out wq).mono ?_
        rintro x ws ⟨rfl, hbs⟩
        have HGs := keep (Grow.trans HGq.out hbs)
        clear hbs e0 e1 e2
        obtain ⟨p0, p1, p2, p3, p4, p5, _⟩ := pgres (HPw.out ws HGs.out)
        go_wp2_with fail
        refine (HPu.out ws (HIw.out ws HGs.out)).mono ?_
        rintro x w ⟨iv9, rfl, hit, hb9⟩
        clear p0 p1 p2 p3 p4 p5
        obtain ⟨qa, qc, rfl⟩ := itemsS_form hit.1
        have hgw := Grow.trans HGs.out hb9
        have hR := HRw.out _ hgw
        have hbb : Below w_.heap.size w_ w := Grow.trans HG0.out hgw
        obtain ⟨r0, r1, r2, r3, r4, r5, f0, f1, f2, f3, f4, f5⟩ := pgres hR
        have Hset := keep (pgset hR (.int .i64 Q.lsn) (.int .i64 Q.kind) (.int .i64 Q.level) (.int .i64 Q.right) (.string (str Q.high)) (.slice qa Q.items.length qc))
        have Hbut := keep (pgbut w (w_.heap.size + 2) (.int .i64 Q.lsn) (.int .i64 Q.kind) (.int .i64 Q.level) (.int .i64 Q.right) (.string (str Q.high)) (.slice qa Q.items.length qc))
        have Hit := keep hit
        have HR := keep hR
        have Hbb := keep hbb
        have hlt2 := hR.lt
        clear hb9 hit hR hbb hgw
        go_wp2_with fail
        rw [HYes.out]
        refine bodyPost_ret (v := .tuple #[pgV Q (.slice qa Q.items.length qc), .int .i64 cd]) ?_ rfl ⟨_, rfl, itemsC_but Hit.out Hbut.out HR.out (by decide), But.below Hbb.out Hbut.out (by omega) (by omega)⟩
        obtain ⟨s0, s1, s2, s3, s4, s5, _⟩ := pgres Hset.out
        simp [results, Tryz.results55, go_sem, s0, s1, s2, s3, s4, s5, pgV]
end Go.Proofs.YtaninphcgeaepaaGreat
namespace Go.Proofs.YtaninphcgeaepaaGreat
open Go.RowKit
attribute [local go_sem] givesF_none givesF_some evalF_tmp evalF_const evalF_global evalF_func lookL isB_bool isB_undef givesUpon_value givesUpon_skip givesUpon_enter
set_option maxRecDepth 100000 in
set_option maxHeartbeats 4000000 in
theorem post_any (P : Pg) (iv : Value) (e : En) (ch : Int) (w_ : World) (hin : PgIn w_ iv P) :
  Calls Tryz.prog 50 #[pgV P iv, enV e, .int .i64 ch] w_ (PgPost (postN P e ch).1 (postN P e ch).2 w_) := by
 have hd : postN P e ch = if openOk P && (!decide (P.level = 0) && (enOk e && (inB ch 1 65535 && !(bdN P && decide (0 ≤ cmpE e (hiN P)))))) then (if decide (e ∈ ensN P) then (zeroP, 140) else putN P (posE (ensN P) e) (enBytes e [ch])) else (zeroP, 140) := rfl
 have hso := fun (h : openOk P = true) => open_sorted h
 have h255 := fun (h : openOk P = true) => (show (ensN P).length ≤ 255 by rw [ensN_length]; exact (open_fine h).1)
 have hl1 := ensN_length P
 have hpu := fun (u : World) (hi : Items u iv P.items) (h : openOk P = true) (h2 : enOk e = true) => put_any P iv (posE (ensN P) e) (enBytes e [ch]) u hi (by rw [← hl1]; exact posE_le _ _) hin.2.1 (by have := enBytes_more _ ch h2; omega) hin.2.2.1 (by have := (open_fine h).1; omega)
 have hby := fun (u : World) (mv : Value) (hm : IntsS u mv [ch]) (h : enOk e = true) (hl : inB ch 1 65535 = true) => bytes_any e mv [ch] u (enOk_fine h) hm (by simp [inB] at hl ⊢; omega) (by simp)
 have hie := fun (u : World) => isEntry_any e u
 have hic := fun (u : World) => isChild_any ch u
 have hcp := fun (b : En) (u : World) => compare_any e b u
 have hse := fun (l : List En) (v : Value) (u : World) (h : EnsS u v l) (hl : l.length ≤ 1759218604441) (hs : Sorted l) => search_any e l v u h hl hs
 obtain ⟨k, p, s⟩ := e
 obtain ⟨w0, hw0⟩ : ∃ w0, w0 = (((w_.alloc (.cells (pgCells P iv).toArray 24)).alloc (.cells #[.string (str k), .int .i64 p, .int .i64 s] 41)).alloc (.cells #[.int .i64 0, .int .i64 0, .int .i64 0, .int .i64 0, .string ⟨#[]⟩, .slice none 0 0] 24)) := ⟨_, rfl⟩
 have hg0 : Grow w_ w0 := by subst hw0; exact (((Grow.refl w_).alloc _).alloc _).alloc _
 have hP0 : Blk w0 w_.heap.size 24 (pgCells P iv) := by
  have := ((Blk.new w_ 24 (pgCells P iv)).alloc (.cells #[.string (str k), .int .i64 p, .int .i64 s] 41)).alloc (.cells #[.int .i64 0, .int .i64 0, .int .i64 0, .int .i64 0, .string ⟨#[]⟩, .slice none 0 0] 24)
  subst hw0; exact this
 have hE0 : Blk w0 (w_.heap.size + 1) 41 [.string (str k), .int .i64 p, .int .i64 s] := by
  have := (Blk.new (w_.alloc (.cells (pgCells P iv).toArray 24)) 41 [.string (str k), .int .i64 p, .int .i64 s]).alloc (.cells #[.int .i64 0, .int .i64 0, .int .i64 0, .int .i64 0, .string ⟨#[]⟩, .slice none 0 0] 24)
  have e : (w_.alloc (.cells (pgCells P iv).toArray 24)).heap.size = w_.heap.size + 1 := by simp
  rw [e] at this
  subst hw0; exact this
 have hR0 : Blk w0 (w_.heap.size + 2) 24 [.int .i64 0, .int .i64 0, .int .i64 0, .int .i64 0, .string ⟨#[]⟩, .slice none 0 0] := by
  have := Blk.new ((w_.alloc (.cells (pgCells P iv).toArray 24)).alloc (.cells #[.string (str k), .int .i64 p, .int .i64 s] 41)) 24 [.int .i64 0, .int .i64 0, .int .i64 0, .int .i64 0, .string ⟨#[]⟩, .slice none 0 0]
  have e : ((w_.alloc (.cells (pgCells P iv).toArray 24)).alloc (.cells #[.string (str k), .int .i64 p, .int .i64 s] 41)).heap.size = w_.heap.size + 2 := by simp
  rw [e] at this
  subst hw0; exact this
 have hzR := hR0.lt
 have hop := opened_pg (hin.fits hg0)
 have HIw := keep (fun (u : World) (hu : Grow w0 u) => (Row.fits hin.1 (Grow.trans hg0 hu) : Items u iv P.items))
 obtain ⟨ia, ic, rfl⟩ := items_form hin.1
 unfold pgV enV at *
 dsimp only at hie hcp hse
 have HPw := keep (fun (u : World) (hu : Grow w0 u) => hP0.fits hu)
 have HEw := keep (fun (u : World) (hu : Grow w0 u) => hE0.fits hu)
 have HRw := keep (fun (u : World) (hu : Grow w0 u) => hR0.fits hu)
 have HOp := keep hop
 have HD := keep hd
 have HCp := keep hcp
 have HSo := keep hso
 have H255 := keep h255
 have HPut := keep hpu
 have HBy0 := keep hby
 have HIe := keep hie
 have HIc := keep hic
 have HSe := keep hse
 have HG0 := keep hg0
 unfold pgCells at hw0 hP0 HPw
 obtain ⟨p0, p1, p2, p3, p4, p5, _⟩ := pgres hP0
 clear hop hd hcp hso h255 hpu hby hie hic hse hP0 hE0 hR0 hg0 hin hl1
 go_enter Tryz.func50, Tryz.ntmps50
 go_upto_region 1 with fail
 rw [← hw0]
 clear hw0
 go_wp2_with fail
 refine HOp.out.mono ?_
 rintro x w1 ⟨a1, n1, c1, a2, n2, c2, hi, bd, ok, rfl, hok, hyes, hb1⟩
 clear p0 p1 p2 p3 p4 p5
 obtain ⟨w2, hw2⟩ : ∃ w2, w2 = w1.alloc (.cells #[.slice a1 n1 c1, .slice a2 n2 c2, .string (str hi.1), .int .i64 hi.2.1, .int .i64 hi.2.2, .bool bd] 97) := ⟨_, rfl⟩
 have hg2 : Grow w0 w2 := by subst hw2; exact Grow.alloc hb1 _
 have hO2 : Blk w2 w1.heap.size 97 [.slice a1 n1 c1, .slice a2 n2 c2, .string (str hi.1), .int .i64 hi.2.1, .int .i64 hi.2.2, .bool bd] := by subst hw2; exact Blk.new w1 _ [_, _, _, _, _, _]
 have hyes2 : ok = true → EnsS w2 (.slice a1 n1 c1) (ensN P) ∧ hi = hiN P ∧ bd = bdN P := fun h => ⟨by subst hw2; exact RowS.fits (hyes h).1 ((Grow.refl _).alloc _), (hyes h).2.2⟩
 have HYes := keep hyes2
 have HOk := keep hok
 have HO2 := keep hO2
 have HG2 := keep hg2
 clear hyes hyes2 hok hb1 hO2 hg2
 go_upto_region 2 with fail
 rw [← hw2]
 clear hw2
 obtain ⟨hik, hip, his⟩ := hi
 dsimp only at HO2
 have hcpx := HCp.out (hik, hip, his)
 unfold enV at hcpx
 dsimp only at hcpx
 have HCx := keep hcpx
 clear hcpx
 obtain ⟨p0, p1, p2, p3, p4, p5, _⟩ := pgres (HPw.out w2 HG2.out)
 obtain ⟨e0, e1, e2, _⟩ := enres (HEw.out w2 HG2.out)
 go_cut [44] from 17 to 44 (fun sv wx => sv = .bool (!(ok && (!decide (P.level = 0) && (enOk (k, p, s) && (inB ch 1 65535 && !(bd && decide (0 ≤ cmpE (k, p, s) (hik, hip, his)))))))) ∧ Grow w2 wx)
 case first =>
  cases ok with
  | false =>
   go_wp2_with fail
   all_goals go_meet
   all_goals (case rel => exact ⟨rfl, Grow.refl _⟩)
  | true =>
   by_cases hlv : P.level = 0
   ·have hlv2 : (P.level == 0) = true := by simp [hlv]
    have HLv := keep (decide_eq_true hlv)
    clear hlv
    go_wp2_with fail
    all_goals go_meet
    all_goals (case rel => exact ⟨by rw [HLv.out]; rfl, Grow.refl _⟩)
   ·have hlv2 : (P.level == 0) = false := by simp [hlv]
    have HLv := keep (decide_eq_false hlv)
    clear hlv
    go_wp2_with fail
    refine (HIe.out w2).mono ?_
    rintro x w3 ⟨rfl, hb3⟩
    cases hA : enOk (k, p, s) with
    | false =>
     have HA := keep hA
     clear hA
     go_wp2_with fail
     all_goals go_meet
     all_goals (case rel => exact ⟨by rw [HLv.out, HA.out]; rfl, hb3⟩)
    | true =>
     have HA := keep hA
     clear hA
     have HB3 := keep hb3
     have HG3 := keep (Grow.trans HG2.out hb3)
     clear hb3 e0 e1 e2
     obtain ⟨e0, e1, e2, _⟩ := enres (HEw.out w3 HG3.out)
     have hO3 := HO2.out.fits HB3.out
     obtain ⟨o0, o1, o2, o3, o4, o5, _⟩ := pgres hO3
     clear hO3
     go_wp2_with fail
     refine (HIc.out w3).mono ?_
     rintro x w3_ ⟨rfl, rfl⟩
     cases hC : inB ch 1 65535 with
     | false =>
      have HC := keep hC
      clear hC
      go_wp2_with fail
      all_goals go_meet
      all_goals (case rel => exact ⟨by rw [HLv.out, HA.out, HC.out]; rfl, HB3.out⟩)
     | true =>
      have HC := keep hC
      clear hC
      cases bd with
      | false =>
       go_wp2_with fail
       all_goals go_meet
       all_goals (case rel => exact ⟨by rw [HLv.out, HA.out, HC.out]; rfl, HB3.out⟩)
      | true =>
       go_wp2_with fail
       refine (HCx.out w3).mono ?_
       rintro x w4 ⟨rfl, hb4⟩
       go_wp2_with fail
       all_goals go_meet
       all_goals (case rel => exact ⟨by rw [HLv.out, HA.out, HC.out]; simp, Grow.trans HB3.out hb4⟩)
 case rest =>
  obtain ⟨rfl, hg3⟩ := hcut
  clear p0 p1 p2 p3 p4 p5 e0 e1 e2
  generalize wc = w3 at *
  have HG3 := keep (Grow.trans HG2.out hg3)
  generalize hM : (ok && (!decide (P.level = 0) && (enOk (k, p, s) && (inB ch 1 65535 && !(bd && decide (0 ≤ cmpE (k, p, s) (hik, hip, his))))))) = M
  cases M with
  | false =>
   have hno : postN P (k, p, s) ch = (zeroP, 140) := by
    rw [HD.out, ← HOk.out]
    cases ok with
    | false => rfl
    | true =>
     obtain ⟨_, h2, h3⟩ := HYes.out rfl
     rw [← h2, ← h3, hM]
     rfl
   have HNo := keep hno
   clear hM hno hg3
   have hR := HRw.out w3 HG3.out
   have hz9 := HG3.out.size
   have Hset := keep (pgset hR (.int .i64 0) (.int .i64 0) (.int .i64 0) (.int .i64 0) (.string ⟨#[]⟩) (.slice none 0 0))
   have Hbut := keep (pgbut w3 (w_.heap.size + 2) (.int .i64 0) (.int .i64 0) (.int .i64 0) (.int .i64 0) (.string ⟨#[]⟩) (.slice none 0 0))
   have hlt2 := hR.lt
   obtain ⟨r0, r1, r2, r3, r4, r5, f0, f1, f2, f3, f4, f5⟩ := pgres hR
   clear hR
   go_wp2_with fail
   rw [HNo.out]
   refine bodyPost_ret (v := .tuple #[pgV zeroP (.slice none 0 0), .int .i64 140]) ?_ rfl ⟨_, rfl, ItemsC.nil _, But.below (Grow.trans HG0.out HG3.out) Hbut.out (by omega) (by omega)⟩
   obtain ⟨s0, s1, s2, s3, s4, s5, _⟩ := pgres Hset.out
   simp [results, Tryz.results50, go_sem, s0, s1, s2, s3, s4, s5, pgV, zeroP]
   rfl
  | true =>
   have hm : ok = true ∧ ¬ P.level = 0 ∧ enOk (k, p, s) = true ∧ inB ch 1 65535 = true ∧ (bd && decide (0 ≤ cmpE (k, p, s) (hik, hip, his))) = false := by
    have h9 := hM
    simp only [Bool.and_eq_true, Bool.not_eq_true', decide_eq_false_iff_not] at h9
    exact h9
   obtain ⟨rfl, hlv, hen, hch, hbe⟩ := hm
   obtain ⟨hes, hhi, rfl⟩ := HYes.out rfl
   have hes3 : EnsS w3 (.slice a1 n1 c1) (ensN P) := RowS.fits hes hg3
   have hopen : openOk P = true := HOk.out.symm
   have hd2 : postN P (k, p, s) ch = if decide ((k, p, s) ∈ ensN P) then (zeroP, 140) else putN P (posE (ensN P) (k, p, s)) (enBytes (k, p, s) [ch]) := by
    rw [HD.out, hopen, ← hhi, hM, if_pos rfl]
   have hsc := HSe.out (ensN P) (.slice a1 n1 c1) w3 hes3 (by have := H255.out hopen; omega) (HSo.out hopen)
   have hO3 := HO2.out.fits hg3
   obtain ⟨e0, e1, e2, _⟩ := enres (HEw.out w3 HG3.out)
   obtain ⟨o0, o1, o2, o3, o4, o5, _⟩ := pgres hO3
   have HSc := keep hsc
   have HD2 := keep hd2
   have HBy := keep (fun (u : World) (mv : Value) (hm : IntsS u mv [ch]) => HBy0.out u mv hm hen hch)
   have HPut3 := keep (fun (u : World) (hi : Items u _ P.items) => HPut.out u hi hopen hen)
   clear hM hlv hen hch hbe hes hes3 hopen hd2 hsc hg3 hO3 hhi HD HPut HBy0 HYes
   go_wp2_with fail
   refine HSc.out.mono ?_
   rintro x w4 ⟨rfl, hb4⟩
   clear e0 e1 e2 o0 o1 o2 o3 o4 o5
   have HG4 := keep (Grow.trans HG3.out hb4)
   clear hb4
   have hd3 := HD2.out
   generalize decide ((k, p, s) ∈ ensN P) = F at *
   cases F with
   | true =>
    have HNo := keep (show postN P (k, p, s) ch = (zeroP, 140) from hd3)
    clear hd3
    have hR := HRw.out w4 HG4.out
    have hz9 := HG4.out.size
    have Hset := keep (pgset hR (.int .i64 0) (.int .i64 0) (.int .i64 0) (.int .i64 0) (.string ⟨#[]⟩) (.slice none 0 0))
    have Hbut := keep (pgbut w4 (w_.heap.size + 2) (.int .i64 0) (.int .i64 0) (.int .i64 0) (.int .i64 0) (.string ⟨#[]⟩) (.slice none 0 0))
    have hlt2 := hR.lt
    obtain ⟨r0, r1, r2, r3, r4, r5, f0, f1, f2, f3, f4, f5⟩ := pgres hR
    clear hR
    go_wp2_with fail
    rw [HNo.out]
    refine bodyPost_ret (v := .tuple #[pgV zeroP (.slice none 0 0), .int .i64 140]) ?_ rfl ⟨_, rfl, ItemsC.nil _, But.below (Grow.trans HG0.out HG4.out) Hbut.out (by omega) (by omega)⟩
    obtain ⟨s0, s1, s2, s3, s4, s5, _⟩ := pgres Hset.out
    simp [results, Tryz.results50, go_sem, s0, s1, s2, s3, s4, s5, pgV, zeroP]
    rfl
   | false =>
    have hd4 : postN P (k, p, s) ch = putN P (posE (ensN P) (k, p, s)) (enBytes (k, p, s) [ch]) := hd3
    generalize putN P (posE (ensN P) (k, p, s)) (enBytes (k, p, s) [ch]) = R at *
    obtain ⟨Q, cd⟩ := R
    dsimp only at HPut3
    have HYes := keep hd4
    have HPu := HPut3
    unfold PgPost pgV at HPu
    clear hd3 hd4 HD2 HPut3
    have HP7 := keep (fun (u : World) (hu : Grow w4.drew u) => (HPw.out _ (Grow.trans HG4.out (Grow.undrew hu))))
    have HE7 := keep (fun (u : World) (hu : Grow w4.drew u) => (HEw.out _ (Grow.trans HG4.out (Grow.undrew hu))))
    have HI7 := keep (fun (u : World) (hu : Grow w4.drew u) => (HIw.out _ (Grow.trans HG4.out (Grow.undrew hu))))
    go_upto_region 7 with fail
    refine wp_region_grow_named (by kernel_rfl) 9 (by kernel_rfl) [(55, 0), (56, 1), (57, 2), (58, 3), (59, 4), (60, 5), (61, 6), (62, 7), (63, 8)] (by kernel_rfl) [(0, true), (1, true), (2, true), (3, true), (4, true), (5, true), (6, true), (7, true), (8, true)] (by kernel_rfl) rfl rfl ?_
    intro a0 ha0
    have hsz : a0.tmps.size = 64 := (size_at ha0).trans rfl
    have s2 := slot_at ha0 2 rfl
    have s3 := slot_at ha0 3 rfl
    have s4 := slot_at ha0 4 rfl
    have s10 := slot_at ha0 10 rfl
    have HA0 := keep ha0
    clear ha0
    apply lq hsz [] [(56, 1), (57, 2), (58, 3), (59, 4), (60, 5), (62, 7), (63, 8)] none (by kernel_rfl) rfl
    ·intro xs w hw hp K hK
     obtain ⟨p0, p1, p2, p3, p4, p5, _⟩ := pgres (HP7.out w hw)
     go_simp
     exact hK _ (Grow.refl _)
    apply lq hsz [] [(55, 0), (57, 2), (58, 3), (59, 4), (60, 5), (62, 7), (63, 8)] none (by kernel_rfl) rfl
    ·intro xs w hw hp K hK
     go_simp
     exact hK _ (Grow.refl _)
    apply lq hsz [] [(55, 0), (56, 1), (58, 3), (59, 4), (61, 6), (62, 7), (63, 8)] none (by kernel_rfl) rfl
    ·intro xs w hw hp K hK
     obtain ⟨e0, e1, e2, _⟩ := enres (HE7.out w hw)
     go_simp
     exact hK _ (Grow.refl _)
    apply lq hsz [] [(55, 0), (56, 1), (57, 2), (60, 5), (61, 6), (62, 7), (63, 8)] none (by kernel_rfl) rfl
    ·intro xs w hw hp K hK
     go_simp
     exact hK _ (Grow.refl _)
    refine lexf_says hsz (fun v u => IntsS u v [ch]) (fun _ _ _ g h => RowS.fits h g) [(3, true)] [(55, 0), (56, 1), (57, 2), (58, 3), (61, 6), (62, 7), (63, 8)] none (by kernel_rfl) (by kernel_rfl) (by kernel_rfl) (by kernel_rfl) rfl ?_ ?_
    ·intro xs w hw hp K hK
     simp only [holdsL, List.nil_append, List.cons_append, List.getD_cons_succ, List.getD_cons_zero, if_true, and_true] at hp
     go_simp
     exact hK _ _ (one_ints w ch) ((Grow.refl _).alloc _)
    apply lq hsz [(2, true), (4, true)] [(55, 0), (56, 1), (57, 2), (58, 3), (59, 4), (62, 7), (63, 8)] none (by kernel_rfl) rfl
    ·intro xs w hw hp K hK
     simp only [holdsL, List.nil_append, List.cons_append, List.getD_cons_succ, List.getD_cons_zero, if_true, and_true] at hp
     obtain ⟨h2, h4⟩ := hp
     go_simp
     exact (HBy.out w (xs 4) h4).mono fun e w' h => ⟨_, h.1, hK _ h.2⟩
    refine lexf_says hsz (fun v u => ∃ iv, v = .tuple #[pgV Q iv, .int .i64 cd] ∧ ItemsC u iv Q.items) (fun _ _ _ g h => h.elim fun iv h => ⟨iv, h.1, h.2.fits g⟩) [(0, true), (1, true), (5, true)] [(55, 0), (56, 1), (57, 2), (58, 3), (59, 4), (60, 5)] none (by kernel_rfl) (by kernel_rfl) (by kernel_rfl) (by kernel_rfl) rfl ?_ ?_
    ·intro xs w hw hp K hK
     simp only [holdsL, List.nil_append, List.cons_append, List.getD_cons_succ, List.getD_cons_zero, if_true, and_true] at hp
     go_simp
     exact (HPu.out w (HI7.out w hw)).mono fun e w' ⟨iv, h1, h2, h3⟩ => ⟨_, h1, hK _ _ ⟨iv, rfl, h2⟩ h3⟩
    refine lexf_says hsz (fun v u => ∃ iv, v = pgV Q iv ∧ ItemsC u iv Q.items) (fun _ _ _ g h => h.elim fun iv h => ⟨iv, h.1, h.2.fits g⟩) [(6, true)] [(55, 0), (56, 1), (57, 2), (58, 3), (59, 4), (60, 5), (61, 6), (63, 8)] none (by kernel_rfl) (by kernel_rfl) (by kernel_rfl) (by kernel_rfl) rfl ?_ ?_
    ·intro xs w hw hp K hK
     simp only [holdsL, List.nil_append, List.cons_append, List.getD_cons_succ, List.getD_cons_zero, if_true, and_true] at hp
     obtain ⟨iv8, h8, hit⟩ := hp
     go_simp
     exact hK _ _ ⟨iv8, rfl, hit⟩ (Grow.refl _)
    refine lexf_says hsz (fun v _ => v = .int .i64 cd) (fun _ _ _ _ h => h) [(6, true)] [(55, 0), (56, 1), (57, 2), (58, 3), (59, 4), (60, 5), (61, 6), (62, 7)] none (by kernel_rfl) (by kernel_rfl) (by kernel_rfl) (by kernel_rfl) rfl ?_ ?_
    ·intro xs w hw hp K hK
     simp only [holdsL, List.nil_append, List.cons_append, List.getD_cons_succ, List.getD_cons_zero, if_true, and_true] at hp
     obtain ⟨iv8, h8, hit⟩ := hp
     go_simp
     exact hK _ _ rfl (Grow.refl _)
    intro xs w hw hp
    have ha0 := HA0.out
    clear HA0 hsz s2 s3 s4 s10
    simp only [holdsL, List.nil_append, List.cons_append, List.getD_cons_succ, List.getD_cons_zero, if_true, and_true] at hp
    have h9 := hp.2.2.2.2.2.2.2.1
    have h10 := hp.2.2.2.2.2.2.2.2
    clear hp
    subst ha0
    simp only [putAll, h10]
    obtain ⟨iv9, h9, hit⟩ := h9
    simp only [h9]
    obtain ⟨qa, qc, rfl⟩ := itemsS_form hit.1
    have hgw := Grow.trans HG4.out hw.undrew
    have hR := HRw.out _ hgw
    have hbb : Below w_.heap.size w_ w := Grow.trans HG0.out hgw
    obtain ⟨r0, r1, r2, r3, r4, r5, f0, f1, f2, f3, f4, f5⟩ := pgres hR
    have Hset := keep (pgset hR (.int .i64 Q.lsn) (.int .i64 Q.kind) (.int .i64 Q.level) (.int .i64 Q.right) (.string (str Q.high)) (.slice qa Q.items.length qc))
    have Hbut := keep (pgbut w (w_.heap.size + 2) (.int .i64 Q.lsn) (.int .i64 Q.kind) (.int .i64 Q.level) (.int .i64 Q.right) (.string (str Q.high)) (.slice qa Q.items.length qc))
    have Hit := keep hit
    have HR := keep hR
    have Hbb := keep hbb
    have hlt2 := hR.lt
    clear hw h9 h10 hit hR hbb hgw
    unfold pgV
    go_wp2_with fail
    rw [HYes.out]
    refine bodyPost_ret (v := .tuple #[pgV Q (.slice qa Q.items.length qc), .int .i64 cd]) ?_ rfl ⟨_, rfl, itemsC_but Hit.out Hbut.out HR.out (by decide), But.below Hbb.out Hbut.out (by omega) (by omega)⟩
    obtain ⟨s0, s1, s2, s3, s4, s5, _⟩ := pgres Hset.out
    simp [results, Tryz.results50, go_sem, s0, s1, s2, s3, s4, s5, pgV]
end Go.Proofs.YtaninphcgeaepaaGreat
