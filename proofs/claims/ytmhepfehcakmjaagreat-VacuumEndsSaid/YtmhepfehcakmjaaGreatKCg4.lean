import Derived.Test.YtmhepfehcakmjaaGreatKLexm
import Derived.Test.YtmhepfehcakmjaaGreatKCg2
import Derived.Test.YtmhepfehcakmjaaGreatKRu4
import Derived.Test.YtmhepfehcakmjaaGreatKSp2
namespace Go.Proofs.YtmhepfehcakmjaaGreat
open Go.RowKit
attribute [local go_sem] givesV lookV knAt givesF_none givesF_some evalF_tmp evalF_const evalF_global evalF_func lookL isB_bool isB_undef givesUpon_value givesUpon_skip givesUpon_enter
attribute [local simp] eql_entry
attribute [local go_sem] guard_entry
theorem mem_pos {l : List En} {t : En} (h : Sorted l) : t ∈ l ↔ ∃ hk : posE l t < l.length, l[posE l t] = t := by
 have h1 := search_end h (t := t) (k := posE l t) (posE_le l t) (fun j hj hjk => (pos_iff h j hj).2 hjk) (fun j hj hjk hc => by have := (pos_iff h j hj).1 hc; omega)
 rw [h1.2]
 exact ⟨fun ⟨a, b⟩ => ⟨a, cmpE_eq.1 b⟩, fun ⟨a, b⟩ => ⟨a, cmpE_eq.2 b⟩⟩
end Go.Proofs.YtmhepfehcakmjaaGreat
namespace Go.Proofs.YtmhepfehcakmjaaGreat
open Go.RowKit
attribute [local go_sem] givesV lookV knAt givesF_none givesF_some evalF_tmp evalF_const evalF_global evalF_func lookL isB_bool isB_undef givesUpon_value givesUpon_skip givesUpon_enter
attribute [local simp] eql_entry
attribute [local go_sem] guard_entry
def postOk (P : Pg) (e : En) (c : Int) : Bool := openOk P && (!decide (P.level = 0) && (enOk e && (inB c 1 65535 && !(bdN P && decide (0 ≤ cmpE e (hiN P))))))
def postN (P : Pg) (e : En) (c : Int) : Pg × Int := if postOk P e c then (if decide (e ∈ ensN P) then (zeroP, 140) else putN P (posE (ensN P) e) (enBytes e [c])) else (zeroP, 140)
theorem enBytes_more (e : En) (c : Int) (h : enOk e = true) : (enBytes e [c]).length ≤ 90 := by
 have := (enOk_fine h).1
 have h1 := sev_length e.1.length
 have h2 := sevs_length [e.2.1, e.2.2]
 have h3 := sevs_length [c]
 simp [enBytes, txt, sevs] at *
 omega
end Go.Proofs.YtmhepfehcakmjaaGreat
namespace Go.Proofs.YtmhepfehcakmjaaGreat
open Go.RowKit
attribute [local go_sem] givesV lookV knAt givesF_none givesF_some evalF_tmp evalF_const evalF_global evalF_func lookL isB_bool isB_undef givesUpon_value givesUpon_skip givesUpon_enter
set_option maxRecDepth 100000 in
set_option maxHeartbeats 4000000 in
theorem post_any (P : Pg) (iv : Value) (e : En) (ch : Int) (w_ : World) (hin : PgIn w_ iv P) :
  Calls Tryz.prog 80 #[pgV P iv, enV e, .int .i64 ch] w_ (PgPost (postN P e ch).1 (postN P e ch).2 w_) := by
 have hd : postN P e ch = if openOk P && (!decide (P.level = 0) && (enOk e && (inB ch 1 65535 && !(bdN P && decide (0 ≤ cmpE e (hiN P)))))) then (if decide (e ∈ ensN P) then (zeroP, 140) else putN P (posE (ensN P) e) (enBytes e [ch])) else (zeroP, 140) := rfl
 have hso := fun (h : openOk P = true) => open_sorted h
 have h255 := fun (h : openOk P = true) => (show (ensN P).length ≤ 255 by rw [ensN_length]; exact (open_fine h).1)
 have hl1 := ensN_length P
 have hpu := fun (u : World) (hi : Items u iv P.items) (h : openOk P = true) (h2 : enOk e = true) => put_any P iv (posE (ensN P) e) (enBytes e [ch]) u hi (by rw [← hl1]; exact posE_le _ _) hin.2.1 (by have := enBytes_more _ ch h2; omega) hin.2.2.1 (by have := (open_fine h).1; omega)
 have hby := fun (u : World) (mv : Value) (hm : IntsS u mv [ch]) (h : enOk e = true) (hl : inB ch 1 65535 = true) => bytes_any e mv [ch] u (enOk_fine h) hm (by simp [inB] at hl ⊢; omega) (by simp)
 have hie := fun (u : World) => isEntry_any e u
 have hic := fun (u : World) => isChild_any ch u
 have hcp := fun (b : En) (u : World) => compare_any e b u
 have hse := fun (l : List En) (v : Value) (u : World) (h : EnsS u v l) (hl : l.length ≤ 1759218604441) (hs : Sorted l) => search_any e l v u h hl hs
 obtain ⟨k, p, s⟩ := e
 obtain ⟨w0, hw0⟩ : ∃ w0, w0 = (((w_.alloc (.cells (pgCells P iv).toArray 24)).alloc (.cells #[.string (str k), .int .i64 p, .int .i64 s] 102)).alloc (.cells #[.int .i64 0, .int .i64 0, .int .i64 0, .int .i64 0, .string ⟨#[]⟩, .slice none 0 0] 24)) := ⟨_, rfl⟩
 have hg0 : Grow w_ w0 := by subst hw0; exact (((Grow.refl w_).alloc _).alloc _).alloc _
 have hP0 : Blk w0 w_.heap.size 24 (pgCells P iv) := by
  have := ((Blk.new w_ 24 (pgCells P iv)).alloc (.cells #[.string (str k), .int .i64 p, .int .i64 s] 102)).alloc (.cells #[.int .i64 0, .int .i64 0, .int .i64 0, .int .i64 0, .string ⟨#[]⟩, .slice none 0 0] 24)
  subst hw0; exact this
 have hE0 : Blk w0 (w_.heap.size + 1) 102 [.string (str k), .int .i64 p, .int .i64 s] := by
  have := (Blk.new (w_.alloc (.cells (pgCells P iv).toArray 24)) 102 [.string (str k), .int .i64 p, .int .i64 s]).alloc (.cells #[.int .i64 0, .int .i64 0, .int .i64 0, .int .i64 0, .string ⟨#[]⟩, .slice none 0 0] 24)
  have e : (w_.alloc (.cells (pgCells P iv).toArray 24)).heap.size = w_.heap.size + 1 := by simp
  rw [e] at this
  subst hw0; exact this
 have hR0 : Blk w0 (w_.heap.size + 2) 24 [.int .i64 0, .int .i64 0, .int .i64 0, .int .i64 0, .string ⟨#[]⟩, .slice none 0 0] := by
  have := Blk.new ((w_.alloc (.cells (pgCells P iv).toArray 24)).alloc (.cells #[.string (str k), .int .i64 p, .int .i64 s] 102)) 24 [.int .i64 0, .int .i64 0, .int .i64 0, .int .i64 0, .string ⟨#[]⟩, .slice none 0 0]
  have e : ((w_.alloc (.cells (pgCells P iv).toArray 24)).alloc (.cells #[.string (str k), .int .i64 p, .int .i64 s] 102)).heap.size = w_.heap.size + 2 := by simp
  rw [e] at this
  subst hw0; exact this
 have hzR := hR0.lt
 have hop := opened_pg (hin.fits hg0)
 have HIw := keep (fun (u : World) (hu : Grow w0 u) => (Row.fits hin.1 (Grow.trans hg0 hu) : Items u iv P.items))
 obtain ⟨ia, ic, rfl⟩ := items_form hin.1
 unfold pgV enV at *
 dsimp only at hie hcp hse
 have HPw := keep (fun (u : World) (hu : Grow w0 u) => hP0.fits hu)
 have HEw := keep (fun (u : World) (hu : Grow w0 u) => hE0.fits hu)
 have HRw := keep (fun (u : World) (hu : Grow w0 u) => hR0.fits hu)
 have HOp := keep hop
 have HD := keep hd
 have HCp := keep hcp
 have HSo := keep hso
 have H255 := keep h255
 have HPut := keep hpu
 have HBy0 := keep hby
 have HIe := keep hie
 have HIc := keep hic
 have HSe := keep hse
 have HG0 := keep hg0
 unfold pgCells at hw0 hP0 HPw
 obtain ⟨p0, p1, p2, p3, p4, p5, _⟩ := pgres hP0
 clear hop hd hcp hso h255 hpu hby hie hic hse hP0 hE0 hR0 hg0 hin hl1
 go_enter Tryz.func80, Tryz.ntmps80
 go_upto_region 1 with fail
 rw [← hw0]
 clear hw0
 go_wp2_with fail
 refine HOp.out.mono ?_
 rintro x w1 ⟨a1, n1, c1, a2, n2, c2, hi, bd, ok, rfl, hok, hyes, hb1⟩
 clear p0 p1 p2 p3 p4 p5
 obtain ⟨w2, hw2⟩ : ∃ w2, w2 = w1.alloc (.cells #[.slice a1 n1 c1, .slice a2 n2 c2, .string (str hi.1), .int .i64 hi.2.1, .int .i64 hi.2.2, .bool bd] 170) := ⟨_, rfl⟩
 have hg2 : Grow w0 w2 := by subst hw2; exact Grow.alloc hb1 _
 have hO2 : Blk w2 w1.heap.size 170 [.slice a1 n1 c1, .slice a2 n2 c2, .string (str hi.1), .int .i64 hi.2.1, .int .i64 hi.2.2, .bool bd] := by subst hw2; exact Blk.new w1 _ [_, _, _, _, _, _]
 have hyes2 : ok = true → EnsS w2 (.slice a1 n1 c1) (ensN P) ∧ hi = hiN P ∧ bd = bdN P := fun h => ⟨by subst hw2; exact RowS.fits (hyes h).1 ((Grow.refl _).alloc _), (hyes h).2.2⟩
 have HYes := keep hyes2
 have HOk := keep hok
 have HO2 := keep hO2
 have HG2 := keep hg2
 clear hyes hyes2 hok hb1 hO2 hg2
 go_upto_region 2 with fail
 rw [← hw2]
 clear hw2
 obtain ⟨hik, hip, his⟩ := hi
 dsimp only at HO2
 have hcpx := HCp.out (hik, hip, his)
 unfold enV at hcpx
 dsimp only at hcpx
 have HCx := keep hcpx
 clear hcpx
 obtain ⟨p0, p1, p2, p3, p4, p5, _⟩ := pgres (HPw.out w2 HG2.out)
 obtain ⟨e0, e1, e2, _⟩ := enres (HEw.out w2 HG2.out)
 go_cut [44] from 17 to 44 (fun sv wx => sv = .bool (!(ok && (!decide (P.level = 0) && (enOk (k, p, s) && (inB ch 1 65535 && !(bd && decide (0 ≤ cmpE (k, p, s) (hik, hip, his)))))))) ∧ Grow w2 wx)
 case first =>
  cases ok with
  | false =>
   go_wp2_with fail
   all_goals go_meet
   all_goals (case rel => exact ⟨rfl, Grow.refl _⟩)
  | true =>
   by_cases hlv : P.level = 0
   ·have hlv2 : (P.level == 0) = true := by simp [hlv]
    have HLv := keep (decide_eq_true hlv)
    clear hlv
    go_wp2_with fail
    all_goals go_meet
    all_goals (case rel => exact ⟨by rw [HLv.out]; rfl, Grow.refl _⟩)
   ·have hlv2 : (P.level == 0) = false := by simp [hlv]
    have HLv := keep (decide_eq_false hlv)
    clear hlv
    go_wp2_with fail
    refine (HIe.out w2).mono ?_
    rintro x w3 ⟨rfl, hb3⟩
    cases hA : enOk (k, p, s) with
    | false =>
     have HA := keep hA
     clear hA
     go_wp2_with fail
     all_goals go_meet
     all_goals (case rel => exact ⟨by rw [HLv.out, HA.out]; rfl, hb3⟩)
    | true =>
     have HA := keep hA
     clear hA
     have HB3 := keep hb3
     have HG3 := keep (Grow.trans HG2.out hb3)
     clear hb3 e0 e1 e2
     obtain ⟨e0, e1, e2, _⟩ := enres (HEw.out w3 HG3.out)
     have hO3 := HO2.out.fits HB3.out
     obtain ⟨o0, o1, o2, o3, o4, o5, _⟩ := pgres hO3
     clear hO3
     go_wp2_with fail
     refine (HIc.out w3).mono ?_
     rintro x w3_ ⟨rfl, rfl⟩
     cases hC : inB ch 1 65535 with
     | false =>
      have HC := keep hC
      clear hC
      go_wp2_with fail
      all_goals go_meet
      all_goals (case rel => exact ⟨by rw [HLv.out, HA.out, HC.out]; rfl, HB3.out⟩)
     | true =>
      have HC := keep hC
      clear hC
      cases bd with
      | false =>
       go_wp2_with fail
       all_goals go_meet
       all_goals (case rel => exact ⟨by rw [HLv.out, HA.out, HC.out]; rfl, HB3.out⟩)
      | true =>
       go_wp2_with fail
       refine (HCx.out w3).mono ?_
       rintro x w4 ⟨rfl, hb4⟩
       go_wp2_with fail
       all_goals go_meet
       all_goals (case rel => exact ⟨by rw [HLv.out, HA.out, HC.out]; simp, Grow.trans HB3.out hb4⟩)
 case rest =>
  obtain ⟨rfl, hg3⟩ := hcut
  clear p0 p1 p2 p3 p4 p5 e0 e1 e2
  generalize wc = w3 at *
  have HG3 := keep (Grow.trans HG2.out hg3)
  generalize hM : (ok && (!decide (P.level = 0) && (enOk (k, p, s) && (inB ch 1 65535 && !(bd && decide (0 ≤ cmpE (k, p, s) (hik, hip, his))))))) = M
  cases M with
  | false =>
   have hno : postN P (k, p, s) ch = (zeroP, 140) := by
    rw [HD.out, ← HOk.out]
    cases ok with
    | false => rfl
    | true =>
     obtain ⟨_, h2, h3⟩ := HYes.out rfl
     rw [← h2, ← h3, hM]
     rfl
   have HNo := keep hno
   clear hM hno hg3
   have hR := HRw.out w3 HG3.out
   have hz9 := HG3.out.size
   have Hset := keep (pgset hR (.int .i64 0) (.int .i64 0) (.int .i64 0) (.int .i64 0) (.string ⟨#[]⟩) (.slice none 0 0))
   have Hbut := keep (pgbut w3 (w_.heap.size + 2) (.int .i64 0) (.int .i64 0) (.int .i64 0) (.int .i64 0) (.string ⟨#[]⟩) (.slice none 0 0))
   have hlt2 := hR.lt
   obtain ⟨r0, r1, r2, r3, r4, r5, f0, f1, f2, f3, f4, f5⟩ := pgres hR
   clear hR
   go_wp2_with fail
   rw [HNo.out]
   refine bodyPost_ret (v := .tuple #[pgV zeroP (.slice none 0 0), .int .i64 140]) ?_ rfl ⟨_, rfl, ItemsC.nil _, But.below (Grow.trans HG0.out HG3.out) Hbut.out (by omega) (by omega)⟩
   obtain ⟨s0, s1, s2, s3, s4, s5, _⟩ := pgres Hset.out
   simp [results, Tryz.results80, go_sem, s0, s1, s2, s3, s4, s5, pgV, zeroP]
   rfl
  | true =>
   have hm : ok = true ∧ ¬ P.level = 0 ∧ enOk (k, p, s) = true ∧ inB ch 1 65535 = true ∧ (bd && decide (0 ≤ cmpE (k, p, s) (hik, hip, his))) = false := by
    have h9 := hM
    simp only [Bool.and_eq_true, Bool.not_eq_true', decide_eq_false_iff_not] at h9
    exact h9
   obtain ⟨rfl, hlv, hen, hch, hbe⟩ := hm
   obtain ⟨hes, hhi, rfl⟩ := HYes.out rfl
   have hes3 : EnsS w3 (.slice a1 n1 c1) (ensN P) := RowS.fits hes hg3
   have hopen : openOk P = true := HOk.out.symm
   have hd2 : postN P (k, p, s) ch = if decide ((k, p, s) ∈ ensN P) then (zeroP, 140) else putN P (posE (ensN P) (k, p, s)) (enBytes (k, p, s) [ch]) := by
    rw [HD.out, hopen, ← hhi, hM, if_pos rfl]
   have hsc := HSe.out (ensN P) (.slice a1 n1 c1) w3 hes3 (by have := H255.out hopen; omega) (HSo.out hopen)
   have hO3 := HO2.out.fits hg3
   obtain ⟨e0, e1, e2, _⟩ := enres (HEw.out w3 HG3.out)
   obtain ⟨o0, o1, o2, o3, o4, o5, _⟩ := pgres hO3
   have HSc := keep hsc
   have HD2 := keep hd2
   have HBy := keep (fun (u : World) (mv : Value) (hm : IntsS u mv [ch]) => HBy0.out u mv hm hen hch)
   have HPut3 := keep (fun (u : World) (hi : Items u _ P.items) => HPut.out u hi hopen hen)
   clear hM hlv hen hch hbe hes hes3 hopen hd2 hsc hg3 hO3 hhi HD HPut HBy0 HYes
   go_wp2_with fail
   refine HSc.out.mono ?_
   rintro x w4 ⟨rfl, hb4⟩
   clear e0 e1 e2 o0 o1 o2 o3 o4 o5
   have HG4 := keep (Grow.trans HG3.out hb4)
   clear hb4
   have hd3 := HD2.out
   generalize decide ((k, p, s) ∈ ensN P) = F at *
   cases F with
   | true =>
    have HNo := keep (show postN P (k, p, s) ch = (zeroP, 140) from hd3)
    clear hd3
    have hR := HRw.out w4 HG4.out
    have hz9 := HG4.out.size
    have Hset := keep (pgset hR (.int .i64 0) (.int .i64 0) (.int .i64 0) (.int .i64 0) (.string ⟨#[]⟩) (.slice none 0 0))
    have Hbut := keep (pgbut w4 (w_.heap.size + 2) (.int .i64 0) (.int .i64 0) (.int .i64 0) (.int .i64 0) (.string ⟨#[]⟩) (.slice none 0 0))
    have hlt2 := hR.lt
    obtain ⟨r0, r1, r2, r3, r4, r5, f0, f1, f2, f3, f4, f5⟩ := pgres hR
    clear hR
    go_wp2_with fail
    rw [HNo.out]
    refine bodyPost_ret (v := .tuple #[pgV zeroP (.slice none 0 0), .int .i64 140]) ?_ rfl ⟨_, rfl, ItemsC.nil _, But.below (Grow.trans HG0.out HG4.out) Hbut.out (by omega) (by omega)⟩
    obtain ⟨s0, s1, s2, s3, s4, s5, _⟩ := pgres Hset.out
    simp [results, Tryz.results80, go_sem, s0, s1, s2, s3, s4, s5, pgV, zeroP]
    rfl
   | false =>
    have hd4 : postN P (k, p, s) ch = putN P (posE (ensN P) (k, p, s)) (enBytes (k, p, s) [ch]) := hd3
    generalize putN P (posE (ensN P) (k, p, s)) (enBytes (k, p, s) [ch]) = R at *
    obtain ⟨Q, cd⟩ := R
    dsimp only at HPut3
    have HYes := keep hd4
    have HPu := HPut3
    unfold PgPost pgV at HPu
    clear hd3 hd4 HD2 HPut3
    have HP7 := keep (fun (u : World) (hu : Grow w4.drew u) => (HPw.out _ (Grow.trans HG4.out (Grow.undrew hu))))
    have HE7 := keep (fun (u : World) (hu : Grow w4.drew u) => (HEw.out _ (Grow.trans HG4.out (Grow.undrew hu))))
    have HI7 := keep (fun (u : World) (hu : Grow w4.drew u) => (HIw.out _ (Grow.trans HG4.out (Grow.undrew hu))))
    go_upto_region 7 with fail
    refine rgv 9 (by kernel_rfl) (by kernel_rfl) rfl rfl ?_
    intro a0 ha0
    have hsz : a0.tmps.size = 64 := (size_at ha0).trans rfl
    have s2 := slot_at ha0 2 rfl
    have s3 := slot_at ha0 3 rfl
    have s4 := slot_at ha0 4 rfl
    have s10 := slot_at ha0 10 rfl
    have HA0 := keep ha0
    clear ha0
    apply lxv hsz Grow.refl (by kernel_rfl) rfl
    ·intro xs w hw K hK
     obtain ⟨p0, p1, p2, p3, p4, p5, _⟩ := pgres (HP7.out w hw)
     go_simp
     exact hK
    apply lxv hsz Grow.refl (by kernel_rfl) rfl
    ·intro xs w hw K hK
     go_simp
     exact hK
    apply lxv hsz Grow.refl (by kernel_rfl) rfl
    ·intro xs w hw K hK
     obtain ⟨e0, e1, e2, _⟩ := enres (HE7.out w hw)
     go_simp
     exact hK
    apply lxv hsz Grow.refl (by kernel_rfl) rfl
    ·intro xs w hw K hK
     go_simp
     exact hK
    refine lxs hsz (fun v u => IntsS u v [ch]) (fun _ _ _ g h => RowS.fits h g) [] (by kernel_rfl) rfl ?_ ?_
    ·intro xs w hw hp K hK
     go_simp
     exact hK _ _ (one_ints w ch) ((Grow.refl _).alloc _)
    apply lxe hsz [(2, true), (4, true)] (by kernel_rfl) rfl
    ·intro xs w hw hp K hK
     simp only [hzv] at hp
     obtain ⟨h2, h4⟩ := hp
     go_simp
     exact (HBy.out w (xs 4) h4).mono fun e w' h => ⟨_, h.1, hK _ h.2⟩
    refine lxs hsz (fun v u => ∃ iv, v = .tuple #[pgV Q iv, .int .i64 cd] ∧ ItemsC u iv Q.items) (fun _ _ _ g h => h.elim fun iv h => ⟨iv, h.1, h.2.fits g⟩) [] (by kernel_rfl) rfl ?_ ?_
    ·intro xs w hw hp K hK
     go_simp
     exact (HPu.out w (HI7.out w hw)).mono fun e w' ⟨iv, h1, h2, h3⟩ => ⟨_, h1, hK _ _ ⟨iv, rfl, h2⟩ h3⟩
    refine lxs hsz (fun v u => ∃ iv, v = pgV Q iv ∧ ItemsC u iv Q.items) (fun _ _ _ g h => h.elim fun iv h => ⟨iv, h.1, h.2.fits g⟩) [(6, true)] (by kernel_rfl) rfl ?_ ?_
    ·intro xs w hw hp K hK
     simp only [hzv] at hp
     obtain ⟨iv8, h8, hit⟩ := hp
     go_simp
     exact hK _ _ ⟨iv8, rfl, hit⟩ (Grow.refl _)
    refine lxs hsz (fun v _ => v = .int .i64 cd) (fun _ _ _ _ h => h) [(6, true)] (by kernel_rfl) rfl ?_ ?_
    ·intro xs w hw hp K hK
     simp only [hzv] at hp
     obtain ⟨iv8, h8, hit⟩ := hp
     go_simp
     exact hK _ _ rfl (Grow.refl _)
    refine rgd [(7, true), (8, true)] (by kernel_rfl) rfl ?_
    intro xs w hw hp
    have ha0 := HA0.out
    clear HA0 hsz s2 s3 s4 s10
    simp only [hzv] at hp
    obtain ⟨h9, h10⟩ := hp
    subst ha0
    simp only [putV, h10]
    obtain ⟨iv9, h9, hit⟩ := h9
    simp only [h9]
    obtain ⟨qa, qc, rfl⟩ := itemsS_form hit.1
    have hgw := Grow.trans HG4.out hw.undrew
    have hR := HRw.out _ hgw
    have hbb : Below w_.heap.size w_ w := Grow.trans HG0.out hgw
    obtain ⟨r0, r1, r2, r3, r4, r5, f0, f1, f2, f3, f4, f5⟩ := pgres hR
    have Hset := keep (pgset hR (.int .i64 Q.lsn) (.int .i64 Q.kind) (.int .i64 Q.level) (.int .i64 Q.right) (.string (str Q.high)) (.slice qa Q.items.length qc))
    have Hbut := keep (pgbut w (w_.heap.size + 2) (.int .i64 Q.lsn) (.int .i64 Q.kind) (.int .i64 Q.level) (.int .i64 Q.right) (.string (str Q.high)) (.slice qa Q.items.length qc))
    have Hit := keep hit
    have HR := keep hR
    have Hbb := keep hbb
    have hlt2 := hR.lt
    clear hw h9 h10 hit hR hbb hgw
    unfold pgV
    go_wp2_with fail
    rw [HYes.out]
    refine bodyPost_ret (v := .tuple #[pgV Q (.slice qa Q.items.length qc), .int .i64 cd]) ?_ rfl ⟨_, rfl, itemsC_but Hit.out Hbut.out HR.out (by decide), But.below Hbb.out Hbut.out (by omega) (by omega)⟩
    obtain ⟨s0, s1, s2, s3, s4, s5, _⟩ := pgres Hset.out
    simp [results, Tryz.results80, go_sem, s0, s1, s2, s3, s4, s5, pgV]
end Go.Proofs.YtmhepfehcakmjaaGreat
namespace Go.Proofs.YtmhepfehcakmjaaGreat
open Go.RowKit
attribute [local simp] eql_entry
attribute [local go_sem] guard_entry
def remN (P : Pg) (e : En) : Pg × Int := if entriesOk P && decide (e ∈ ensN P) then (outP P (posE (ensN P) e), 0) else (zeroP, 140)
theorem ent_open {P : Pg} (h : entriesOk P = true) : openOk P = true := by
 unfold entriesOk at h
 rw [Bool.and_eq_true] at h
 exact h.1
theorem pos_at {l : List En} {t : En} (h : Sorted l) {k : Nat} (hk : k < l.length) (he : l[k] = t) : posE l t = k := by
 obtain ⟨h1, h2⟩ := (mem_pos h).1 (show t ∈ l from he ▸ List.getElem_mem hk)
 exact sorted_inj h h1 hk (h2.trans he.symm)
theorem rem_yes {P : Pg} {e : En} (h : entriesOk P = true) {k : Nat} (hk : k < (ensN P).length) (he : (ensN P)[k] = e) : remN P e = (outP P k, 0) := by
 unfold remN
 rw [h, Bool.true_and, decide_eq_true (show e ∈ ensN P from he ▸ List.getElem_mem hk), if_pos rfl, pos_at (open_sorted (ent_open h)) hk he]
theorem rem_no {P : Pg} {e : En} (h : entriesOk P = false ∨ e ∉ ensN P) : remN P e = (zeroP, 140) := by
 unfold remN
 rw [if_neg]
 intro h2
 rw [Bool.and_eq_true] at h2
 rcases h with h | h
 ·rw [h] at h2; exact absurd h2.1 (by decide)
 ·exact h (of_decide_eq_true h2.2)
theorem rem_post {P : Pg} {e : En} {w w' : World} {x : Ending} (h : RemPost P e w x w') : PgPost (remN P e).1 (remN P e).2 w x w' := by
 obtain ⟨Q, c, iv, hx, hi, hb, h2⟩ := h
 rcases h2 with ⟨h3, k, hk, he, rfl, rfl⟩ | ⟨h3, rfl, rfl⟩
 ·rw [rem_yes h3 hk he]; exact ⟨iv, hx, hi, hb⟩
 ·rw [rem_no h3]; exact ⟨iv, hx, hi, hb⟩
theorem remove_fn (P : Pg) (iv : Value) (e : En) (w_ : World) (hin : PgIn w_ iv P) :
  Calls Tryz.prog 83 #[pgV P iv, enV e] w_ (PgPost (remN P e).1 (remN P e).2 w_) := (remove_any P iv e w_ hin).mono fun _ _ h => rem_post h
end Go.Proofs.YtmhepfehcakmjaaGreat
