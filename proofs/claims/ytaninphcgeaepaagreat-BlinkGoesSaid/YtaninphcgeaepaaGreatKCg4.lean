import Derived.Test.YtaninphcgeaepaaGreatKCg2
import Derived.Test.YtaninphcgeaepaaGreatKRu4
import Derived.Test.YtaninphcgeaepaaGreatKRl1
/- The document's Insert. -/
namespace Go.Proofs.YtaninphcgeaepaaGreat
open Go.RowKit
attribute [local go_sem] givesF_none givesF_some evalF_tmp evalF_const evalF_global evalF_func lookL isB_bool isB_undef givesUpon_value givesUpon_skip givesUpon_enter
attribute [local simp] eql_entry
attribute [local go_sem] guard_entry

theorem mem_pos {l : List En} {t : En} (h : Sorted l) : t ∈ l ↔ ∃ hk : posE l t < l.length, l[posE l t] = t := by
  have h1 := search_end h (t := t) (k := posE l t) (posE_le l t) (fun j hj hjk => (pos_iff h j hj).2 hjk) (fun j hj hjk hc => by have := (pos_iff h j hj).1 hc; omega)
  rw [h1.2]
  exact ⟨fun ⟨a, b⟩ => ⟨a, cmpE_eq.1 b⟩, fun ⟨a, b⟩ => ⟨a, cmpE_eq.2 b⟩⟩

set_option maxRecDepth 100000 in
set_option maxHeartbeats 4000000 in
theorem rinsert_any (P : Pg) (iv : Value) (e : En) (w_ : World) (hin : PgIn w_ iv P) (hcap : Capd iv) :
    Calls Tryz.prog 52 #[pgV P iv, enV e] w_ (PgPost (insN P e).1 (insN P e).2 w_) := by
  have hd : insN P e = if openOk P && (decide (P.level = 0) && (enOk e && !beyN (bdN P) (hiN P) e)) then (if decide (e ∈ ensN P) then (zeroP, 140) else putN P (posE (ensN P) e) (enBytes e [])) else (zeroP, 140) := rfl
  have hbd : beyondN P e = if openOk P && enOk e then (beyN (bdN P) (hiN P) e, 0) else (false, 140) := rfl
  have hky : entriesOk P = (openOk P && decide (P.level = 0)) := rfl
  have hso := fun (h : openOk P = true) => open_sorted h
  have h255 := fun (h : openOk P = true) => (show (ensN P).length ≤ 255 by rw [ensN_length]; exact (open_fine h).1)
  have hl1 := ensN_length P
  have hpu := fun (u : World) (hi : Items u iv P.items) (h : openOk P = true) (h2 : enOk e = true) => rput14_any P iv (posE (ensN P) e) (enBytes e []) u hi hcap (by rw [← hl1]; exact posE_le _ _) hin.2.1 (by have := enBytes_length _ h2; omega) hin.2.2.1 (by have := (open_fine h).1; omega)
  have hraw := fun (u : World) (h2 : enOk e = true) => rraw_any e u (enOk_fine h2)
  obtain ⟨k, p, s⟩ := e
  obtain ⟨w0, hw0⟩ : ∃ w0, w0 = (((w_.alloc (.cells (pgCells P iv).toArray 24)).alloc (.cells #[.string (str k), .int .i64 p, .int .i64 s] 41)).alloc (.cells #[.int .i64 0, .int .i64 0, .int .i64 0, .int .i64 0, .string ⟨#[]⟩, .slice none 0 0] 24)) := ⟨_, rfl⟩
  have hg0 : Grow w_ w0 := by subst hw0; exact (((Grow.refl w_).alloc _).alloc _).alloc _
  have hP0 : Blk w0 w_.heap.size 24 (pgCells P iv) := by
    have := ((Blk.new w_ 24 (pgCells P iv)).alloc (.cells #[.string (str k), .int .i64 p, .int .i64 s] 41)).alloc (.cells #[.int .i64 0, .int .i64 0, .int .i64 0, .int .i64 0, .string ⟨#[]⟩, .slice none 0 0] 24)
    subst hw0; exact this
  have hE0 : Blk w0 (w_.heap.size + 1) 41 [.string (str k), .int .i64 p, .int .i64 s] := by
    have := (Blk.new (w_.alloc (.cells (pgCells P iv).toArray 24)) 41 [.string (str k), .int .i64 p, .int .i64 s]).alloc (.cells #[.int .i64 0, .int .i64 0, .int .i64 0, .int .i64 0, .string ⟨#[]⟩, .slice none 0 0] 24)
    have e : (w_.alloc (.cells (pgCells P iv).toArray 24)).heap.size = w_.heap.size + 1 := by simp
    rw [e] at this
    subst hw0; exact this
  have hR0 : Blk w0 (w_.heap.size + 2) 24 [.int .i64 0, .int .i64 0, .int .i64 0, .int .i64 0, .string ⟨#[]⟩, .slice none 0 0] := by
    have := Blk.new ((w_.alloc (.cells (pgCells P iv).toArray 24)).alloc (.cells #[.string (str k), .int .i64 p, .int .i64 s] 41)) 24 [.int .i64 0, .int .i64 0, .int .i64 0, .int .i64 0, .string ⟨#[]⟩, .slice none 0 0]
    have e : ((w_.alloc (.cells (pgCells P iv).toArray 24)).alloc (.cells #[.string (str k), .int .i64 p, .int .i64 s] 41)).heap.size = w_.heap.size + 2 := by simp
    rw [e] at this
    subst hw0; exact this
  have hzR := hR0.lt
  have hen := rentries_any P iv w0 (hin.fits hg0)
  have hbe := fun (u : World) (hu : Grow w_ u) => rbeyond_any P iv (k, p, s) u (hin.fits hu)
  have HIw := keep (fun (u : World) (hu : Grow w0 u) => (Row.fits hin.1 (Grow.trans hg0 hu) : Items u iv P.items))
  obtain ⟨ia, ic, rfl⟩ := items_form hin.1
  unfold pgV enV at *
  generalize beyondN P (k, p, s) = B at *
  obtain ⟨ob, oc⟩ := B
  dsimp only at hbe
  have HPw := keep (fun (u : World) (hu : Grow w0 u) => hP0.fits hu)
  have HEw := keep (fun (u : World) (hu : Grow w0 u) => hE0.fits hu)
  have HRw := keep (fun (u : World) (hu : Grow w0 u) => hR0.fits hu)
  have HEn := keep hen
  have HBe := keep hbe
  have HD := keep hd
  have HBd := keep hbd
  have HSo := keep hso
  have HKy := keep hky
  have H255 := keep h255
  have HPut := keep hpu
  have HRaw0 := keep hraw
  have HG0 := keep hg0
  unfold pgCells at hw0 hP0 HPw
  obtain ⟨p0, p1, p2, p3, p4, p5, _⟩ := pgres hP0
  clear hen hbe hd hbd hso hky h255 hpu hraw hP0 hE0 hR0 hg0 hin hcap hl1
  go_enter Tryz.func52, Tryz.ntmps52
  go_upto_region 1 with fail
  rw [← hw0]
  clear hw0
  go_wp2_with fail
  refine HEn.out.mono ?_
  rintro x w1 hx
  unfold EntPost at hx
  obtain ⟨hx, hb1⟩ := hx
  have HG1 := keep hb1
  clear p0 p1 p2 p3 p4 p5 HEn hb1
  obtain ⟨p0, p1, p2, p3, p4, p5, _⟩ := pgres (HPw.out w1 HG1.out)
  obtain ⟨e0, e1, e2, _⟩ := enres (HEw.out w1 HG1.out)
  cases hK : entriesOk P with
  | false =>
    rw [hK, if_neg (by decide)] at hx
    subst hx
    have hno : insN P (k, p, s) = (zeroP, 140) := by
      rw [HD.out]
      have h1 := HKy.out
      rw [hK] at h1
      rw [← Bool.and_assoc, ← h1, Bool.false_and]
      rfl
    have HNo := keep hno
    clear hK hno
    go_wp2_with fail
    refine (HBe.out w1 (Grow.trans HG0.out HG1.out)).mono ?_
    rintro x w2 ⟨rfl, hb2⟩
    have HG2 := keep (Grow.trans HG1.out hb2)
    clear hb2 p0 p1 p2 p3 p4 p5 e0 e1 e2
    have hR := HRw.out w2 HG2.out
    have hz9 := HG2.out.size
    have Hset := keep (pgset hR (.int .i64 0) (.int .i64 0) (.int .i64 0) (.int .i64 0) (.string ⟨#[]⟩) (.slice none 0 0))
    have Hbut := keep (pgbut w2 (w_.heap.size + 2) (.int .i64 0) (.int .i64 0) (.int .i64 0) (.int .i64 0) (.string ⟨#[]⟩) (.slice none 0 0))
    have hlt2 := hR.lt
    obtain ⟨r0, r1, r2, r3, r4, r5, f0, f1, f2, f3, f4, f5⟩ := pgres hR
    clear hR
    go_wp2_with fail
    rw [HNo.out]
    refine bodyPost_ret (v := .tuple #[pgV zeroP (.slice none 0 0), .int .i64 140]) ?_ rfl ⟨_, rfl, ItemsC.nil _, But.below (Grow.trans HG0.out HG2.out) Hbut.out (by omega) (by omega)⟩
    obtain ⟨s0, s1, s2, s3, s4, s5, _⟩ := pgres Hset.out
    simp [results, Tryz.results52, go_sem, s0, s1, s2, s3, s4, s5, pgV, zeroP]
    rfl
  | true =>
    rw [hK, if_pos rfl] at hx
    obtain ⟨a, c, rfl, hes⟩ := hx
    have h1 := HKy.out
    rw [hK] at h1
    have h2 : openOk P = true ∧ P.level = 0 := by simpa using h1.symm
    obtain ⟨hO, hlv⟩ := h2
    have hd := HD.out
    have hbd := HBd.out
    rw [hO, decide_eq_true hlv] at hd
    rw [hO] at hbd
    have hso := HSo.out hO
    have h255 := H255.out hO
    have HPut2 := keep (fun (u : World) (hi : Items u _ P.items) (h2 : enOk (k, p, s) = true) => HPut.out u hi hO h2)
    generalize ensN P = L at *
    clear hK h1 HD HBd HSo HKy H255 hlv hO HPut
    have HEs := keep hes
    have HDd := keep hd
    have HBdd := keep hbd
    have HSo := keep hso
    clear hes hd hbd hso
    go_wp2_with fail
    refine (HBe.out w1 (Grow.trans HG0.out HG1.out)).mono ?_
    rintro x w2 ⟨rfl, hb2⟩
    have HG2 := keep (Grow.trans HG1.out hb2)
    have HB12 := keep hb2
    clear hb2 p0 p1 p2 p3 p4 p5 e0 e1 e2
    cases hA : enOk (k, p, s) with
    | false =>
      have hx := HDd.out
      have hy := HBdd.out
      rw [hA] at hx hy
      simp only [Bool.and_false, Bool.false_and, Bool.false_eq_true, if_false, Prod.mk.injEq] at hx hy
      obtain ⟨rfl, rfl⟩ := hy
      have HNo := keep hx
      clear hA HDd HBdd hx HPut2
      have hR := HRw.out w2 HG2.out
      have hz9 := HG2.out.size
      have Hset := keep (pgset hR (.int .i64 0) (.int .i64 0) (.int .i64 0) (.int .i64 0) (.string ⟨#[]⟩) (.slice none 0 0))
      have Hbut := keep (pgbut w2 (w_.heap.size + 2) (.int .i64 0) (.int .i64 0) (.int .i64 0) (.int .i64 0) (.string ⟨#[]⟩) (.slice none 0 0))
      have hlt2 := hR.lt
      obtain ⟨r0, r1, r2, r3, r4, r5, f0, f1, f2, f3, f4, f5⟩ := pgres hR
      clear hR
      go_wp2_with fail
      rw [HNo.out]
      refine bodyPost_ret (v := .tuple #[pgV zeroP (.slice none 0 0), .int .i64 140]) ?_ rfl ⟨_, rfl, ItemsC.nil _, But.below (Grow.trans HG0.out HG2.out) Hbut.out (by omega) (by omega)⟩
      obtain ⟨s0, s1, s2, s3, s4, s5, _⟩ := pgres Hset.out
      simp [results, Tryz.results52, go_sem, s0, s1, s2, s3, s4, s5, pgV, zeroP]
      rfl
    | true =>
      have hx := HDd.out
      have hy := HBdd.out
      rw [hA] at hx hy
      simp only [Bool.and_true, Bool.true_and, if_true, Prod.mk.injEq] at hx hy
      obtain ⟨hy, rfl⟩ := hy
      rw [← hy] at hx
      have HRaw := keep (fun (u : World) => HRaw0.out u hA)
      have HPut3 := keep (fun (u : World) (hi : Items u _ P.items) => HPut2.out u hi hA)
      clear hA HDd HBdd hy HPut2 HRaw0
      cases ob with
      | true =>
        simp only [Bool.not_true, Bool.false_eq_true, if_false] at hx
        have HNo := keep hx
        clear hx
        have hR := HRw.out w2 HG2.out
        have hz9 := HG2.out.size
        have Hset := keep (pgset hR (.int .i64 0) (.int .i64 0) (.int .i64 0) (.int .i64 0) (.string ⟨#[]⟩) (.slice none 0 0))
        have Hbut := keep (pgbut w2 (w_.heap.size + 2) (.int .i64 0) (.int .i64 0) (.int .i64 0) (.int .i64 0) (.string ⟨#[]⟩) (.slice none 0 0))
        have hlt2 := hR.lt
        obtain ⟨r0, r1, r2, r3, r4, r5, f0, f1, f2, f3, f4, f5⟩ := pgres hR
        clear hR
        go_wp2_with fail
        rw [HNo.out]
        refine bodyPost_ret (v := .tuple #[pgV zeroP (.slice none 0 0), .int .i64 140]) ?_ rfl ⟨_, rfl, ItemsC.nil _, But.below (Grow.trans HG0.out HG2.out) Hbut.out (by omega) (by omega)⟩
        obtain ⟨s0, s1, s2, s3, s4, s5, _⟩ := pgres Hset.out
        simp [results, Tryz.results52, go_sem, s0, s1, s2, s3, s4, s5, pgV, zeroP]
        rfl
      | false =>
        simp only [Bool.not_false, if_true] at hx
        have HX := keep hx
        clear hx
        have HPi := keep (fun (i : Nat) (hi : i < L.length) => pos_iff (t := (k, p, s)) HSo.out i hi)
        have HMem := keep (mem_pos (t := (k, p, s)) HSo.out)
        have hpl : posE L (k, p, s) ≤ L.length := posE_le _ _
        generalize posE L (k, p, s) = J at *
        go_wp2_with fail
        go_loopw [10] (fun x wr => ∃ n : Nat, n ≤ J ∧ x = .int .i64 n ∧ Kept (Grow w2 wr)) (fun x _ => J - (intOf x).toNat)
        case atStart => exact ⟨0, Nat.zero_le _, rfl, keep (Grow.refl _)⟩
        case round =>
          obtain ⟨n, hn, rfl, HG⟩ := hrel
          by_cases hlt : n < L.length
          · obtain ⟨ce, offe, cape, ee, hce⟩ := ens_at HEs.out hlt
            simp only [Value.slice.injEq] at ee
            obtain ⟨rfl, x1, x2⟩ := ee
            have hpi := HPi.out n hlt
            have hcp := fun (u : World) => rcompare_any L[n] (k, p, s) u
            obtain ⟨g, hgl⟩ : ∃ g, L[n] = g := ⟨_, rfl⟩
            rw [hgl] at hpi hcp hce
            have HGl := keep hgl
            clear hgl
            obtain ⟨gk, gp, gs⟩ := g
            unfold enV at hcp
            dsimp only at hcp hce
            have HCp := keep hcp
            have HPn := keep hpi
            have HC9 := keep (fun (u : World) (hu : Grow wr.drew u) => hce u (Grow.trans HB12.out (Grow.trans HG.out (Grow.undrew hu))))
            have HE9 := keep (fun (u : World) (hu : Grow wr.drew u) => enres (HEw.out u (Grow.trans HG2.out (Grow.trans HG.out (Grow.undrew hu)))))
            have HCx := keep hce
            clear hcp hpi hce x1 x2
            go_upto_region 6 with fail
            refine wp_region_grow_named (by kernel_rfl) 12 (by kernel_rfl) [(32, 0), (33, 1), (34, 2), (35, 3), (36, 4), (37, 5), (38, 6), (39, 7), (40, 8), (41, 9), (42, 10), (43, 11)] (by kernel_rfl) [(0, true), (1, true), (2, true), (3, true), (4, true), (5, true), (6, true), (7, true), (8, true), (9, true), (10, true), (11, true)] (by kernel_rfl) rfl rfl ?_
            intro a0 ha0
            have hsz : a0.tmps.size = 67 := (size_at ha0).trans rfl
            have s3 := slot_at ha0 3 rfl
            have s6 := slot_at ha0 6 rfl
            have s10 := slot_at ha0 10 rfl
            have HA0 := keep ha0
            clear ha0
            -- operation 0
            apply lexf_eq hsz [] [(33, 1), (34, 2), (36, 4), (37, 5), (38, 6), (39, 7), (40, 8), (41, 9), (42, 10), (43, 11), (44, 12)] none (by kernel_rfl) (by kernel_rfl) (by kernel_rfl) (by kernel_rfl) rfl
            · intro xs w hw hp K hK
              go_simp
              exact hK _ (Grow.refl _)
            -- operation 1
            apply lexf_eq hsz [] [(32, 0), (35, 3), (36, 4), (37, 5), (38, 6), (39, 7), (40, 8), (41, 9), (42, 10), (43, 11), (44, 12)] none (by kernel_rfl) (by kernel_rfl) (by kernel_rfl) (by kernel_rfl) rfl
            · intro xs w hw hp K hK
              go_simp
              exact hK _ (Grow.refl _)
            -- operation 2
            apply lexf_eq hsz [(1, true)] [(32, 0), (33, 1), (36, 4), (37, 5), (38, 6), (39, 7), (40, 8), (41, 9), (42, 10), (43, 11), (44, 12)] none (by kernel_rfl) (by kernel_rfl) (by kernel_rfl) (by kernel_rfl) rfl
            · intro xs w hw hp K hK
              simp only [holdsL, List.nil_append, List.cons_append, List.getD_cons_succ, List.getD_cons_zero, if_true, and_true] at hp
              go_simp
              exact hK _ (Grow.refl _)
            -- operation 3
            apply lexf_eq hsz [(0, true), (2, true)] [(32, 0), (33, 1), (34, 2), (37, 5), (38, 6), (39, 7), (40, 8), (41, 9), (42, 10), (43, 11), (44, 12)] none (by kernel_rfl) (by kernel_rfl) (by kernel_rfl) (by kernel_rfl) rfl
            · intro xs w hw hp K hK
              simp only [holdsL, List.nil_append, List.cons_append, List.getD_cons_succ, List.getD_cons_zero, if_true, and_true] at hp
              have q2 : (n : Int) < (L.length : Int) := by omega
              go_simp
              exact hK _ (Grow.refl _)
            -- operation 4
            apply lexf_eq hsz [(3, true)] [(32, 0), (33, 1), (34, 2), (35, 3)] none (by kernel_rfl) (by kernel_rfl) (by kernel_rfl) (by kernel_rfl) rfl
            · intro xs w hw hp K hK
              simp only [holdsL, List.nil_append, List.cons_append, List.getD_cons_succ, List.getD_cons_zero, if_true, and_true] at hp
              go_simp
              exact hK _ (Grow.refl _)
            -- operation 5
            apply lexf_eq hsz [(4, true)] [(32, 0), (33, 1), (34, 2), (35, 3), (36, 4), (38, 6), (40, 8), (41, 9), (42, 10), (43, 11), (44, 12)] (some (36, true)) (by kernel_rfl) (by kernel_rfl) (by kernel_rfl) (by kernel_rfl) rfl
            · intro xs w hw hp K hK
              simp only [holdsL, List.nil_append, List.cons_append, List.getD_cons_succ, List.getD_cons_zero, if_true, and_true] at hp
              go_simp
              exact hK _ (Grow.refl _)
            -- operation 6
            apply lexf_eq hsz [(4, true)] [(32, 0), (33, 1), (34, 2), (35, 3), (36, 4), (37, 5), (40, 8), (41, 9), (42, 10), (43, 11), (44, 12)] (some (36, true)) (by kernel_rfl) (by kernel_rfl) (by kernel_rfl) (by kernel_rfl) rfl
            · intro xs w hw hp K hK
              simp only [holdsL, List.nil_append, List.cons_append, List.getD_cons_succ, List.getD_cons_zero, if_true, and_true] at hp
              go_simp
              exact hK _ (Grow.refl _)
            -- operation 7
            apply lexf_eq hsz [(4, true), (5, true), (6, true)] [(32, 0), (33, 1), (34, 2), (35, 3), (36, 4), (37, 5), (38, 6), (41, 9), (42, 10), (43, 11), (44, 12)] (some (36, true)) (by kernel_rfl) (by kernel_rfl) (by kernel_rfl) (by kernel_rfl) rfl
            · intro xs w hw hp K hK
              simp only [holdsL, List.nil_append, List.cons_append, List.getD_cons_succ, List.getD_cons_zero, if_true, and_true] at hp
              have q2 : (n : Int) < (L.length : Int) := by omega
              go_simp
              exact hK _ (Grow.refl _)
            -- operation 8
            apply lexf_eq hsz [(4, true), (7, true)] [(32, 0), (33, 1), (34, 2), (35, 3), (36, 4), (37, 5), (38, 6), (39, 7), (41, 9), (43, 11), (44, 12)] (some (36, true)) (by kernel_rfl) (by kernel_rfl) (by kernel_rfl) (by kernel_rfl) rfl
            · intro xs w hw hp K hK
              simp only [holdsL, List.nil_append, List.cons_append, List.getD_cons_succ, List.getD_cons_zero, if_true, and_true] at hp
              obtain ⟨c0, c1, c2⟩ := HC9.out w hw
              go_simp
              exact hK _ (Grow.refl _)
            -- operation 9
            apply lexf_eq hsz [(4, true)] [(32, 0), (33, 1), (34, 2), (35, 3), (36, 4), (37, 5), (38, 6), (39, 7), (40, 8), (43, 11), (44, 12)] (some (36, true)) (by kernel_rfl) (by kernel_rfl) (by kernel_rfl) (by kernel_rfl) rfl
            · intro xs w hw hp K hK
              simp only [holdsL, List.nil_append, List.cons_append, List.getD_cons_succ, List.getD_cons_zero, if_true, and_true] at hp
              obtain ⟨c0, c1, c2, _⟩ := HE9.out w hw
              go_simp
              exact hK _ (Grow.refl _)
            -- operation 10
            apply lexf_eq hsz [(4, true), (8, true), (9, true)] [(32, 0), (33, 1), (34, 2), (35, 3), (36, 4), (37, 5), (38, 6), (39, 7), (40, 8), (41, 9), (44, 12)] (some (36, true)) (by kernel_rfl) (by kernel_rfl) (by kernel_rfl) (by kernel_rfl) rfl
            · intro xs w hw hp K hK
              simp only [holdsL, List.nil_append, List.cons_append, List.getD_cons_succ, List.getD_cons_zero, if_true, and_true] at hp
              go_simp
              exact (HCp.out w).mono fun e w' h => ⟨_, h.1, hK _ h.2⟩
            -- operation 11
            apply lexf_eq hsz [(4, true), (10, true)] [(32, 0), (33, 1), (34, 2), (35, 3), (36, 4), (37, 5), (38, 6), (39, 7), (40, 8), (41, 9), (42, 10)] (some (36, true)) (by kernel_rfl) (by kernel_rfl) (by kernel_rfl) (by kernel_rfl) rfl
            · intro xs w hw hp K hK
              simp only [holdsL, List.nil_append, List.cons_append, List.getD_cons_succ, List.getD_cons_zero, if_true, and_true] at hp
              go_simp
              exact hK _ (Grow.refl _)
            intro xs w hw hp
            have ha0 := HA0.out
            clear HA0 hsz s3 s6 s10
            simp only [holdsL, List.nil_append, List.cons_append, List.getD_cons_succ, List.getD_cons_zero, if_true, and_true] at hp
            have h4 := hp.2.2.2.2.1
            have h11 := hp.2.2.2.2.2.2.2.2.2.2.2
            clear hp
            subst ha0
            simp only [putAll, h4, h11]
            have hg9 := Grow.undrew hw
            have HG9 := keep (Grow.trans HG.out hg9)
            clear hw h4 h11 HC9 HE9 hg9
            by_cases hlow : cmpE (gk, gp, gs) (k, p, s) < 0
            · have hnj : n < J := HPn.out.1 hlow
              go_wp2_with fail
              go_roundw
              case rel => exact ⟨n + 1, by omega, by go_num, HG9⟩
              case measure => simp [intOf]; omega
            · have hnj : n = J := by
                rcases Nat.lt_or_ge n J with h | h
                · exact absurd (HPn.out.2 h) hlow
                · omega
              subst hnj
              have HMm : Kept (decide ((k, p, s) ∈ L) = sameE (gk, gp, gs) (k, p, s)) := keep (by
                unfold sameE
                rw [← HGl.out]
                exact decide_eq_decide.2 (HMem.out.trans ⟨fun ⟨a, b⟩ => b, fun b => ⟨hlt, b⟩⟩))
              have HG10 := keep (Grow.trans HG2.out HG9.out)
              have q2 : (n : Int) < (L.length : Int) := by omega
              obtain ⟨c0, c1, c2⟩ := HCx.out w (Grow.trans HB12.out HG9.out)
              obtain ⟨e0, e1, e2, _⟩ := enres (HEw.out w HG10.out)
              go_upto_region 8 with fail
              clear hlow
              have hx := HX.out
              rw [HMm.out] at hx
              generalize hS : sameE (gk, gp, gs) (k, p, s) = S at *
              cases S with
              | true =>
                have HNo := keep (show insN P (k, p, s) = (zeroP, 140) from hx)
                clear hx HX HMm
                go_quiet (fail)
                clear c0 c1 c2 e0 e1 e2 hS q2
                generalize hwq : w.drewN _ = wq at *
                have HGq := keep (show Grow w0 wq by subst hwq; exact Grow.trans HG10.out (below_drewN (Grow.refl _) _))
                clear hwq
                have hR := HRw.out wq HGq.out
                have hz9 := HGq.out.size
                have Hset := keep (pgset hR (.int .i64 0) (.int .i64 0) (.int .i64 0) (.int .i64 0) (.string ⟨#[]⟩) (.slice none 0 0))
                have Hbut := keep (pgbut wq (w_.heap.size + 2) (.int .i64 0) (.int .i64 0) (.int .i64 0) (.int .i64 0) (.string ⟨#[]⟩) (.slice none 0 0))
                have hlt2 := hR.lt
                obtain ⟨r0, r1, r2, r3, r4, r5, f0, f1, f2, f3, f4, f5⟩ := pgres hR
                clear hR
                go_wp2_with fail
                rw [HNo.out]
                refine bodyPost_ret (v := .tuple #[pgV zeroP (.slice none 0 0), .int .i64 140]) ?_ rfl ⟨_, rfl, ItemsC.nil _, But.below (Grow.trans HG0.out HGq.out) Hbut.out (by omega) (by omega)⟩
                obtain ⟨s0, s1, s2, s3, s4, s5, _⟩ := pgres Hset.out
                simp [results, Tryz.results52, go_sem, s0, s1, s2, s3, s4, s5, pgV, zeroP]
                rfl
              | false =>
                have hx2 : insN P (k, p, s) = putN P n (enBytes (k, p, s) []) := hx
                generalize putN P n (enBytes (k, p, s) []) = R at *
                obtain ⟨Q, cd⟩ := R
                dsimp only at HPut3
                have HYes := keep hx2
                have HPu := HPut3
                unfold PgPost pgV at HPu
                clear hx hx2 HX HMm HPut3
                go_quiet (fail)
                clear c0 c1 c2 e0 e1 e2 hS q2
                generalize hwq : w.drewN _ = wq at *
                have HGq := keep (show Grow w0 wq by subst hwq; exact Grow.trans HG10.out (below_drewN (Grow.refl _) _))
                clear hwq
                have HP7 := keep (fun (u : World) (hu : Grow wq.drew u) => (HPw.out _ (Grow.trans HGq.out (Grow.undrew hu))))
                have HE7 := keep (fun (u : World) (hu : Grow wq.drew u) => (HEw.out _ (Grow.trans HGq.out (Grow.undrew hu))))
                have HI7 := keep (fun (u : World) (hu : Grow wq.drew u) => (HIw.out _ (Grow.trans HGq.out (Grow.undrew hu))))
                go_upto_region 10 with fail
                refine wp_region_grow_named (by kernel_rfl) 7 (by kernel_rfl) [(60, 0), (61, 1), (62, 2), (63, 3), (64, 4), (65, 5), (66, 6)] (by kernel_rfl) [(0, true), (1, true), (2, true), (3, true), (4, true), (5, true), (6, true)] (by kernel_rfl) rfl rfl ?_
                intro a0 ha0
                have hsz : a0.tmps.size = 67 := (size_at ha0).trans rfl
                have s2 := slot_at ha0 2 rfl
                have s3 := slot_at ha0 3 rfl
                have s10 := slot_at ha0 10 rfl
                have HA0 := keep ha0
                clear ha0
                -- operation 0
                apply lexf_eq hsz [] [(61, 1), (62, 2), (63, 3), (65, 5), (66, 6)] none (by kernel_rfl) (by kernel_rfl) (by kernel_rfl) (by kernel_rfl) rfl
                · intro xs w hw hp K hK
                  obtain ⟨p0, p1, p2, p3, p4, p5, _⟩ := pgres (HP7.out w hw)
                  go_simp
                  exact hK _ (Grow.refl _)
                -- operation 1
                apply lexf_eq hsz [] [(60, 0), (62, 2), (63, 3), (65, 5), (66, 6)] none (by kernel_rfl) (by kernel_rfl) (by kernel_rfl) (by kernel_rfl) rfl
                · intro xs w hw hp K hK
                  go_simp
                  exact hK _ (Grow.refl _)
                -- operation 2
                apply lexf_eq hsz [] [(60, 0), (61, 1), (64, 4), (65, 5), (66, 6)] none (by kernel_rfl) (by kernel_rfl) (by kernel_rfl) (by kernel_rfl) rfl
                · intro xs w hw hp K hK
                  obtain ⟨e0, e1, e2, _⟩ := enres (HE7.out w hw)
                  go_simp
                  exact hK _ (Grow.refl _)
                -- operation 3
                apply lexf_eq hsz [(2, true)] [(60, 0), (61, 1), (62, 2), (65, 5), (66, 6)] none (by kernel_rfl) (by kernel_rfl) (by kernel_rfl) (by kernel_rfl) rfl
                · intro xs w hw hp K hK
                  simp only [holdsL, List.nil_append, List.cons_append, List.getD_cons_succ, List.getD_cons_zero, if_true, and_true] at hp
                  go_simp
                  exact (HRaw.out w).mono fun e w' h => ⟨_, h.1, hK _ h.2⟩
                -- operation 4
                refine lexf_says hsz (fun v u => ∃ iv, v = .tuple #[pgV Q iv, .int .i64 cd] ∧ ItemsC u iv Q.items) (fun _ _ _ g h => h.elim fun iv h => ⟨iv, h.1, h.2.fits g⟩) [(0, true), (1, true), (3, true)] [(60, 0), (61, 1), (62, 2), (63, 3)] none (by kernel_rfl) (by kernel_rfl) (by kernel_rfl) (by kernel_rfl) rfl ?_ ?_
                · intro xs w hw hp K hK
                  simp only [holdsL, List.nil_append, List.cons_append, List.getD_cons_succ, List.getD_cons_zero, if_true, and_true] at hp
                  go_simp
                  exact (HPu.out w (HI7.out w hw)).mono fun e w' ⟨iv, h1, h2, h3⟩ => ⟨_, h1, hK _ _ ⟨iv, rfl, h2⟩ h3⟩
                -- operation 5
                refine lexf_says hsz (fun v u => ∃ iv, v = pgV Q iv ∧ ItemsC u iv Q.items) (fun _ _ _ g h => h.elim fun iv h => ⟨iv, h.1, h.2.fits g⟩) [(4, true)] [(60, 0), (61, 1), (62, 2), (63, 3), (64, 4), (66, 6)] none (by kernel_rfl) (by kernel_rfl) (by kernel_rfl) (by kernel_rfl) rfl ?_ ?_
                · intro xs w hw hp K hK
                  simp only [holdsL, List.nil_append, List.cons_append, List.getD_cons_succ, List.getD_cons_zero, if_true, and_true] at hp
                  obtain ⟨iv8, h8, hit⟩ := hp
                  go_simp
                  exact hK _ _ ⟨iv8, rfl, hit⟩ (Grow.refl _)
                -- operation 6
                refine lexf_says hsz (fun v _ => v = .int .i64 cd) (fun _ _ _ _ h => h) [(4, true)] [(60, 0), (61, 1), (62, 2), (63, 3), (64, 4), (65, 5)] none (by kernel_rfl) (by kernel_rfl) (by kernel_rfl) (by kernel_rfl) rfl ?_ ?_
                · intro xs w hw hp K hK
                  simp only [holdsL, List.nil_append, List.cons_append, List.getD_cons_succ, List.getD_cons_zero, if_true, and_true] at hp
                  obtain ⟨iv8, h8, hit⟩ := hp
                  go_simp
                  exact hK _ _ rfl (Grow.refl _)
                intro xs w hw hp
                have ha0 := HA0.out
                clear HA0 hsz s2 s3 s10
                simp only [holdsL, List.nil_append, List.cons_append, List.getD_cons_succ, List.getD_cons_zero, if_true, and_true] at hp
                have h9 := hp.2.2.2.2.2.1
                have h10 := hp.2.2.2.2.2.2
                clear hp
                subst ha0
                simp only [putAll, h10]
                obtain ⟨iv9, h9, hit⟩ := h9
                simp only [h9]
                obtain ⟨qa, qc, rfl⟩ := itemsS_form hit.1
                have hgw := Grow.trans HGq.out hw.undrew
                have hR := HRw.out _ hgw
                have hbb : Below w_.heap.size w_ w := Grow.trans HG0.out hgw
                obtain ⟨r0, r1, r2, r3, r4, r5, f0, f1, f2, f3, f4, f5⟩ := pgres hR
                have Hset := keep (pgset hR (.int .i64 Q.lsn) (.int .i64 Q.kind) (.int .i64 Q.level) (.int .i64 Q.right) (.string (str Q.high)) (.slice qa Q.items.length qc))
                have Hbut := keep (pgbut w (w_.heap.size + 2) (.int .i64 Q.lsn) (.int .i64 Q.kind) (.int .i64 Q.level) (.int .i64 Q.right) (.string (str Q.high)) (.slice qa Q.items.length qc))
                have Hit := keep hit
                have HR := keep hR
                have Hbb := keep hbb
                have hlt2 := hR.lt
                clear hw h9 h10 hit hR hbb hgw
                unfold pgV
                go_wp2_with fail
                rw [HYes.out]
                refine bodyPost_ret (v := .tuple #[pgV Q (.slice qa Q.items.length qc), .int .i64 cd]) ?_ rfl ⟨_, rfl, itemsC_but Hit.out Hbut.out HR.out (by decide), But.below Hbb.out Hbut.out (by omega) (by omega)⟩
                obtain ⟨s0, s1, s2, s3, s4, s5, _⟩ := pgres Hset.out
                simp [results, Tryz.results52, go_sem, s0, s1, s2, s3, s4, s5, pgV]
          · have hnj : n = L.length := by omega
            have hJ : J = L.length := by omega
            subst hnj hJ
            have hx := HX.out
            rw [decide_eq_false (show ¬ (k, p, s) ∈ L from fun h => by obtain ⟨a, _⟩ := HMem.out.1 h; omega)] at hx
            have hx2 : insN P (k, p, s) = putN P L.length (enBytes (k, p, s) []) := hx
            generalize putN P L.length (enBytes (k, p, s) []) = R at *
            obtain ⟨Q, cd⟩ := R
            dsimp only at HPut3
            have HYes := keep hx2
            have HPu := HPut3
            unfold PgPost pgV at HPu
            have HG10 := keep (Grow.trans HG2.out HG.out)
            clear hx hx2 HX HPut3
            go_upto_region 6 with fail
            go_quiet (fail)
            generalize hwp : wr.drewN _ = wp at *
            have HGp := keep (show Grow w0 wp by subst hwp; exact Grow.trans HG10.out (below_drewN (Grow.refl _) _))
            clear hwp
            go_upto_region 8 with fail
            go_quiet (fail)
            generalize hwq : wp.drewN _ = wq at *
            have HGq := keep (show Grow w0 wq by subst hwq; exact Grow.trans HGp.out (below_drewN (Grow.refl _) _))
            clear hwq
            have HP7 := keep (fun (u : World) (hu : Grow wq.drew u) => (HPw.out _ (Grow.trans HGq.out (Grow.undrew hu))))
            have HE7 := keep (fun (u : World) (hu : Grow wq.drew u) => (HEw.out _ (Grow.trans HGq.out (Grow.undrew hu))))
            have HI7 := keep (fun (u : World) (hu : Grow wq.drew u) => (HIw.out _ (Grow.trans HGq.out (Grow.undrew hu))))
            go_upto_region 10 with fail
            refine wp_region_grow_named (by kernel_rfl) 7 (by kernel_rfl) [(60, 0), (61, 1), (62, 2), (63, 3), (64, 4), (65, 5), (66, 6)] (by kernel_rfl) [(0, true), (1, true), (2, true), (3, true), (4, true), (5, true), (6, true)] (by kernel_rfl) rfl rfl ?_
            intro a0 ha0
            have hsz : a0.tmps.size = 67 := (size_at ha0).trans rfl
            have s2 := slot_at ha0 2 rfl
            have s3 := slot_at ha0 3 rfl
            have s10 := slot_at ha0 10 rfl
            have HA0 := keep ha0
            clear ha0
            -- operation 0
            apply lexf_eq hsz [] [(61, 1), (62, 2), (63, 3), (65, 5), (66, 6)] none (by kernel_rfl) (by kernel_rfl) (by kernel_rfl) (by kernel_rfl) rfl
            · intro xs w hw hp K hK
              obtain ⟨p0, p1, p2, p3, p4, p5, _⟩ := pgres (HP7.out w hw)
              go_simp
              exact hK _ (Grow.refl _)
            -- operation 1
            apply lexf_eq hsz [] [(60, 0), (62, 2), (63, 3), (65, 5), (66, 6)] none (by kernel_rfl) (by kernel_rfl) (by kernel_rfl) (by kernel_rfl) rfl
            · intro xs w hw hp K hK
              go_simp
              exact hK _ (Grow.refl _)
            -- operation 2
            apply lexf_eq hsz [] [(60, 0), (61, 1), (64, 4), (65, 5), (66, 6)] none (by kernel_rfl) (by kernel_rfl) (by kernel_rfl) (by kernel_rfl) rfl
            · intro xs w hw hp K hK
              obtain ⟨e0, e1, e2, _⟩ := enres (HE7.out w hw)
              go_simp
              exact hK _ (Grow.refl _)
            -- operation 3
            apply lexf_eq hsz [(2, true)] [(60, 0), (61, 1), (62, 2), (65, 5), (66, 6)] none (by kernel_rfl) (by kernel_rfl) (by kernel_rfl) (by kernel_rfl) rfl
            · intro xs w hw hp K hK
              simp only [holdsL, List.nil_append, List.cons_append, List.getD_cons_succ, List.getD_cons_zero, if_true, and_true] at hp
              go_simp
              exact (HRaw.out w).mono fun e w' h => ⟨_, h.1, hK _ h.2⟩
            -- operation 4
            refine lexf_says hsz (fun v u => ∃ iv, v = .tuple #[pgV Q iv, .int .i64 cd] ∧ ItemsC u iv Q.items) (fun _ _ _ g h => h.elim fun iv h => ⟨iv, h.1, h.2.fits g⟩) [(0, true), (1, true), (3, true)] [(60, 0), (61, 1), (62, 2), (63, 3)] none (by kernel_rfl) (by kernel_rfl) (by kernel_rfl) (by kernel_rfl) rfl ?_ ?_
            · intro xs w hw hp K hK
              simp only [holdsL, List.nil_append, List.cons_append, List.getD_cons_succ, List.getD_cons_zero, if_true, and_true] at hp
              go_simp
              exact (HPu.out w (HI7.out w hw)).mono fun e w' ⟨iv, h1, h2, h3⟩ => ⟨_, h1, hK _ _ ⟨iv, rfl, h2⟩ h3⟩
            -- operation 5
            refine lexf_says hsz (fun v u => ∃ iv, v = pgV Q iv ∧ ItemsC u iv Q.items) (fun _ _ _ g h => h.elim fun iv h => ⟨iv, h.1, h.2.fits g⟩) [(4, true)] [(60, 0), (61, 1), (62, 2), (63, 3), (64, 4), (66, 6)] none (by kernel_rfl) (by kernel_rfl) (by kernel_rfl) (by kernel_rfl) rfl ?_ ?_
            · intro xs w hw hp K hK
              simp only [holdsL, List.nil_append, List.cons_append, List.getD_cons_succ, List.getD_cons_zero, if_true, and_true] at hp
              obtain ⟨iv8, h8, hit⟩ := hp
              go_simp
              exact hK _ _ ⟨iv8, rfl, hit⟩ (Grow.refl _)
            -- operation 6
            refine lexf_says hsz (fun v _ => v = .int .i64 cd) (fun _ _ _ _ h => h) [(4, true)] [(60, 0), (61, 1), (62, 2), (63, 3), (64, 4), (65, 5)] none (by kernel_rfl) (by kernel_rfl) (by kernel_rfl) (by kernel_rfl) rfl ?_ ?_
            · intro xs w hw hp K hK
              simp only [holdsL, List.nil_append, List.cons_append, List.getD_cons_succ, List.getD_cons_zero, if_true, and_true] at hp
              obtain ⟨iv8, h8, hit⟩ := hp
              go_simp
              exact hK _ _ rfl (Grow.refl _)
            intro xs w hw hp
            have ha0 := HA0.out
            clear HA0 hsz s2 s3 s10
            simp only [holdsL, List.nil_append, List.cons_append, List.getD_cons_succ, List.getD_cons_zero, if_true, and_true] at hp
            have h9 := hp.2.2.2.2.2.1
            have h10 := hp.2.2.2.2.2.2
            clear hp
            subst ha0
            simp only [putAll, h10]
            obtain ⟨iv9, h9, hit⟩ := h9
            simp only [h9]
            obtain ⟨qa, qc, rfl⟩ := itemsS_form hit.1
            have hgw := Grow.trans HGq.out hw.undrew
            have hR := HRw.out _ hgw
            have hbb : Below w_.heap.size w_ w := Grow.trans HG0.out hgw
            obtain ⟨r0, r1, r2, r3, r4, r5, f0, f1, f2, f3, f4, f5⟩ := pgres hR
            have Hset := keep (pgset hR (.int .i64 Q.lsn) (.int .i64 Q.kind) (.int .i64 Q.level) (.int .i64 Q.right) (.string (str Q.high)) (.slice qa Q.items.length qc))
            have Hbut := keep (pgbut w (w_.heap.size + 2) (.int .i64 Q.lsn) (.int .i64 Q.kind) (.int .i64 Q.level) (.int .i64 Q.right) (.string (str Q.high)) (.slice qa Q.items.length qc))
            have Hit := keep hit
            have HR := keep hR
            have Hbb := keep hbb
            have hlt2 := hR.lt
            clear hw h9 h10 hit hR hbb hgw
            unfold pgV
            go_wp2_with fail
            rw [HYes.out]
            refine bodyPost_ret (v := .tuple #[pgV Q (.slice qa Q.items.length qc), .int .i64 cd]) ?_ rfl ⟨_, rfl, itemsC_but Hit.out Hbut.out HR.out (by decide), But.below Hbb.out Hbut.out (by omega) (by omega)⟩
            obtain ⟨s0, s1, s2, s3, s4, s5, _⟩ := pgres Hset.out
            simp [results, Tryz.results52, go_sem, s0, s1, s2, s3, s4, s5, pgV]

end Go.Proofs.YtaninphcgeaepaaGreat

/- The document's Remove. -/
namespace Go.Proofs.YtaninphcgeaepaaGreat
open Go.RowKit
attribute [local simp] eql_entry
attribute [local go_sem] guard_entry

/-- A leaf without an entry. -/
def remN (P : Pg) (e : En) : Pg × Int := if entriesOk P && decide (e ∈ ensN P) then (outP P (posE (ensN P) e), 0) else (zeroP, 140)
theorem ent_open {P : Pg} (h : entriesOk P = true) : openOk P = true := by
  unfold entriesOk at h
  rw [Bool.and_eq_true] at h
  exact h.1
theorem pos_at {l : List En} {t : En} (h : Sorted l) {k : Nat} (hk : k < l.length) (he : l[k] = t) : posE l t = k := by
  obtain ⟨h1, h2⟩ := (mem_pos h).1 (show t ∈ l from he ▸ List.getElem_mem hk)
  exact sorted_inj h h1 hk (h2.trans he.symm)
theorem rem_yes {P : Pg} {e : En} (h : entriesOk P = true) {k : Nat} (hk : k < (ensN P).length) (he : (ensN P)[k] = e) : remN P e = (outP P k, 0) := by
  unfold remN
  rw [h, Bool.true_and, decide_eq_true (show e ∈ ensN P from he ▸ List.getElem_mem hk), if_pos rfl, pos_at (open_sorted (ent_open h)) hk he]
theorem rem_no {P : Pg} {e : En} (h : entriesOk P = false ∨ e ∉ ensN P) : remN P e = (zeroP, 140) := by
  unfold remN
  rw [if_neg]
  intro h2
  rw [Bool.and_eq_true] at h2
  rcases h with h | h
  · rw [h] at h2; exact absurd h2.1 (by decide)
  · exact h (of_decide_eq_true h2.2)
theorem rem_post {P : Pg} {e : En} {w w' : World} {x : Ending} (h : RemPost P e w x w') : PgPost (remN P e).1 (remN P e).2 w x w' := by
  obtain ⟨Q, c, iv, hx, hi, hb, h2⟩ := h
  rcases h2 with ⟨h3, k, hk, he, rfl, rfl⟩ | ⟨h3, rfl, rfl⟩
  · rw [rem_yes h3 hk he]; exact ⟨iv, hx, hi, hb⟩
  · rw [rem_no h3]; exact ⟨iv, hx, hi, hb⟩
theorem remove_fn (P : Pg) (iv : Value) (e : En) (w_ : World) (hin : PgIn w_ iv P) :
    Calls Tryz.prog 78 #[pgV P iv, enV e] w_ (PgPost (remN P e).1 (remN P e).2 w_) := (remove_any P iv e w_ hin).mono fun _ _ h => rem_post h

end Go.Proofs.YtaninphcgeaepaaGreat
