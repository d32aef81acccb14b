import Derived.Test.YtigbgodbalpgdaaKSl2
import Derived.Test.YtigbgodbalpgdaaKSp2
import Derived.Test.YtigbgodbalpgdaaKEn1
import Derived.Test.YtigbgodbalpgdaaKAp1
/- almonrylaw14.NodeSplits. -/
namespace Go.Proofs.Ytigbgodbalpgdaa
open Go.RowKit
attribute [local go_sem] givesF_none givesF_some evalF_tmp evalF_const evalF_global evalF_func lookL isB_bool isB_undef givesUpon_value givesUpon_skip givesUpon_enter

attribute [local simp] eql_entry neq_entry sameE_self
attribute [local go_sem] guard_entry

theorem entries_half {l a b : List En} {s : En} {A : Pg} (H : Half l a b s A) (iv : Value) (u : World) (hi : ItemsC u iv A.items) :
    Calls Try.prog 21 #[pgV A iv] u fun x w' => ∃ p c, x = .returned (.tuple #[.slice p a.length c, .int .i64 0]) ∧ EnsS w' (.slice p a.length c) a ∧ Below u.heap.size u w' := by
  refine (entries_node A iv u (H.ain u iv hi)).mono fun x w' hx => ?_
  unfold EntPost entriesOk at hx
  rw [H.aopen, H.alev, H.aens] at hx
  obtain ⟨⟨p, c, h1, h2⟩, h3⟩ := hx
  exact ⟨p, c, h1, h2, h3⟩

set_option maxRecDepth 100000 in
set_option maxHeartbeats 4000000 in
theorem splits_any (l : List En) (v : Value) (e : En) (w_ : World) (h : Row w_ 23 v l.length (eCells l)) (hl : (l.length : Int) ≤ 4398046510976) :
    Calls Try.prog 5 #[v, enV e] w_ fun x w' => x = .returned (.bool true) ∧ Below w_.heap.size w_ w' := by
  have hgood := growL_good l
  have hen := fun (u : World) (iv : Value) (hi : ItemsC u iv (pgOf (growL l)).items) => entries_of hgood iv u hi
  have hgr0 := fun (u : World) (hu : Grow w_ u) => grown_any l v u (Row.fits h hu) hl
  have hopen := open_of hgood
  have hil : (pgOf (growL l)).items.length = (growL l).length := by simp [pgOf]
  have hno := fun (h2 : (growL l).length < 2) (u : World) (iv : Value) (hi : ItemsC u iv (pgOf (growL l)).items) => split_no (pgOf (growL l)) iv 9 u (pgIn_good hgood hi) (by
    unfold splitOk
    rw [decide_eq_false (show ¬ 2 ≤ (pgOf (growL l)).items.length by omega)]
    simp)
  have hyes := fun (h2 : 2 ≤ (growL l).length) (u : World) (iv : Value) (hi : ItemsC u iv (pgOf (growL l)).items) => split_leaf (pgOf (growL l)) iv 9 u (pgIn_good hgood hi) hi.2 rfl (by
    unfold splitOk
    rw [hopen, decide_eq_true (show 2 ≤ (pgOf (growL l)).items.length by omega)]
    rfl)
  have hhalf := fun (h2 : 2 ≤ (growL l).length) => half_of hgood h2
  clear hopen hil
  generalize growL l = L at *
  obtain ⟨a0_, cap, rfl⟩ := en_form h
  have hl255 := good_length hgood
  obtain ⟨k, p, s⟩ := e
  unfold enV at *
  dsimp only at *
  obtain ⟨w0, hw0⟩ : ∃ w0, w0 = (w_.alloc (.cells #[.string (str k), .int .i64 p, .int .i64 s] 23)) := ⟨_, rfl⟩
  have hg0 : Grow w_ w0 := by subst hw0; exact (Grow.refl w_).alloc _
  have hE0 : Blk w0 w_.heap.size 23 [.string (str k), .int .i64 p, .int .i64 s] := by
    have := Blk.new w_ 23 [.string (str k), .int .i64 p, .int .i64 s]
    subst hw0; exact this
  have HGr := keep (hgr0 w0 hg0)
  have HEn := keep hen
  have HNo := keep hno
  have HYes := keep hyes
  have HHalf := keep hhalf
  have HG0 := keep hg0
  have HE0 := keep hE0
  have HGood := keep hgood
  clear hgr0 hen hno hyes hhalf hg0 hE0 h hl hgood
  go_enter Try.func5, Try.ntmps5
  go_upto_region 1 with fail
  rw [← hw0]
  clear hw0
  go_wp2_with fail
  refine HGr.out.mono ?_
  rintro x w1 ⟨iv, rfl, hi1, hb1⟩
  obtain ⟨pa, pc, rfl⟩ := itemsS_form hi1.1
  generalize hQ0 : pgOf L = P at *
  have HQ0 := keep hQ0
  clear hQ0
  unfold pgV
  go_upto_region 2 with fail
  obtain ⟨w2, hw2⟩ : ∃ w2, w2 = w1.alloc (.cells (pgCells P (.slice pa P.items.length pc)).toArray 39) := ⟨_, rfl⟩
  have hg2 : Grow w0 w2 := by subst hw2; exact Grow.alloc hb1 _
  have hP2 : Blk w2 w1.heap.size 39 (pgCells P (.slice pa P.items.length pc)) := by subst hw2; exact Blk.new w1 _ _
  have hi2 : ItemsC w2 (.slice pa P.items.length pc) P.items := hi1.fits (by subst hw2; exact (Grow.refl _).alloc _)
  have HP2 := keep hP2
  have HI2 := keep hi2
  have HG2 := keep hg2
  unfold pgCells at hw2 hP2
  rw [← hw2]
  clear hw2 hb1 hi1 hi2 hg2 HGr
  obtain ⟨p0, p1, p2, p3, p4, p5, _⟩ := pgres hP2
  clear hP2
  have hen := HEn.out w2 _ HI2.out
  unfold pgV at hen
  have HEn2 := keep hen
  clear hen HEn
  go_wp2_with fail
  refine HEn2.out.mono ?_
  rintro x w3 ⟨ea, ec, rfl, hes, hb3⟩
  have HEs := keep hes
  have HP3 := keep (HP2.out.fits hb3)
  have HI3 := keep (HI2.out.fits hb3)
  have HG3 := keep (Grow.trans HG2.out hb3)
  have hP3 := HP3.out
  unfold pgCells at hP3
  clear p0 p1 p2 p3 p4 p5 hes hb3 HP2 HI2 HG2 HEn2
  obtain ⟨p0, p1, p2, p3, p4, p5, _⟩ := pgres hP3
  clear hP3
  by_cases h2 : 2 ≤ L.length
  · obtain ⟨H, hR⟩ := HHalf.out h2
    have hsp := HYes.out h2 w3 _ HI3.out
    rw [hR] at hsp
    generalize borderN P = sb at *
    generalize leftN P 9 = A at *
    generalize List.take (halfN L.length) L = a at *
    generalize List.drop (halfN L.length) L = b at *
    have hb0 : (pgOf b).right = P.right ∧ (pgOf b).high = P.high := by rw [← HQ0.out]; exact ⟨rfl, rfl⟩
    generalize hQb : pgOf b = B at *
    obtain ⟨bk, bp, bs⟩ := sb
    unfold SplitPost pgV enV at hsp
    have HSp := keep hsp
    have HH := keep H
    have HQb := keep hQb
    have HB0 := keep hb0
    clear hsp H hQb hb0 hR HYes HNo HHalf
    go_wp2_with fail
    refine HSp.out.mono ?_
    rintro x w4 ⟨av, bv, rfl, hia, hib, hb4⟩
    obtain ⟨aa, ac, rfl⟩ := itemsS_form hia.1
    obtain ⟨ba, bc, rfl⟩ := itemsS_form hib.1
    go_upto_region 4 with fail
    obtain ⟨w5, hw5⟩ : ∃ w5, w5 = ((w4.alloc (.cells (pgCells A (.slice aa A.items.length ac)).toArray 39)).alloc (.cells (pgCells B (.slice ba B.items.length bc)).toArray 39)).alloc (.cells #[.string (str bk), .int .i64 bp, .int .i64 bs] 23) := ⟨_, rfl⟩
    have hg5 : Grow w3 w5 := by subst hw5; exact Grow.alloc (Grow.alloc (Grow.alloc hb4 _) _) _
    have hg45 : Grow w4 w5 := by subst hw5; exact (((Grow.refl _).alloc _).alloc _).alloc _
    have hA5 : Blk w5 w4.heap.size 39 (pgCells A (.slice aa A.items.length ac)) := by
      have := ((Blk.new w4 39 (pgCells A (.slice aa A.items.length ac))).alloc (.cells (pgCells B (.slice ba B.items.length bc)).toArray 39)).alloc (.cells #[.string (str bk), .int .i64 bp, .int .i64 bs] 23)
      subst hw5; exact this
    have hB5 : Blk w5 (w4.heap.size + 1) 39 (pgCells B (.slice ba B.items.length bc)) := by
      have := (Blk.new (w4.alloc (.cells (pgCells A (.slice aa A.items.length ac)).toArray 39)) 39 (pgCells B (.slice ba B.items.length bc))).alloc (.cells #[.string (str bk), .int .i64 bp, .int .i64 bs] 23)
      have e : (w4.alloc (.cells (pgCells A (.slice aa A.items.length ac)).toArray 39)).heap.size = w4.heap.size + 1 := by simp
      rw [e] at this
      subst hw5; exact this
    have hX5 : Blk w5 (w4.heap.size + 2) 23 [.string (str bk), .int .i64 bp, .int .i64 bs] := by
      have := Blk.new ((w4.alloc (.cells (pgCells A (.slice aa A.items.length ac)).toArray 39)).alloc (.cells (pgCells B (.slice ba B.items.length bc)).toArray 39)) 23 [.string (str bk), .int .i64 bp, .int .i64 bs]
      have e : ((w4.alloc (.cells (pgCells A (.slice aa A.items.length ac)).toArray 39)).alloc (.cells (pgCells B (.slice ba B.items.length bc)).toArray 39)).heap.size = w4.heap.size + 2 := by simp
      rw [e] at this
      subst hw5; exact this
    have HA5 := keep hA5
    have HB5 := keep hB5
    have HX5 := keep hX5
    have HIA := keep (hia.fits hg45)
    have HIB := keep (hib.fits hg45)
    have HG5 := keep hg5
    unfold pgCells at hw5 hA5
    rw [← hw5]
    clear hw5 hb4 hia hib hg5 hg45 hB5 hX5 p0 p1 p2 p3 p4 p5
    obtain ⟨q0, q1, q2, q3, q4, q5, _⟩ := pgres hA5
    clear hA5
    have hea := entries_half HH.out _ w5 HIA.out
    unfold pgV at hea
    have HEa := keep hea
    clear hea
    go_wp2_with fail
    refine HEa.out.mono ?_
    rintro x w6 ⟨xa, xc, rfl, hxs, hb6⟩
    have HXs := keep hxs
    have HG6 := keep hb6
    have hB6 := HB5.out.fits hb6
    have heb := entries_of HH.out.bgood _ w6 (by rw [HQb.out]; exact HIB.out.fits hb6)
    rw [HQb.out] at heb
    unfold pgV at heb
    have HEb := keep heb
    unfold pgCells at hB6
    clear q0 q1 q2 q3 q4 q5 hxs hb6 heb HEa
    obtain ⟨q0, q1, q2, q3, q4, q5, _⟩ := pgres hB6
    clear hB6
    go_wp2_with fail
    refine HEb.out.mono ?_
    rintro x w7 ⟨ya, yc, rfl, hys, hb7⟩
    have HYs := keep hys
    have HG7 := keep hb7
    clear q0 q1 q2 q3 q4 q5 hys hb7 HEb
    go_upto_region 8 with fail
    obtain ⟨j, Hj⟩ : ∃ j, a.length = j + 1 := ⟨a.length - 1, by have := HH.out.apos; omega⟩
    have Hjn := keep Hj
    have hal : a.length + b.length = L.length := by rw [← List.length_append, HH.out.app]
    have Hal := keep hal
    have hXe := en_at HXs.out.weak (m := j) (by omega)
    have hlast : a[j]'(by omega) = (bk, bp, bs) := by
      have h1 := HH.out.last (by omega)
      have e : a.length - 1 = j := by omega
      simp only [e] at h1
      exact h1
    rw [hlast] at hXe
    obtain ⟨c1, off1, cap1, e1, hc1⟩ := hXe
    simp only [Value.slice.injEq] at e1
    obtain ⟨rfl, x1, x2⟩ := e1
    dsimp only at hc1
    have HX7 := keep (fun (u : World) (hu : Grow w7.drew u) => hc1 u (Grow.trans HG7.out (Grow.undrew hu)))
    have HE7 := keep (fun (u : World) (hu : Grow w7.drew u) => enres (HX5.out.fits (Grow.trans HG6.out (Grow.trans HG7.out (Grow.undrew hu)))))
    have hjb : a.length ≤ 255 := by omega
    clear hc1 x1 x2 hlast hal Hj
    refine wp_region_m_named (by kernel_rfl) 35 21 (fun j => decide (j = 21) || decide (23 ≤ j)) (From w7.heap.size) (From.refl _ _) (fun _ _ => From.grow) (fun _ _ _ => From.trans) (by kernel_rfl)  (by kernel_rfl) [(58, 0), (59, 1), (60, 2), (61, 3), (62, 4), (63, 5), (64, 6), (65, 7), (66, 8), (67, 9), (68, 10), (69, 11), (70, 12), (71, 13), (72, 14), (73, 15), (74, 16), (75, 17), (76, 18), (77, 19), (78, 20), (79, 21), (80, 22), (81, 23), (82, 24), (83, 25), (84, 26), (85, 27), (86, 28), (87, 29), (88, 30), (89, 31), (90, 32), (91, 33), (92, 34)] (by kernel_rfl) [(0, true), (1, true), (2, true), (3, true), (4, true), (5, true), (6, true), (7, true), (8, true), (9, true), (10, true), (11, true), (12, true), (13, true), (14, true), (15, true), (16, true), (17, true), (18, true), (19, true), (20, true), (21, true), (22, true), (23, true), (24, true), (25, true), (26, true), (27, true), (28, true), (29, true), (30, true), (31, true), (32, true), (33, true), (34, true)] (by kernel_rfl) rfl rfl ?_
    intro a0 ha0
    have hsz : a0.tmps.size = 191 := (size_at ha0).trans rfl
    have s6 := slot_at ha0 6 rfl
    have s10 := slot_at ha0 10 rfl
    have s12 := slot_at ha0 12 rfl
    have s13 := slot_at ha0 13 rfl
    have s14 := slot_at ha0 14 rfl
    have s15 := slot_at ha0 15 rfl
    have HA0 := keep ha0
    clear ha0
    -- operation 0
    apply lexm_eq hsz [] [(60, 2), (61, 3), (62, 4), (63, 5), (64, 6), (65, 7), (66, 8), (67, 9), (68, 10), (69, 11), (70, 12), (71, 13), (72, 14), (73, 15), (74, 16), (75, 17), (76, 18), (77, 19), (78, 20), (79, 21), (80, 22), (81, 23), (82, 24), (83, 25), (84, 26), (85, 27), (86, 28), (87, 29), (88, 30), (89, 31), (90, 32), (91, 33), (92, 34), (93, 35)] none (by kernel_rfl) (by kernel_rfl) (by kernel_rfl) (by kernel_rfl) rfl (by decide)
    · intro xs w hw hp K hK
      go_simp
      exact hK _ (Grow.refl _)
    -- operation 1
    apply lexm_eq hsz [(0, true)] [(58, 0), (61, 3), (62, 4), (63, 5), (64, 6), (65, 7), (66, 8), (67, 9), (68, 10), (69, 11), (70, 12), (71, 13), (72, 14), (73, 15), (74, 16), (75, 17), (76, 18), (77, 19), (78, 20), (79, 21), (80, 22), (81, 23), (82, 24), (83, 25), (84, 26), (85, 27), (86, 28), (87, 29), (88, 30), (89, 31), (90, 32), (91, 33), (92, 34), (93, 35)] none (by kernel_rfl) (by kernel_rfl) (by kernel_rfl) (by kernel_rfl) rfl (by decide)
    · intro xs w hw hp K hK
      simp only [holdsL, List.nil_append, List.cons_append, List.getD_cons_succ, List.getD_cons_zero, if_true, and_true] at hp
      go_simp
      exact hK _ (Grow.refl _)
    -- operation 2
    apply lexm_eq hsz [(1, true)] [(58, 0), (59, 1), (65, 7), (66, 8), (67, 9), (68, 10), (69, 11), (70, 12), (71, 13), (72, 14), (73, 15), (74, 16), (75, 17), (76, 18), (77, 19), (78, 20), (79, 21), (80, 22), (81, 23), (82, 24), (83, 25), (84, 26), (85, 27), (86, 28), (87, 29), (88, 30), (89, 31), (90, 32), (91, 33), (92, 34), (93, 35)] none (by kernel_rfl) (by kernel_rfl) (by kernel_rfl) (by kernel_rfl) rfl (by decide)
    · intro xs w hw hp K hK
      simp only [holdsL, List.nil_append, List.cons_append, List.getD_cons_succ, List.getD_cons_zero, if_true, and_true] at hp
      go_simp
      exact hK _ (Grow.refl _)
    -- operation 3
    apply lexm_eq hsz [(2, true)] [(58, 0), (59, 1), (60, 2), (63, 5), (64, 6), (65, 7), (66, 8), (67, 9), (68, 10), (69, 11), (70, 12), (71, 13), (72, 14), (73, 15), (74, 16), (75, 17), (76, 18), (77, 19), (78, 20), (79, 21), (80, 22), (81, 23), (82, 24), (83, 25), (84, 26), (85, 27), (86, 28), (87, 29), (88, 30), (89, 31), (90, 32), (91, 33), (92, 34), (93, 35)] (some (60, false)) (by kernel_rfl) (by kernel_rfl) (by kernel_rfl) (by kernel_rfl) rfl (by decide)
    · intro xs w hw hp K hK
      simp only [holdsL, List.nil_append, List.cons_append, List.getD_cons_succ, List.getD_cons_zero, if_true, and_true] at hp
      go_simp
      exact hK _ (Grow.refl _)
    -- operation 4
    apply lexm_eq hsz [(2, true), (3, true)] [(58, 0), (59, 1), (60, 2), (61, 3), (64, 6), (65, 7), (66, 8), (67, 9), (68, 10), (69, 11), (70, 12), (71, 13), (72, 14), (73, 15), (74, 16), (75, 17), (76, 18), (77, 19), (78, 20), (79, 21), (80, 22), (81, 23), (82, 24), (83, 25), (84, 26), (85, 27), (86, 28), (87, 29), (88, 30), (89, 31), (90, 32), (91, 33), (92, 34), (93, 35)] (some (60, false)) (by kernel_rfl) (by kernel_rfl) (by kernel_rfl) (by kernel_rfl) rfl (by decide)
    · intro xs w hw hp K hK
      simp only [holdsL, List.nil_append, List.cons_append, List.getD_cons_succ, List.getD_cons_zero, if_true, and_true] at hp
      go_simp
      exact hK _ (Grow.refl _)
    -- operation 5
    apply lexm_eq hsz [(2, true), (4, true)] [(58, 0), (59, 1), (60, 2), (61, 3), (62, 4), (65, 7), (66, 8), (67, 9), (68, 10), (69, 11), (70, 12), (71, 13), (72, 14), (73, 15), (74, 16), (75, 17), (76, 18), (77, 19), (78, 20), (79, 21), (80, 22), (81, 23), (82, 24), (83, 25), (84, 26), (85, 27), (86, 28), (87, 29), (88, 30), (89, 31), (90, 32), (91, 33), (92, 34), (93, 35)] none (by kernel_rfl) (by kernel_rfl) (by kernel_rfl) (by kernel_rfl) rfl (by decide)
    · intro xs w hw hp K hK
      simp only [holdsL, List.nil_append, List.cons_append, List.getD_cons_succ, List.getD_cons_zero, if_true, and_true] at hp
      go_simp
      exact hK _ (Grow.refl _)
    -- operation 6
    apply lexm_eq hsz [(5, true)] [(58, 0), (59, 1), (60, 2), (61, 3), (62, 4), (63, 5), (70, 12), (71, 13), (72, 14), (73, 15), (74, 16), (75, 17), (76, 18), (77, 19), (78, 20), (79, 21), (80, 22), (81, 23), (82, 24), (83, 25), (84, 26), (85, 27), (86, 28), (87, 29), (88, 30), (89, 31), (90, 32), (91, 33), (92, 34), (93, 35)] none (by kernel_rfl) (by kernel_rfl) (by kernel_rfl) (by kernel_rfl) rfl (by decide)
    · intro xs w hw hp K hK
      simp only [holdsL, List.nil_append, List.cons_append, List.getD_cons_succ, List.getD_cons_zero, if_true, and_true] at hp
      go_simp
      exact hK _ (Grow.refl _)
    -- operation 7
    apply lexm_eq hsz [(6, true)] [(58, 0), (59, 1), (60, 2), (61, 3), (62, 4), (63, 5), (64, 6), (67, 9), (68, 10), (69, 11), (70, 12), (71, 13), (72, 14), (73, 15), (74, 16), (75, 17), (76, 18), (77, 19), (78, 20), (79, 21), (80, 22), (81, 23), (82, 24), (83, 25), (84, 26), (85, 27), (86, 28), (87, 29), (88, 30), (89, 31), (90, 32), (91, 33), (92, 34), (93, 35)] (some (64, false)) (by kernel_rfl) (by kernel_rfl) (by kernel_rfl) (by kernel_rfl) rfl (by decide)
    · intro xs w hw hp K hK
      simp only [holdsL, List.nil_append, List.cons_append, List.getD_cons_succ, List.getD_cons_zero, if_true, and_true] at hp
      go_simp
      exact hK _ (Grow.refl _)
    -- operation 8
    apply lexm_eq hsz [(6, true), (7, true)] [(58, 0), (59, 1), (60, 2), (61, 3), (62, 4), (63, 5), (64, 6), (65, 7), (68, 10), (69, 11), (70, 12), (71, 13), (72, 14), (73, 15), (74, 16), (75, 17), (76, 18), (77, 19), (78, 20), (79, 21), (80, 22), (81, 23), (82, 24), (83, 25), (84, 26), (85, 27), (86, 28), (87, 29), (88, 30), (89, 31), (90, 32), (91, 33), (92, 34), (93, 35)] (some (64, false)) (by kernel_rfl) (by kernel_rfl) (by kernel_rfl) (by kernel_rfl) rfl (by decide)
    · intro xs w hw hp K hK
      simp only [holdsL, List.nil_append, List.cons_append, List.getD_cons_succ, List.getD_cons_zero, if_true, and_true] at hp
      go_simp
      exact hK _ (Grow.refl _)
    -- operation 9
    apply lexm_eq hsz [(6, true), (8, true)] [(58, 0), (59, 1), (60, 2), (61, 3), (62, 4), (63, 5), (64, 6), (65, 7), (66, 8), (69, 11), (70, 12), (71, 13), (72, 14), (73, 15), (74, 16), (75, 17), (76, 18), (77, 19), (78, 20), (79, 21), (80, 22), (81, 23), (82, 24), (83, 25), (84, 26), (85, 27), (86, 28), (87, 29), (88, 30), (89, 31), (90, 32), (91, 33), (92, 34), (93, 35)] (some (64, false)) (by kernel_rfl) (by kernel_rfl) (by kernel_rfl) (by kernel_rfl) rfl (by decide)
    · intro xs w hw hp K hK
      simp only [holdsL, List.nil_append, List.cons_append, List.getD_cons_succ, List.getD_cons_zero, if_true, and_true] at hp
      have q0 : a.length ≠ 0 := by have := Hjn.out; omega
      have q1 : ¬ (a.length : Int) = 0 := by omega
      have q2 : decide ((a.length : Int) = 0) = false := decide_eq_false q1
      have q3 : ((a.length : Int) == 0) = false := by simpa using q1
      go_simp
      exact hK _ (Grow.refl _)
    -- operation 10
    apply lexm_eq hsz [(6, true), (9, true)] [(58, 0), (59, 1), (60, 2), (61, 3), (62, 4), (63, 5), (64, 6), (65, 7), (66, 8), (67, 9), (70, 12), (71, 13), (72, 14), (73, 15), (74, 16), (75, 17), (76, 18), (77, 19), (78, 20), (79, 21), (80, 22), (81, 23), (82, 24), (83, 25), (84, 26), (85, 27), (86, 28), (87, 29), (88, 30), (89, 31), (90, 32), (91, 33), (92, 34), (93, 35)] none (by kernel_rfl) (by kernel_rfl) (by kernel_rfl) (by kernel_rfl) rfl (by decide)
    · intro xs w hw hp K hK
      simp only [holdsL, List.nil_append, List.cons_append, List.getD_cons_succ, List.getD_cons_zero, if_true, and_true] at hp
      go_simp
      exact hK _ (Grow.refl _)
    -- operation 11
    apply lexm_eq hsz [(10, true)] [(58, 0), (59, 1), (60, 2), (61, 3), (62, 4), (63, 5), (64, 6), (65, 7), (66, 8), (67, 9), (68, 10), (75, 17), (76, 18), (77, 19), (78, 20), (79, 21), (80, 22), (81, 23), (82, 24), (83, 25), (84, 26), (85, 27), (86, 28), (87, 29), (88, 30), (89, 31), (90, 32), (91, 33), (92, 34), (93, 35)] none (by kernel_rfl) (by kernel_rfl) (by kernel_rfl) (by kernel_rfl) rfl (by decide)
    · intro xs w hw hp K hK
      simp only [holdsL, List.nil_append, List.cons_append, List.getD_cons_succ, List.getD_cons_zero, if_true, and_true] at hp
      go_simp
      exact hK _ (Grow.refl _)
    -- operation 12
    apply lexm_eq hsz [(11, true)] [(58, 0), (59, 1), (60, 2), (61, 3), (62, 4), (63, 5), (64, 6), (65, 7), (66, 8), (67, 9), (68, 10), (69, 11), (72, 14), (73, 15), (74, 16), (75, 17), (76, 18), (77, 19), (78, 20), (79, 21), (80, 22), (81, 23), (82, 24), (83, 25), (84, 26), (85, 27), (86, 28), (87, 29), (88, 30), (89, 31), (90, 32), (91, 33), (92, 34), (93, 35)] (some (69, false)) (by kernel_rfl) (by kernel_rfl) (by kernel_rfl) (by kernel_rfl) rfl (by decide)
    · intro xs w hw hp K hK
      simp only [holdsL, List.nil_append, List.cons_append, List.getD_cons_succ, List.getD_cons_zero, if_true, and_true] at hp
      go_simp
      exact hK _ (Grow.refl _)
    -- operation 13
    apply lexm_eq hsz [(11, true), (12, true)] [(58, 0), (59, 1), (60, 2), (61, 3), (62, 4), (63, 5), (64, 6), (65, 7), (66, 8), (67, 9), (68, 10), (69, 11), (70, 12), (73, 15), (74, 16), (75, 17), (76, 18), (77, 19), (78, 20), (79, 21), (80, 22), (81, 23), (82, 24), (83, 25), (84, 26), (85, 27), (86, 28), (87, 29), (88, 30), (89, 31), (90, 32), (91, 33), (92, 34), (93, 35)] (some (69, false)) (by kernel_rfl) (by kernel_rfl) (by kernel_rfl) (by kernel_rfl) rfl (by decide)
    · intro xs w hw hp K hK
      simp only [holdsL, List.nil_append, List.cons_append, List.getD_cons_succ, List.getD_cons_zero, if_true, and_true] at hp
      go_simp
      exact hK _ (Grow.refl _)
    -- operation 14
    apply lexm_eq hsz [(11, true), (13, true)] [(58, 0), (59, 1), (60, 2), (61, 3), (62, 4), (63, 5), (64, 6), (65, 7), (66, 8), (67, 9), (68, 10), (69, 11), (70, 12), (71, 13), (74, 16), (75, 17), (76, 18), (77, 19), (78, 20), (79, 21), (80, 22), (81, 23), (82, 24), (83, 25), (84, 26), (85, 27), (86, 28), (87, 29), (88, 30), (89, 31), (90, 32), (91, 33), (92, 34), (93, 35)] (some (69, false)) (by kernel_rfl) (by kernel_rfl) (by kernel_rfl) (by kernel_rfl) rfl (by decide)
    · intro xs w hw hp K hK
      simp only [holdsL, List.nil_append, List.cons_append, List.getD_cons_succ, List.getD_cons_zero, if_true, and_true] at hp
      have q0 : b.length ≠ 0 := by have := HH.out.bpos; omega
      have q1 : ¬ (b.length : Int) = 0 := by omega
      have q2 : decide ((b.length : Int) = 0) = false := decide_eq_false q1
      have q3 : ((b.length : Int) == 0) = false := by simpa using q1
      go_simp
      exact hK _ (Grow.refl _)
    -- operation 15
    apply lexm_eq hsz [(11, true), (14, true)] [(58, 0), (59, 1), (60, 2), (61, 3), (62, 4), (63, 5), (64, 6), (65, 7), (66, 8), (67, 9), (68, 10), (69, 11), (70, 12), (71, 13), (72, 14), (75, 17), (76, 18), (77, 19), (78, 20), (79, 21), (80, 22), (81, 23), (82, 24), (83, 25), (84, 26), (85, 27), (86, 28), (87, 29), (88, 30), (89, 31), (90, 32), (91, 33), (92, 34), (93, 35)] none (by kernel_rfl) (by kernel_rfl) (by kernel_rfl) (by kernel_rfl) rfl (by decide)
    · intro xs w hw hp K hK
      simp only [holdsL, List.nil_append, List.cons_append, List.getD_cons_succ, List.getD_cons_zero, if_true, and_true] at hp
      go_simp
      exact hK _ (Grow.refl _)
    -- operation 16
    apply lexm_eq hsz [(15, true)] [(58, 0), (59, 1), (60, 2), (61, 3), (62, 4), (63, 5), (64, 6), (65, 7), (66, 8), (67, 9), (68, 10), (69, 11), (70, 12), (71, 13), (72, 14), (73, 15), (84, 26), (85, 27), (86, 28), (87, 29), (88, 30), (89, 31), (90, 32), (91, 33), (92, 34), (93, 35)] none (by kernel_rfl) (by kernel_rfl) (by kernel_rfl) (by kernel_rfl) rfl (by decide)
    · intro xs w hw hp K hK
      simp only [holdsL, List.nil_append, List.cons_append, List.getD_cons_succ, List.getD_cons_zero, if_true, and_true] at hp
      go_simp
      exact hK _ (Grow.refl _)
    -- operation 17
    refine lexm_says hsz (fun v _ => ∃ n, v = .slice (some ⟨n, 0, none⟩) 0 0) (fun _ _ _ _ h => h) (fun _ _ _ _ h => h) [(16, true)] [(58, 0), (59, 1), (60, 2), (61, 3), (62, 4), (63, 5), (64, 6), (65, 7), (66, 8), (67, 9), (68, 10), (69, 11), (70, 12), (71, 13), (72, 14), (73, 15), (74, 16), (76, 18), (78, 20), (79, 21), (80, 22), (81, 23), (82, 24), (83, 25), (84, 26), (85, 27), (86, 28), (87, 29), (88, 30), (89, 31), (90, 32), (91, 33), (92, 34), (93, 35)] (some (74, false)) (by kernel_rfl) (by kernel_rfl) (by kernel_rfl) (by kernel_rfl) rfl (by decide) ?_ ?_
    · intro xs w hw hp K hK
      simp only [holdsL, List.nil_append, List.cons_append, List.getD_cons_succ, List.getD_cons_zero, if_true, and_true] at hp
      go_simp
      exact hK _ _ ⟨_, rfl⟩ ((Grow.refl _).alloc _)
    -- operation 18
    apply lexm_eq hsz [(16, true)] [(58, 0), (59, 1), (60, 2), (61, 3), (62, 4), (63, 5), (64, 6), (65, 7), (66, 8), (67, 9), (68, 10), (69, 11), (70, 12), (71, 13), (72, 14), (73, 15), (74, 16), (75, 17), (78, 20), (79, 21), (80, 22), (81, 23), (82, 24), (83, 25), (84, 26), (85, 27), (86, 28), (87, 29), (88, 30), (89, 31), (90, 32), (91, 33), (92, 34), (93, 35)] (some (74, false)) (by kernel_rfl) (by kernel_rfl) (by kernel_rfl) (by kernel_rfl) rfl (by decide)
    · intro xs w hw hp K hK
      simp only [holdsL, List.nil_append, List.cons_append, List.getD_cons_succ, List.getD_cons_zero, if_true, and_true] at hp
      go_simp
      exact hK _ (Grow.refl _)
    -- operation 19
    refine lexm_until hsz (fun v u => u.ownsRow w7.heap.size 23 3 v a.length (eCells a)) (fun _ _ _ g h => owns_fits h g) [(16, true), (17, true), (18, true)] [(58, 0), (59, 1), (60, 2), (61, 3), (62, 4), (63, 5), (64, 6), (65, 7), (66, 8), (67, 9), (68, 10), (69, 11), (70, 12), (71, 13), (72, 14), (73, 15), (74, 16), (75, 17), (76, 18), (78, 20), (80, 22), (81, 23), (82, 24), (83, 25), (84, 26), (85, 27), (86, 28), (87, 29), (88, 30), (89, 31), (90, 32), (91, 33), (92, 34), (93, 35)] (some (74, false)) (by kernel_rfl) (by kernel_rfl) (by kernel_rfl) (by kernel_rfl) rfl (by decide) ?_ ?_
    · intro xs w hw hp K hK
      simp only [holdsL, List.nil_append, List.cons_append, List.getD_cons_succ, List.getD_cons_zero, if_true, and_true] at hp
      obtain ⟨h16, ⟨n8, h17⟩, h18⟩ := hp
      obtain ⟨v', w', hr, h1, h2⟩ := append_grows 36 [] a n8 _ w (by intro j8 u8 h8; cases h8) (HXs.out.weak.fits (Grow.trans HG7.out (Grow.undrew (hw.2 (Nat.le_refl _))))) HH.out.apos (by have := Hal.out; simp only [List.length_nil]; omega)
      simp only [List.length_nil, Nat.zero_add, List.nil_append] at hr h1
      rw [givesF_some, if_pos (by simp [lookL, h16, isB])]
      exact upon_append rfl (by simp [evalF_tmp, lookL, h17]) (by simp [evalF_tmp, lookL, h18]) hr (hK _ _ (owns_low h1 hw.1) h2)
    -- operation 20
    apply lexm_eq hsz [(16, true)] [(58, 0), (59, 1), (60, 2), (61, 3), (62, 4), (63, 5), (64, 6), (65, 7), (66, 8), (67, 9), (68, 10), (69, 11), (70, 12), (71, 13), (72, 14), (73, 15), (74, 16), (75, 17), (76, 18), (77, 19), (80, 22), (81, 23), (82, 24), (83, 25), (84, 26), (85, 27), (86, 28), (87, 29), (88, 30), (89, 31), (90, 32), (91, 33), (92, 34), (93, 35)] (some (74, false)) (by kernel_rfl) (by kernel_rfl) (by kernel_rfl) (by kernel_rfl) rfl (by decide)
    · intro xs w hw hp K hK
      simp only [holdsL, List.nil_append, List.cons_append, List.getD_cons_succ, List.getD_cons_zero, if_true, and_true] at hp
      go_simp
      exact hK _ (Grow.refl _)
    -- operation 21
    refine lexm_it rfl hsz (fun v u => u.ownsRow w7.heap.size 23 3 v (a.length + b.length) (eCells (a ++ b))) (fun _ _ _ g h => owns_fits h g) [(16, true), (19, true), (20, true)] [(58, 0), (59, 1), (60, 2), (61, 3), (62, 4), (63, 5), (64, 6), (65, 7), (66, 8), (67, 9), (68, 10), (69, 11), (70, 12), (71, 13), (72, 14), (73, 15), (74, 16), (75, 17), (76, 18), (77, 19), (78, 20), (80, 22), (82, 24), (83, 25), (84, 26), (85, 27), (86, 28), (87, 29), (88, 30), (89, 31), (90, 32), (91, 33), (92, 34), (93, 35)] (some (74, false)) (by kernel_rfl) (by kernel_rfl) (by kernel_rfl) (by kernel_rfl) rfl ?_ ?_
    · intro xs w hw hp K hK
      simp only [holdsL, List.nil_append, List.cons_append, List.getD_cons_succ, List.getD_cons_zero, if_true, and_true] at hp
      obtain ⟨h16, h19, h20⟩ := hp
      obtain ⟨v', w', hr, h1, h2⟩ := append_more 36 w7.heap.size a b (xs 19) _ w h19 (HYs.out.weak.fits (Grow.undrew (hw.2 (Nat.le_refl _)))) HH.out.bpos (by have := Hal.out; omega) hw.1
      rw [givesF_some, if_pos (by simp [lookL, h16, isB])]
      exact upon_append rfl (by simp [evalF_tmp, lookL]) (by simp [evalF_tmp, lookL, h20]) hr (hK _ _ h1 h2)
    -- operation 22
    apply lexm_eq hsz [(16, true)] [(58, 0), (59, 1), (60, 2), (61, 3), (62, 4), (63, 5), (64, 6), (65, 7), (66, 8), (67, 9), (68, 10), (69, 11), (70, 12), (71, 13), (72, 14), (73, 15), (74, 16), (75, 17), (76, 18), (77, 19), (78, 20), (79, 21), (82, 24), (83, 25), (84, 26), (85, 27), (86, 28), (87, 29), (88, 30), (89, 31), (90, 32), (91, 33), (92, 34), (93, 35)] (some (74, false)) (by kernel_rfl) (by kernel_rfl) (by kernel_rfl) (by kernel_rfl) rfl (by decide)
    · intro xs w hw hp K hK
      simp only [holdsL, List.nil_append, List.cons_append, List.getD_cons_succ, List.getD_cons_zero, if_true, and_true] at hp
      go_simp
      exact hK _ (Grow.refl _)
    -- operation 23
    apply lexm_eq hsz [(16, true), (21, true), (22, true)] [(58, 0), (59, 1), (60, 2), (61, 3), (62, 4), (63, 5), (64, 6), (65, 7), (66, 8), (67, 9), (68, 10), (69, 11), (70, 12), (71, 13), (72, 14), (73, 15), (74, 16), (75, 17), (76, 18), (77, 19), (78, 20), (79, 21), (80, 22), (83, 25), (85, 27), (86, 28), (87, 29), (88, 30), (89, 31), (90, 32), (91, 33), (92, 34), (93, 35)] (some (74, false)) (by kernel_rfl) (by kernel_rfl) (by kernel_rfl) (by kernel_rfl) rfl (by decide)
    · intro xs w hw hp K hK
      simp only [holdsL, List.nil_append, List.cons_append, List.getD_cons_succ, List.getD_cons_zero, if_true, and_true] at hp
      obtain ⟨h16, h21, h22⟩ := hp
      go_simp
      have h21' := owned_row (by rw [List.length_append]) h21
      rw [HH.out.app] at h21'
      exact (entries_same L _ _ w h21' (HEs.out.weak.fits (Grow.trans HG5.out (Grow.trans HG6.out (Grow.trans HG7.out (Grow.undrew (hw.2 (Nat.le_refl _))))))) (by omega)).mono fun e w' h => ⟨_, h.1, hK _ h.2⟩
    -- operation 24
    apply lexm_eq hsz [(16, true), (23, true)] [(58, 0), (59, 1), (60, 2), (61, 3), (62, 4), (63, 5), (64, 6), (65, 7), (66, 8), (67, 9), (68, 10), (69, 11), (70, 12), (71, 13), (72, 14), (73, 15), (74, 16), (75, 17), (76, 18), (77, 19), (78, 20), (79, 21), (80, 22), (81, 23), (84, 26), (85, 27), (86, 28), (87, 29), (88, 30), (89, 31), (90, 32), (91, 33), (92, 34), (93, 35)] (some (74, false)) (by kernel_rfl) (by kernel_rfl) (by kernel_rfl) (by kernel_rfl) rfl (by decide)
    · intro xs w hw hp K hK
      simp only [holdsL, List.nil_append, List.cons_append, List.getD_cons_succ, List.getD_cons_zero, if_true, and_true] at hp
      go_simp
      exact hK _ (Grow.refl _)
    -- operation 25
    apply lexm_eq hsz [(16, true), (24, true)] [(58, 0), (59, 1), (60, 2), (61, 3), (62, 4), (63, 5), (64, 6), (65, 7), (66, 8), (67, 9), (68, 10), (69, 11), (70, 12), (71, 13), (72, 14), (73, 15), (74, 16), (75, 17), (76, 18), (77, 19), (78, 20), (79, 21), (80, 22), (81, 23), (82, 24), (85, 27), (86, 28), (87, 29), (88, 30), (89, 31), (90, 32), (91, 33), (92, 34), (93, 35)] none (by kernel_rfl) (by kernel_rfl) (by kernel_rfl) (by kernel_rfl) rfl (by decide)
    · intro xs w hw hp K hK
      simp only [holdsL, List.nil_append, List.cons_append, List.getD_cons_succ, List.getD_cons_zero, if_true, and_true] at hp
      go_simp
      exact hK _ (Grow.refl _)
    -- operation 26
    apply lexm_eq hsz [(25, true)] [(58, 0), (59, 1), (60, 2), (61, 3), (62, 4), (63, 5), (64, 6), (65, 7), (66, 8), (67, 9), (68, 10), (69, 11), (70, 12), (71, 13), (72, 14), (73, 15), (74, 16), (75, 17), (76, 18), (77, 19), (78, 20), (79, 21), (80, 22), (81, 23), (82, 24), (83, 25)] none (by kernel_rfl) (by kernel_rfl) (by kernel_rfl) (by kernel_rfl) rfl (by decide)
    · intro xs w hw hp K hK
      simp only [holdsL, List.nil_append, List.cons_append, List.getD_cons_succ, List.getD_cons_zero, if_true, and_true] at hp
      go_simp
      exact hK _ (Grow.refl _)
    -- operation 27
    apply lexm_eq hsz [(26, true)] [(58, 0), (59, 1), (60, 2), (61, 3), (62, 4), (63, 5), (64, 6), (65, 7), (66, 8), (67, 9), (68, 10), (69, 11), (70, 12), (71, 13), (72, 14), (73, 15), (74, 16), (75, 17), (76, 18), (77, 19), (78, 20), (79, 21), (80, 22), (81, 23), (82, 24), (83, 25), (84, 26), (86, 28), (87, 29), (88, 30), (90, 32), (91, 33), (92, 34), (93, 35)] (some (84, false)) (by kernel_rfl) (by kernel_rfl) (by kernel_rfl) (by kernel_rfl) rfl (by decide)
    · intro xs w hw hp K hK
      simp only [holdsL, List.nil_append, List.cons_append, List.getD_cons_succ, List.getD_cons_zero, if_true, and_true] at hp
      go_simp
      exact hK _ (Grow.refl _)
    -- operation 28
    apply lexm_eq hsz [(26, true)] [(58, 0), (59, 1), (60, 2), (61, 3), (62, 4), (63, 5), (64, 6), (65, 7), (66, 8), (67, 9), (68, 10), (69, 11), (70, 12), (71, 13), (72, 14), (73, 15), (74, 16), (75, 17), (76, 18), (77, 19), (78, 20), (79, 21), (80, 22), (81, 23), (82, 24), (83, 25), (84, 26), (85, 27), (88, 30), (89, 31), (90, 32), (91, 33), (92, 34), (93, 35)] (some (84, false)) (by kernel_rfl) (by kernel_rfl) (by kernel_rfl) (by kernel_rfl) rfl (by decide)
    · intro xs w hw hp K hK
      simp only [holdsL, List.nil_append, List.cons_append, List.getD_cons_succ, List.getD_cons_zero, if_true, and_true] at hp
      go_simp
      exact hK _ (Grow.refl _)
    -- operation 29
    apply lexm_eq hsz [(26, true), (28, true)] [(58, 0), (59, 1), (60, 2), (61, 3), (62, 4), (63, 5), (64, 6), (65, 7), (66, 8), (67, 9), (68, 10), (69, 11), (70, 12), (71, 13), (72, 14), (73, 15), (74, 16), (75, 17), (76, 18), (77, 19), (78, 20), (79, 21), (80, 22), (81, 23), (82, 24), (83, 25), (84, 26), (85, 27), (86, 28), (89, 31), (90, 32), (91, 33), (92, 34), (93, 35)] (some (84, false)) (by kernel_rfl) (by kernel_rfl) (by kernel_rfl) (by kernel_rfl) rfl (by decide)
    · intro xs w hw hp K hK
      simp only [holdsL, List.nil_append, List.cons_append, List.getD_cons_succ, List.getD_cons_zero, if_true, and_true] at hp
      go_simp
      exact hK _ (Grow.refl _)
    -- operation 30
    apply lexm_eq hsz [(26, true), (29, true)] [(58, 0), (59, 1), (60, 2), (61, 3), (62, 4), (63, 5), (64, 6), (65, 7), (66, 8), (67, 9), (68, 10), (69, 11), (70, 12), (71, 13), (72, 14), (73, 15), (74, 16), (75, 17), (76, 18), (77, 19), (78, 20), (79, 21), (80, 22), (81, 23), (82, 24), (83, 25), (84, 26), (85, 27), (86, 28), (87, 29), (90, 32), (91, 33), (92, 34), (93, 35)] (some (84, false)) (by kernel_rfl) (by kernel_rfl) (by kernel_rfl) (by kernel_rfl) rfl (by decide)
    · intro xs w hw hp K hK
      simp only [holdsL, List.nil_append, List.cons_append, List.getD_cons_succ, List.getD_cons_zero, if_true, and_true] at hp
      have q0 : wrap64 ((a.length : Int) - 1) = (j : Int) := by
        have hjn := Hjn.out
        rw [show (a.length : Int) - 1 = (j : Int) by omega]
        exact wrap64_small j (by omega)
      have q1 : IntKind.i64.wrap ((a.length : Int) - 1) = (j : Int) := by
        have hjn := Hjn.out
        rw [show (a.length : Int) - 1 = (j : Int) by omega]
        exact wraps_i64 j (by omega) (by omega)
      go_simp
      exact hK _ (Grow.refl _)
    -- operation 31
    apply lexm_eq hsz [(26, true), (27, true), (30, true)] [(58, 0), (59, 1), (60, 2), (61, 3), (62, 4), (63, 5), (64, 6), (65, 7), (66, 8), (67, 9), (68, 10), (69, 11), (70, 12), (71, 13), (72, 14), (73, 15), (74, 16), (75, 17), (76, 18), (77, 19), (78, 20), (79, 21), (80, 22), (81, 23), (82, 24), (83, 25), (84, 26), (85, 27), (86, 28), (87, 29), (88, 30), (91, 33), (92, 34), (93, 35)] (some (84, false)) (by kernel_rfl) (by kernel_rfl) (by kernel_rfl) (by kernel_rfl) rfl (by decide)
    · intro xs w hw hp K hK
      simp only [holdsL, List.nil_append, List.cons_append, List.getD_cons_succ, List.getD_cons_zero, if_true, and_true] at hp
      have q1 : j < a.length := by have := Hjn.out; omega
      have q2 : (j : Int) < (a.length : Int) := by omega
      go_simp
      exact hK _ (Grow.refl _)
    -- operation 32
    apply lexm_eq hsz [(26, true), (31, true)] [(58, 0), (59, 1), (60, 2), (61, 3), (62, 4), (63, 5), (64, 6), (65, 7), (66, 8), (67, 9), (68, 10), (69, 11), (70, 12), (71, 13), (72, 14), (73, 15), (74, 16), (75, 17), (76, 18), (77, 19), (78, 20), (79, 21), (80, 22), (81, 23), (82, 24), (83, 25), (84, 26), (85, 27), (86, 28), (87, 29), (88, 30), (89, 31), (91, 33), (93, 35)] (some (84, false)) (by kernel_rfl) (by kernel_rfl) (by kernel_rfl) (by kernel_rfl) rfl (by decide)
    · intro xs w hw hp K hK
      simp only [holdsL, List.nil_append, List.cons_append, List.getD_cons_succ, List.getD_cons_zero, if_true, and_true] at hp
      obtain ⟨c0, c1, c2⟩ := HX7.out w (hw.2 (Nat.le_refl _))
      go_simp
      exact hK _ (Grow.refl _)
    -- operation 33
    apply lexm_eq hsz [(26, true)] [(58, 0), (59, 1), (60, 2), (61, 3), (62, 4), (63, 5), (64, 6), (65, 7), (66, 8), (67, 9), (68, 10), (69, 11), (70, 12), (71, 13), (72, 14), (73, 15), (74, 16), (75, 17), (76, 18), (77, 19), (78, 20), (79, 21), (80, 22), (81, 23), (82, 24), (83, 25), (84, 26), (85, 27), (86, 28), (87, 29), (88, 30), (89, 31), (90, 32), (93, 35)] (some (84, false)) (by kernel_rfl) (by kernel_rfl) (by kernel_rfl) (by kernel_rfl) rfl (by decide)
    · intro xs w hw hp K hK
      simp only [holdsL, List.nil_append, List.cons_append, List.getD_cons_succ, List.getD_cons_zero, if_true, and_true] at hp
      obtain ⟨c0, c1, c2⟩ := HE7.out w (hw.2 (Nat.le_refl _))
      go_simp
      exact hK _ (Grow.refl _)
    -- operation 34
    apply lexm_eq hsz [(26, true), (32, true), (33, true)] [(58, 0), (59, 1), (60, 2), (61, 3), (62, 4), (63, 5), (64, 6), (65, 7), (66, 8), (67, 9), (68, 10), (69, 11), (70, 12), (71, 13), (72, 14), (73, 15), (74, 16), (75, 17), (76, 18), (77, 19), (78, 20), (79, 21), (80, 22), (81, 23), (82, 24), (83, 25), (84, 26), (85, 27), (86, 28), (87, 29), (88, 30), (89, 31), (90, 32), (91, 33)] (some (84, false)) (by kernel_rfl) (by kernel_rfl) (by kernel_rfl) (by kernel_rfl) rfl (by decide)
    · intro xs w hw hp K hK
      simp only [holdsL, List.nil_append, List.cons_append, List.getD_cons_succ, List.getD_cons_zero, if_true, and_true] at hp
      go_simp
      exact hK _ (Grow.refl _)
    intro xs w hw hp
    have ha0 := HA0.out
    clear HA0 hsz s6 s10 s12 s13 s14 s15
    simp only [holdsL, List.nil_append, List.cons_append, List.getD_cons_succ, List.getD_cons_zero, if_true, and_true] at hp
    have h26 := hp.2.2.2.2.2.2.2.2.2.2.2.2.2.2.2.2.2.2.2.2.2.2.2.2.2.2.1
    have h34 := hp.2.2.2.2.2.2.2.2.2.2.2.2.2.2.2.2.2.2.2.2.2.2.2.2.2.2.2.2.2.2.2.2.2.2
    clear hp
    subst ha0
    simp only [putAll, h26, h34]
    have hG7 := Grow.undrew (hw.2 (Nat.le_refl _))
    clear hw h26 HX7 HE7
    rename World => w8
    have HG8 := keep hG7
    have hX8 := HX5.out.fits (Grow.trans HG6.out (Grow.trans HG7.out HG8.out))
    obtain ⟨c0, c1, c2, _⟩ := enres hX8
    clear hX8 hG7
    have hroot := root_any 1 8 (bk, bp, bs) 9 w8
    have hrn : rootN 1 8 (bk, bp, bs) 9 = (rootP 1 8 (bk, bp, bs) 9, 0) := by
      have h1 : rootOk 1 8 (bk, bp, bs) 9 = true := by
        unfold rootOk
        rw [HH.out.sok]
        rfl
      unfold rootN
      rw [if_pos h1]
    rw [hrn] at hroot
    have hchild := fun g : En => both_half HH.out g
    have hrin : ∀ (u : World) (iv : Value), ItemsC u iv (rootP 1 8 (bk, bp, bs) 9).items → PgIn u iv (rootP 1 8 (bk, bp, bs) 9) := fun u iv h => root_in HH.out.sok u iv h
    generalize hQR : rootP 1 8 (bk, bp, bs) 9 = Q at *
    unfold PgPost pgV enV at hroot
    dsimp only at hroot
    have HRoot := keep hroot
    have HChild := keep hchild
    have HRin := keep hrin
    clear hroot hrn hchild hrin hQR
    go_upto_region 10 with fail
    go_wp2_with fail
    refine HRoot.out.mono ?_
    rintro x w9 ⟨rv, rfl, hir, hb9⟩
    obtain ⟨ra, rc, rfl⟩ := itemsS_form hir.1
    clear HRoot c0 c1 c2
    go_upto_region 11 with fail
    obtain ⟨w10, hw10⟩ : ∃ w10, w10 = w9.alloc (.cells (pgCells Q (.slice ra Q.items.length rc)).toArray 39) := ⟨_, rfl⟩
    have hg10 : Grow w8 w10 := by subst hw10; exact Grow.alloc hb9 _
    have hR10 : Blk w10 w9.heap.size 39 (pgCells Q (.slice ra Q.items.length rc)) := by subst hw10; exact Blk.new w9 _ _
    have hi10 : ItemsC w10 (.slice ra Q.items.length rc) Q.items := hir.fits (by subst hw10; exact (Grow.refl _).alloc _)
    have hG510 : Grow w5 w10 := Grow.trans HG6.out (Grow.trans HG7.out (Grow.trans HG8.out hg10))
    have HA10 := keep (HA5.out.fits hG510)
    have hB10 := HB5.out.fits hG510
    have hP10 := HP3.out.fits (Grow.trans HG5.out hG510)
    have HIA10 := keep (HIA.out.fits hG510)
    have HR10 := keep hR10
    have HI10 := keep hi10
    have HG10 := keep hG510
    have HG68 := keep hg10
    have hA10 := HA10.out
    unfold pgCells at hw10 hA10 hB10 hP10
    rw [← hw10]
    obtain ⟨q0, q1, q2, q3, q4, q5, f0, f1, f2, f3, f4, f5⟩ := pgres hA10
    obtain ⟨r0, r1, r2, r3, r4, r5, g0, g1, g2, g3, g4, g5⟩ := pgres hB10
    obtain ⟨p0, p1, p2, p3, p4, p5, e0, e1, e2, e3, e4, e5⟩ := pgres hP10
    rw [HB0.out.1] at r3
    rw [HB0.out.2] at r4
    rw [HH.out.aright] at q3
    clear hw10 hg10 hR10 hi10 hG510 hA10 hB10 hP10 hb9 hir HA5 HB5 HIB HIA
    clear q0 q1 q2 q4 q5 f0 f1 f2 f4 f5 r0 r1 r2 r5 g0 g1 g2 g5 p0 p1 p2 p5 e0 e1 e2 e5
    go_upto_region 13 with fail
    clear p3 p4 r3 r4 q3 e3 e4 g3 g4 f3
    have hE10 := HE0.out.fits (Grow.trans HG3.out (Grow.trans HG5.out HG10.out))
    obtain ⟨c0, c1, c2, _⟩ := enres hE10
    clear hE10
    have HG310 := keep (Grow.trans HG5.out HG10.out)
    go_wp2_with ((at_builtin; go_must (refine wpList_append_grows rfl _ _ rfl [(k, p, s)] L w10.heap.size _ rfl rfl (cell_three_newO _ _ _ _ _) (HEs.out.weak.fits ((HG310.out).alloc _)) (by omega) (by simp only [List.length_cons, List.length_nil]; omega) (n := L.length + 1) (l1 := (k, p, s) :: L) (by simp only [List.length_cons, List.length_nil]; omega) rfl ?_); intro v' w11 hown hgrow; obtain ⟨aka, akc, rfl⟩ := own_form hown))
    have HAsk := keep (owned_row (l := (k, p, s) :: L) rfl hown)
    have HG11 := keep (Grow.trans ((Grow.refl w10).alloc _) hgrow)
    clear hown hgrow c0 c1 c2
    go_loopw [19] (fun i wr => ∃ n : Nat, n ≤ L.length + 1 ∧ i = .int .i64 n ∧ Kept (Grow w11 wr)) (fun i _ => L.length + 1 - (intOf i).toNat)
    case atStart => exact ⟨0, Nat.zero_le _, rfl, keep (Grow.refl _)⟩
    case round =>
      obtain ⟨n, hn, rfl, HG⟩ := hrel
      obtain ⟨wo, rfl⟩ : ∃ wo, wo = wr := ⟨_, rfl⟩
      by_cases hlt : n < L.length + 1
      · obtain ⟨cn, offn, capn, e1, hcn⟩ := en_at HAsk.out (m := n) hlt
        simp only [Value.slice.injEq] at e1
        obtain ⟨rfl, x1, x2⟩ := e1
        have h1 : 0 < n → decide (((k, p, s) :: L)[n] ∈ a) = !decide (0 < cmpE ((k, p, s) :: L)[n] (bk, bp, bs)) := by
          cases n with
          | zero => intro h; omega
          | succ m =>
            intro _
            rw [List.getElem_cons_succ]
            exact half_mem HH.out m (by omega)
        generalize ((k, p, s) :: L)[n] = g at *
        obtain ⟨ob, nb, cd, hv1, hv2, hv⟩ := HChild.out g
        have hbe := fun (u : World) (hu : Grow wo u) => beyond_node A _ g u (HH.out.ain u _ (HIA10.out.fits (Grow.trans HG11.out (Grow.trans HG.out hu))))
        have hch := fun (u : World) (hu : Grow wo u) => child_node Q _ g u (HRin.out u _ (HI10.out.fits (Grow.trans HG11.out (Grow.trans HG.out hu))))
        rw [hv1] at hbe
        rw [hv2] at hch
        have hh1 : cd = 0 → 0 < n → decide (g ∈ a) = !ob := by
          intro h2 h3
          rw [h1 h3]
          rcases hv with h4 | ⟨_, _, h4⟩
          · omega
          · rw [h4]
        have hv9 : cd = 140 ∨ cd = 0 ∧ (ob = true ∧ nb = 9 ∨ ob = false ∧ nb = 8) := hv.imp id fun h => ⟨h.1, h.2.1⟩
        clear hv hv1 hv2 h1
        have hA7 := fun (u : World) (hu : Grow wo u) => HA10.out.fits (Grow.trans HG11.out (Grow.trans HG.out hu))
        have hR7 := fun (u : World) (hu : Grow wo u) => HR10.out.fits (Grow.trans HG11.out (Grow.trans HG.out hu))
        unfold pgCells at hA7 hR7
        obtain ⟨k2, p2, s2⟩ := g
        unfold pgV enV at hbe hch
        dsimp only at hbe hch hcn
        have HH1 := keep hh1
        have HV9 := keep hv9
        have HBe := keep hbe
        have HCh := keep hch
        have HA7 := keep hA7
        have HR7 := keep hR7
        have HC7 := keep (fun (u : World) (hu : Grow wo u) => hcn u (Grow.trans HG.out hu))
        clear hh1 hv9 hbe hch hA7 hR7 hcn x1 x2
        go_upto_region 17 with fail
        refine wp_region_grow_named (by kernel_rfl) 10 (by kernel_rfl) [(131, 0), (132, 1), (133, 2), (134, 3), (135, 4), (136, 5), (130, 6), (137, 7), (138, 8), (20, 9)] (by kernel_rfl) [(0, true), (1, true), (2, true), (3, true), (4, true), (5, true), (6, true), (7, true), (8, true), (9, true)] (by kernel_rfl) rfl rfl ?_
        intro a0 ha0
        have hsz : a0.tmps.size = 191 := (size_at ha0).trans rfl
        have s8 := slot_at ha0 8 rfl
        have s18 := slot_at ha0 18 rfl
        have s19 := slot_at ha0 19 rfl
        have HA0 := keep ha0
        clear ha0
        -- operation 0
        apply lexf_eq hsz [] [(132, 1), (133, 2), (134, 3), (135, 4), (130, 6), (137, 7), (138, 8)] none (by kernel_rfl) (by kernel_rfl) (by kernel_rfl) (by kernel_rfl) rfl
        · intro xs w hw hp K hK
          obtain ⟨p0, p1, p2, p3, p4, p5, _⟩ := pgres (HA7.out w (Grow.undrew hw))
          go_simp
          exact hK _ (Grow.refl _)
        -- operation 1
        apply lexf_eq hsz [] [(131, 0), (133, 2), (135, 4), (136, 5), (130, 6), (137, 7), (138, 8)] none (by kernel_rfl) (by kernel_rfl) (by kernel_rfl) (by kernel_rfl) rfl
        · intro xs w hw hp K hK
          go_simp
          exact hK _ (Grow.refl _)
        -- operation 2
        apply lexf_eq hsz [] [(131, 0), (132, 1), (135, 4), (136, 5), (130, 6), (137, 7), (138, 8)] none (by kernel_rfl) (by kernel_rfl) (by kernel_rfl) (by kernel_rfl) rfl
        · intro xs w hw hp K hK
          go_simp
          exact hK _ (Grow.refl _)
        -- operation 3
        apply lexf_eq hsz [(1, true), (2, true)] [(131, 0), (132, 1), (133, 2), (136, 5), (130, 6), (137, 7), (138, 8)] none (by kernel_rfl) (by kernel_rfl) (by kernel_rfl) (by kernel_rfl) rfl
        · intro xs w hw hp K hK
          simp only [holdsL, List.nil_append, List.cons_append, List.getD_cons_succ, List.getD_cons_zero, if_true, and_true] at hp
          have q1 : n < L.length + 1 := hlt
          have q2 : (n : Int) < (L.length : Int) + 1 := by omega
          go_simp
          exact hK _ (Grow.refl _)
        -- operation 4
        apply lexf_eq hsz [(3, true)] [(131, 0), (132, 1), (133, 2), (134, 3), (130, 6), (137, 7), (138, 8)] none (by kernel_rfl) (by kernel_rfl) (by kernel_rfl) (by kernel_rfl) rfl
        · intro xs w hw hp K hK
          simp only [holdsL, List.nil_append, List.cons_append, List.getD_cons_succ, List.getD_cons_zero, if_true, and_true] at hp
          obtain ⟨c0, c1, c2⟩ := HC7.out w (Grow.undrew hw)
          go_simp
          exact hK _ (Grow.refl _)
        -- operation 5
        apply lexf_eq hsz [(0, true), (4, true)] [(131, 0), (132, 1), (133, 2), (134, 3), (135, 4), (137, 7), (138, 8)] none (by kernel_rfl) (by kernel_rfl) (by kernel_rfl) (by kernel_rfl) rfl
        · intro xs w hw hp K hK
          simp only [holdsL, List.nil_append, List.cons_append, List.getD_cons_succ, List.getD_cons_zero, if_true, and_true] at hp
          go_simp
          exact (HBe.out w (Grow.undrew hw)).mono fun e w' h => ⟨_, h.1, hK _ h.2⟩
        -- operation 6
        apply lexf_eq hsz [(5, true)] [(131, 0), (132, 1), (133, 2), (134, 3), (135, 4), (136, 5)] none (by kernel_rfl) (by kernel_rfl) (by kernel_rfl) (by kernel_rfl) rfl
        · intro xs w hw hp K hK
          simp only [holdsL, List.nil_append, List.cons_append, List.getD_cons_succ, List.getD_cons_zero, if_true, and_true] at hp
          go_simp
          exact hK _ (Grow.refl _)
        -- operation 7
        apply lexf_eq hsz [(6, true)] [(131, 0), (132, 1), (133, 2), (134, 3), (135, 4), (136, 5), (130, 6), (138, 8)] none (by kernel_rfl) (by kernel_rfl) (by kernel_rfl) (by kernel_rfl) rfl
        · intro xs w hw hp K hK
          simp only [holdsL, List.nil_append, List.cons_append, List.getD_cons_succ, List.getD_cons_zero, if_true, and_true] at hp
          go_simp
          exact hK _ (Grow.refl _)
        -- operation 8
        apply lexf_eq hsz [(6, true)] [(131, 0), (132, 1), (133, 2), (134, 3), (135, 4), (136, 5), (130, 6), (137, 7), (20, 9)] none (by kernel_rfl) (by kernel_rfl) (by kernel_rfl) (by kernel_rfl) rfl
        · intro xs w hw hp K hK
          simp only [holdsL, List.nil_append, List.cons_append, List.getD_cons_succ, List.getD_cons_zero, if_true, and_true] at hp
          go_simp
          exact hK _ (Grow.refl _)
        -- operation 9
        apply lexf_eq hsz [(7, true)] [(131, 0), (132, 1), (133, 2), (134, 3), (135, 4), (136, 5), (130, 6), (137, 7), (138, 8)] none (by kernel_rfl) (by kernel_rfl) (by kernel_rfl) (by kernel_rfl) rfl
        · intro xs w hw hp K hK
          simp only [holdsL, List.nil_append, List.cons_append, List.getD_cons_succ, List.getD_cons_zero, if_true, and_true] at hp
          go_simp
          exact hK _ (Grow.refl _)
        intro xs wa hw hp
        have ha0 := HA0.out
        clear HA0 hsz s8 s18 s19
        simp only [holdsL, List.nil_append, List.cons_append, List.getD_cons_succ, List.getD_cons_zero, if_true, and_true] at hp
        have h8 := hp.2.2.2.2.2.2.2.2.1
        have h9 := hp.2.2.2.2.2.2.2.2.2
        clear hp
        subst ha0
        simp only [putAll, h8, h9]
        have HGa := keep (Grow.undrew hw)
        clear hw h8 h9
        go_upto_region 18 with fail
        refine wp_region_grow_named (by kernel_rfl) 10 (by kernel_rfl) [(140, 0), (141, 1), (142, 2), (143, 3), (144, 4), (145, 5), (139, 6), (146, 7), (147, 8), (22, 9)] (by kernel_rfl) [(0, true), (1, true), (2, true), (3, true), (4, true), (5, true), (6, true), (7, true), (8, true), (9, true)] (by kernel_rfl) rfl rfl ?_
        intro a0 ha0
        have hsz : a0.tmps.size = 191 := (size_at ha0).trans rfl
        have s16 := slot_at ha0 16 rfl
        have s18 := slot_at ha0 18 rfl
        have s19 := slot_at ha0 19 rfl
        have HA0 := keep ha0
        clear ha0
        -- operation 0
        apply lexf_eq hsz [] [(141, 1), (142, 2), (143, 3), (144, 4), (139, 6), (146, 7), (147, 8)] none (by kernel_rfl) (by kernel_rfl) (by kernel_rfl) (by kernel_rfl) rfl
        · intro xs w hw hp K hK
          obtain ⟨p0, p1, p2, p3, p4, p5, _⟩ := pgres (HR7.out w (Grow.trans HGa.out (Grow.undrew hw)))
          go_simp
          exact hK _ (Grow.refl _)
        -- operation 1
        apply lexf_eq hsz [] [(140, 0), (142, 2), (144, 4), (145, 5), (139, 6), (146, 7), (147, 8)] none (by kernel_rfl) (by kernel_rfl) (by kernel_rfl) (by kernel_rfl) rfl
        · intro xs w hw hp K hK
          go_simp
          exact hK _ (Grow.refl _)
        -- operation 2
        apply lexf_eq hsz [] [(140, 0), (141, 1), (144, 4), (145, 5), (139, 6), (146, 7), (147, 8)] none (by kernel_rfl) (by kernel_rfl) (by kernel_rfl) (by kernel_rfl) rfl
        · intro xs w hw hp K hK
          go_simp
          exact hK _ (Grow.refl _)
        -- operation 3
        apply lexf_eq hsz [(1, true), (2, true)] [(140, 0), (141, 1), (142, 2), (145, 5), (139, 6), (146, 7), (147, 8)] none (by kernel_rfl) (by kernel_rfl) (by kernel_rfl) (by kernel_rfl) rfl
        · intro xs w hw hp K hK
          simp only [holdsL, List.nil_append, List.cons_append, List.getD_cons_succ, List.getD_cons_zero, if_true, and_true] at hp
          have q1 : n < L.length + 1 := hlt
          have q2 : (n : Int) < (L.length : Int) + 1 := by omega
          go_simp
          exact hK _ (Grow.refl _)
        -- operation 4
        apply lexf_eq hsz [(3, true)] [(140, 0), (141, 1), (142, 2), (143, 3), (139, 6), (146, 7), (147, 8)] none (by kernel_rfl) (by kernel_rfl) (by kernel_rfl) (by kernel_rfl) rfl
        · intro xs w hw hp K hK
          simp only [holdsL, List.nil_append, List.cons_append, List.getD_cons_succ, List.getD_cons_zero, if_true, and_true] at hp
          obtain ⟨c0, c1, c2⟩ := HC7.out w (Grow.trans HGa.out (Grow.undrew hw))
          go_simp
          exact hK _ (Grow.refl _)
        -- operation 5
        apply lexf_eq hsz [(0, true), (4, true)] [(140, 0), (141, 1), (142, 2), (143, 3), (144, 4), (146, 7), (147, 8)] none (by kernel_rfl) (by kernel_rfl) (by kernel_rfl) (by kernel_rfl) rfl
        · intro xs w hw hp K hK
          simp only [holdsL, List.nil_append, List.cons_append, List.getD_cons_succ, List.getD_cons_zero, if_true, and_true] at hp
          go_simp
          exact (HCh.out w (Grow.trans HGa.out (Grow.undrew hw))).mono fun e w' h => ⟨_, h.1, hK _ h.2⟩
        -- operation 6
        apply lexf_eq hsz [(5, true)] [(140, 0), (141, 1), (142, 2), (143, 3), (144, 4), (145, 5)] none (by kernel_rfl) (by kernel_rfl) (by kernel_rfl) (by kernel_rfl) rfl
        · intro xs w hw hp K hK
          simp only [holdsL, List.nil_append, List.cons_append, List.getD_cons_succ, List.getD_cons_zero, if_true, and_true] at hp
          go_simp
          exact hK _ (Grow.refl _)
        -- operation 7
        apply lexf_eq hsz [(6, true)] [(140, 0), (141, 1), (142, 2), (143, 3), (144, 4), (145, 5), (139, 6), (147, 8)] none (by kernel_rfl) (by kernel_rfl) (by kernel_rfl) (by kernel_rfl) rfl
        · intro xs w hw hp K hK
          simp only [holdsL, List.nil_append, List.cons_append, List.getD_cons_succ, List.getD_cons_zero, if_true, and_true] at hp
          go_simp
          exact hK _ (Grow.refl _)
        -- operation 8
        apply lexf_eq hsz [(6, true)] [(140, 0), (141, 1), (142, 2), (143, 3), (144, 4), (145, 5), (139, 6), (146, 7), (22, 9)] none (by kernel_rfl) (by kernel_rfl) (by kernel_rfl) (by kernel_rfl) rfl
        · intro xs w hw hp K hK
          simp only [holdsL, List.nil_append, List.cons_append, List.getD_cons_succ, List.getD_cons_zero, if_true, and_true] at hp
          go_simp
          exact hK _ (Grow.refl _)
        -- operation 9
        apply lexf_eq hsz [(7, true)] [(140, 0), (141, 1), (142, 2), (143, 3), (144, 4), (145, 5), (139, 6), (146, 7), (147, 8)] none (by kernel_rfl) (by kernel_rfl) (by kernel_rfl) (by kernel_rfl) rfl
        · intro xs w hw hp K hK
          simp only [holdsL, List.nil_append, List.cons_append, List.getD_cons_succ, List.getD_cons_zero, if_true, and_true] at hp
          go_simp
          exact hK _ (Grow.refl _)
        intro xs wb hw hp
        have ha0 := HA0.out
        clear HA0 hsz s16 s18 s19
        simp only [holdsL, List.nil_append, List.cons_append, List.getD_cons_succ, List.getD_cons_zero, if_true, and_true] at hp
        have h8 := hp.2.2.2.2.2.2.2.2.1
        have h9 := hp.2.2.2.2.2.2.2.2.2
        clear hp
        subst ha0
        simp only [putAll, h8, h9]
        have HGb := keep (Grow.trans HGa.out (Grow.undrew hw))
        clear hw h8 h9 HGa HBe HCh HA7 HR7

        rcases HV9.out with rfl | ⟨rfl, hob⟩
        · go_wp2_with fail
          go_roundw
          case rel => exact ⟨n + 1, by omega, by go_num, keep (Grow.trans HG.out HGb.out)⟩
          case measure => simp [intOf]; omega
        · have Hob := keep hob
          clear hob HV9
          go_upto_region 22 with fail
          go_cut [164] from 124 to 189 (fun sv wx => sv = .bool false ∧ Grow wb wx)
          case first =>
            rcases Hob.out with ⟨rfl, rfl⟩ | ⟨rfl, rfl⟩
            · go_wp2_with fail
              all_goals go_meet
              all_goals (case rel => exact ⟨rfl, Grow.refl _⟩)
            · go_wp2_with fail
              all_goals go_meet
              all_goals (case rel => exact ⟨rfl, Grow.refl _⟩)
          case rest =>
            obtain ⟨rfl, hgw⟩ := hcut
            generalize wc = wr2 at *
            have HG2 := keep (Grow.trans HGb.out hgw)
            clear hgw HGb
            go_wp2_with fail
            go_loopw [24, 25] (fun lf q wr => ∃ m : Nat, m ≤ a.length ∧ lf = .bool (decide ((k2, p2, s2) ∈ a.take m)) ∧ q = .int .i64 m ∧ Kept (Grow wr2 wr)) (fun _ q _ => a.length - (intOf q).toNat)
            case atStart => exact ⟨0, Nat.zero_le _, by simp, rfl, keep (Grow.refl _)⟩
            case round =>
              obtain ⟨m, hm, rfl, rfl, HGm⟩ := hrel
              by_cases hmt : m < a.length
              · obtain ⟨c3, off3, cap3, e3, hc3⟩ := en_at HXs.out.weak hmt
                simp only [Value.slice.injEq, Option.some.injEq, Addr.mk.injEq] at e3
                obtain ⟨⟨rfl, rfl, x0⟩, x1, x2⟩ := e3
                have hms := mem_take_succ hmt (k2, p2, s2)
                generalize a[m] = g3 at *
                obtain ⟨k3, p3, s3⟩ := g3
                dsimp only at hc3
                have HMs := keep hms
                have HX9 := keep (fun (u : World) (hu : Grow wr u) => hc3 u (Grow.trans HG7.out (Grow.trans HG8.out (Grow.trans HG68.out (Grow.trans HG11.out (Grow.trans HG.out (Grow.trans HG2.out (Grow.trans HGm.out hu))))))))
                have HC9 := keep (fun (u : World) (hu : Grow wr u) => HC7.out u (Grow.trans HG2.out (Grow.trans HGm.out hu)))
                clear hms hc3 x0 x1 x2
                go_upto_region 28 with fail
                generalize decide ((k2, p2, s2) ∈ List.take m a) = lf at *
                cases lf
                · skip
                  refine wp_region_grow_named (by kernel_rfl) 12 (by kernel_rfl) [(171, 0), (172, 1), (173, 2), (174, 3), (175, 4), (176, 5), (177, 6), (178, 7), (179, 8), (180, 9), (181, 10), (182, 11)] (by kernel_rfl) [(0, true), (1, true), (2, true), (3, true), (4, true), (5, true), (6, true), (7, true), (8, true), (9, true), (10, true), (11, true)] (by kernel_rfl) rfl rfl ?_
                  intro a0 ha0
                  have hsz : a0.tmps.size = 191 := (size_at ha0).trans rfl
                  have s12 := slot_at ha0 12 rfl
                  have s18 := slot_at ha0 18 rfl
                  have s19 := slot_at ha0 19 rfl
                  have s24 := slot_at ha0 24 rfl
                  have s25 := slot_at ha0 25 rfl
                  have HA0 := keep ha0
                  clear ha0
                  -- operation 0
                  apply lexf_eq hsz [] [(173, 2), (174, 3), (175, 4), (176, 5), (177, 6), (178, 7), (179, 8), (180, 9), (181, 10), (182, 11)] none (by kernel_rfl) (by kernel_rfl) (by kernel_rfl) (by kernel_rfl) rfl
                  · intro xs w hw hp K hK
                    go_simp
                    exact hK _ (Grow.refl _)
                  -- operation 1
                  apply lexf_eq hsz [(0, true)] [(171, 0)] none (by kernel_rfl) (by kernel_rfl) (by kernel_rfl) (by kernel_rfl) rfl
                  · intro xs w hw hp K hK
                    simp only [holdsL, List.nil_append, List.cons_append, List.getD_cons_succ, List.getD_cons_zero, if_true, and_true] at hp
                    go_simp
                    exact hK _ (Grow.refl _)
                  -- operation 2
                  apply lexf_eq hsz [(1, true)] [(171, 0), (172, 1), (174, 3), (176, 5), (177, 6), (178, 7), (179, 8), (180, 9), (181, 10), (182, 11)] (some (172, false)) (by kernel_rfl) (by kernel_rfl) (by kernel_rfl) (by kernel_rfl) rfl
                  · intro xs w hw hp K hK
                    simp only [holdsL, List.nil_append, List.cons_append, List.getD_cons_succ, List.getD_cons_zero, if_true, and_true] at hp
                    go_simp
                    exact hK _ (Grow.refl _)
                  -- operation 3
                  apply lexf_eq hsz [(1, true)] [(171, 0), (172, 1), (173, 2), (176, 5), (177, 6), (178, 7), (179, 8), (180, 9), (181, 10), (182, 11)] (some (172, false)) (by kernel_rfl) (by kernel_rfl) (by kernel_rfl) (by kernel_rfl) rfl
                  · intro xs w hw hp K hK
                    simp only [holdsL, List.nil_append, List.cons_append, List.getD_cons_succ, List.getD_cons_zero, if_true, and_true] at hp
                    go_simp
                    exact hK _ (Grow.refl _)
                  -- operation 4
                  apply lexf_eq hsz [(1, true), (2, true), (3, true)] [(171, 0), (172, 1), (173, 2), (174, 3), (177, 6), (178, 7), (179, 8), (180, 9), (181, 10), (182, 11)] (some (172, false)) (by kernel_rfl) (by kernel_rfl) (by kernel_rfl) (by kernel_rfl) rfl
                  · intro xs w hw hp K hK
                    simp only [holdsL, List.nil_append, List.cons_append, List.getD_cons_succ, List.getD_cons_zero, if_true, and_true] at hp
                    have q1 : m < a.length := hmt
                    have q2 : (m : Int) < (a.length : Int) := by omega
                    go_simp
                    exact hK _ (Grow.refl _)
                  -- operation 5
                  apply lexf_eq hsz [(1, true), (4, true)] [(171, 0), (172, 1), (173, 2), (174, 3), (175, 4), (177, 6), (178, 7), (179, 8), (180, 9), (182, 11)] (some (172, false)) (by kernel_rfl) (by kernel_rfl) (by kernel_rfl) (by kernel_rfl) rfl
                  · intro xs w hw hp K hK
                    simp only [holdsL, List.nil_append, List.cons_append, List.getD_cons_succ, List.getD_cons_zero, if_true, and_true] at hp
                    obtain ⟨c0, c1, c2⟩ := HX9.out w (Grow.undrew hw)
                    go_simp
                    exact hK _ (Grow.refl _)
                  -- operation 6
                  apply lexf_eq hsz [(1, true)] [(171, 0), (172, 1), (173, 2), (174, 3), (175, 4), (176, 5), (178, 7), (180, 9), (181, 10), (182, 11)] (some (172, false)) (by kernel_rfl) (by kernel_rfl) (by kernel_rfl) (by kernel_rfl) rfl
                  · intro xs w hw hp K hK
                    simp only [holdsL, List.nil_append, List.cons_append, List.getD_cons_succ, List.getD_cons_zero, if_true, and_true] at hp
                    go_simp
                    exact hK _ (Grow.refl _)
                  -- operation 7
                  apply lexf_eq hsz [(1, true)] [(171, 0), (172, 1), (173, 2), (174, 3), (175, 4), (176, 5), (177, 6), (180, 9), (181, 10), (182, 11)] (some (172, false)) (by kernel_rfl) (by kernel_rfl) (by kernel_rfl) (by kernel_rfl) rfl
                  · intro xs w hw hp K hK
                    simp only [holdsL, List.nil_append, List.cons_append, List.getD_cons_succ, List.getD_cons_zero, if_true, and_true] at hp
                    go_simp
                    exact hK _ (Grow.refl _)
                  -- operation 8
                  apply lexf_eq hsz [(1, true), (6, true), (7, true)] [(171, 0), (172, 1), (173, 2), (174, 3), (175, 4), (176, 5), (177, 6), (178, 7), (181, 10), (182, 11)] (some (172, false)) (by kernel_rfl) (by kernel_rfl) (by kernel_rfl) (by kernel_rfl) rfl
                  · intro xs w hw hp K hK
                    simp only [holdsL, List.nil_append, List.cons_append, List.getD_cons_succ, List.getD_cons_zero, if_true, and_true] at hp
                    have q1 : n < L.length + 1 := hlt
                    have q2 : (n : Int) < (L.length : Int) + 1 := by omega
                    go_simp
                    exact hK _ (Grow.refl _)
                  -- operation 9
                  apply lexf_eq hsz [(1, true), (8, true)] [(171, 0), (172, 1), (173, 2), (174, 3), (175, 4), (176, 5), (177, 6), (178, 7), (179, 8), (182, 11)] (some (172, false)) (by kernel_rfl) (by kernel_rfl) (by kernel_rfl) (by kernel_rfl) rfl
                  · intro xs w hw hp K hK
                    simp only [holdsL, List.nil_append, List.cons_append, List.getD_cons_succ, List.getD_cons_zero, if_true, and_true] at hp
                    obtain ⟨c0, c1, c2⟩ := HC9.out w (Grow.undrew hw)
                    go_simp
                    exact hK _ (Grow.refl _)
                  -- operation 10
                  apply lexf_eq hsz [(1, true), (5, true), (9, true)] [(171, 0), (172, 1), (173, 2), (174, 3), (175, 4), (176, 5), (177, 6), (178, 7), (179, 8), (180, 9)] (some (172, false)) (by kernel_rfl) (by kernel_rfl) (by kernel_rfl) (by kernel_rfl) rfl
                  · intro xs w hw hp K hK
                    simp only [holdsL, List.nil_append, List.cons_append, List.getD_cons_succ, List.getD_cons_zero, if_true, and_true] at hp
                    go_simp
                    exact hK _ (Grow.refl _)
                  -- operation 11
                  apply lexf_eq hsz [(1, true), (10, true)] [(171, 0), (172, 1), (173, 2), (174, 3), (175, 4), (176, 5), (177, 6), (178, 7), (179, 8), (180, 9), (181, 10)] none (by kernel_rfl) (by kernel_rfl) (by kernel_rfl) (by kernel_rfl) rfl
                  · intro xs w hw hp K hK
                    simp only [holdsL, List.nil_append, List.cons_append, List.getD_cons_succ, List.getD_cons_zero, if_true, and_true] at hp
                    go_simp
                    exact hK _ (Grow.refl _)
                  intro xs wd hw hp
                  have ha0 := HA0.out
                  clear HA0 hsz s24 s12 s18 s19 s25
                  simp only [holdsL, List.nil_append, List.cons_append, List.getD_cons_succ, List.getD_cons_zero, if_true, and_true] at hp
                  have h11 := hp.2.2.2.2.2.2.2.2.2.2.2
                  clear hp
                  subst ha0
                  simp only [putAll, h11]
                  have hgd := Grow.trans HGm.out (Grow.undrew hw)
                  have HGd := keep hgd
                  have hse := HMs.out
                  rw [Bool.false_or] at hse
                  clear hw h11 hgd HX9 HC9 HMs
                  go_wp2_with fail
                  go_roundw
                  case rel => exact ⟨m + 1, by omega, by rw [hse], by go_num, HGd⟩
                  case measure => simp [intOf]; omega
                · skip
                  refine wp_region_grow_named (by kernel_rfl) 12 (by kernel_rfl) [(171, 0), (172, 1), (173, 2), (174, 3), (175, 4), (176, 5), (177, 6), (178, 7), (179, 8), (180, 9), (181, 10), (182, 11)] (by kernel_rfl) [(0, true), (1, true), (2, true), (3, true), (4, true), (5, true), (6, true), (7, true), (8, true), (9, true), (10, true), (11, true)] (by kernel_rfl) rfl rfl ?_
                  intro a0 ha0
                  have hsz : a0.tmps.size = 191 := (size_at ha0).trans rfl
                  have s12 := slot_at ha0 12 rfl
                  have s18 := slot_at ha0 18 rfl
                  have s19 := slot_at ha0 19 rfl
                  have s24 := slot_at ha0 24 rfl
                  have s25 := slot_at ha0 25 rfl
                  have HA0 := keep ha0
                  clear ha0
                  -- operation 0
                  apply lexf_eq hsz [] [(173, 2), (174, 3), (175, 4), (176, 5), (177, 6), (178, 7), (179, 8), (180, 9), (181, 10), (182, 11)] none (by kernel_rfl) (by kernel_rfl) (by kernel_rfl) (by kernel_rfl) rfl
                  · intro xs w hw hp K hK
                    go_simp
                    exact hK _ (Grow.refl _)
                  -- operation 1
                  apply lexf_eq hsz [(0, true)] [(171, 0)] none (by kernel_rfl) (by kernel_rfl) (by kernel_rfl) (by kernel_rfl) rfl
                  · intro xs w hw hp K hK
                    simp only [holdsL, List.nil_append, List.cons_append, List.getD_cons_succ, List.getD_cons_zero, if_true, and_true] at hp
                    go_simp
                    exact hK _ (Grow.refl _)
                  -- operation 2
                  apply lexf_eq hsz [(1, true)] [(171, 0), (172, 1), (174, 3), (176, 5), (177, 6), (178, 7), (179, 8), (180, 9), (181, 10), (182, 11)] (some (172, false)) (by kernel_rfl) (by kernel_rfl) (by kernel_rfl) (by kernel_rfl) rfl
                  · intro xs w hw hp K hK
                    simp only [holdsL, List.nil_append, List.cons_append, List.getD_cons_succ, List.getD_cons_zero, if_true, and_true] at hp
                    go_simp
                    exact hK _ (Grow.refl _)
                  -- operation 3
                  apply lexf_eq hsz [(1, true)] [(171, 0), (172, 1), (173, 2), (176, 5), (177, 6), (178, 7), (179, 8), (180, 9), (181, 10), (182, 11)] (some (172, false)) (by kernel_rfl) (by kernel_rfl) (by kernel_rfl) (by kernel_rfl) rfl
                  · intro xs w hw hp K hK
                    simp only [holdsL, List.nil_append, List.cons_append, List.getD_cons_succ, List.getD_cons_zero, if_true, and_true] at hp
                    go_simp
                    exact hK _ (Grow.refl _)
                  -- operation 4
                  apply lexf_eq hsz [(1, true), (2, true), (3, true)] [(171, 0), (172, 1), (173, 2), (174, 3), (177, 6), (178, 7), (179, 8), (180, 9), (181, 10), (182, 11)] (some (172, false)) (by kernel_rfl) (by kernel_rfl) (by kernel_rfl) (by kernel_rfl) rfl
                  · intro xs w hw hp K hK
                    simp only [holdsL, List.nil_append, List.cons_append, List.getD_cons_succ, List.getD_cons_zero, if_true, and_true] at hp
                    have q1 : m < a.length := hmt
                    have q2 : (m : Int) < (a.length : Int) := by omega
                    go_simp
                    exact hK _ (Grow.refl _)
                  -- operation 5
                  apply lexf_eq hsz [(1, true), (4, true)] [(171, 0), (172, 1), (173, 2), (174, 3), (175, 4), (177, 6), (178, 7), (179, 8), (180, 9), (182, 11)] (some (172, false)) (by kernel_rfl) (by kernel_rfl) (by kernel_rfl) (by kernel_rfl) rfl
                  · intro xs w hw hp K hK
                    simp only [holdsL, List.nil_append, List.cons_append, List.getD_cons_succ, List.getD_cons_zero, if_true, and_true] at hp
                    obtain ⟨c0, c1, c2⟩ := HX9.out w (Grow.undrew hw)
                    go_simp
                    exact hK _ (Grow.refl _)
                  -- operation 6
                  apply lexf_eq hsz [(1, true)] [(171, 0), (172, 1), (173, 2), (174, 3), (175, 4), (176, 5), (178, 7), (180, 9), (181, 10), (182, 11)] (some (172, false)) (by kernel_rfl) (by kernel_rfl) (by kernel_rfl) (by kernel_rfl) rfl
                  · intro xs w hw hp K hK
                    simp only [holdsL, List.nil_append, List.cons_append, List.getD_cons_succ, List.getD_cons_zero, if_true, and_true] at hp
                    go_simp
                    exact hK _ (Grow.refl _)
                  -- operation 7
                  apply lexf_eq hsz [(1, true)] [(171, 0), (172, 1), (173, 2), (174, 3), (175, 4), (176, 5), (177, 6), (180, 9), (181, 10), (182, 11)] (some (172, false)) (by kernel_rfl) (by kernel_rfl) (by kernel_rfl) (by kernel_rfl) rfl
                  · intro xs w hw hp K hK
                    simp only [holdsL, List.nil_append, List.cons_append, List.getD_cons_succ, List.getD_cons_zero, if_true, and_true] at hp
                    go_simp
                    exact hK _ (Grow.refl _)
                  -- operation 8
                  apply lexf_eq hsz [(1, true), (6, true), (7, true)] [(171, 0), (172, 1), (173, 2), (174, 3), (175, 4), (176, 5), (177, 6), (178, 7), (181, 10), (182, 11)] (some (172, false)) (by kernel_rfl) (by kernel_rfl) (by kernel_rfl) (by kernel_rfl) rfl
                  · intro xs w hw hp K hK
                    simp only [holdsL, List.nil_append, List.cons_append, List.getD_cons_succ, List.getD_cons_zero, if_true, and_true] at hp
                    have q1 : n < L.length + 1 := hlt
                    have q2 : (n : Int) < (L.length : Int) + 1 := by omega
                    go_simp
                    exact hK _ (Grow.refl _)
                  -- operation 9
                  apply lexf_eq hsz [(1, true), (8, true)] [(171, 0), (172, 1), (173, 2), (174, 3), (175, 4), (176, 5), (177, 6), (178, 7), (179, 8), (182, 11)] (some (172, false)) (by kernel_rfl) (by kernel_rfl) (by kernel_rfl) (by kernel_rfl) rfl
                  · intro xs w hw hp K hK
                    simp only [holdsL, List.nil_append, List.cons_append, List.getD_cons_succ, List.getD_cons_zero, if_true, and_true] at hp
                    obtain ⟨c0, c1, c2⟩ := HC9.out w (Grow.undrew hw)
                    go_simp
                    exact hK _ (Grow.refl _)
                  -- operation 10
                  apply lexf_eq hsz [(1, true), (5, true), (9, true)] [(171, 0), (172, 1), (173, 2), (174, 3), (175, 4), (176, 5), (177, 6), (178, 7), (179, 8), (180, 9)] (some (172, false)) (by kernel_rfl) (by kernel_rfl) (by kernel_rfl) (by kernel_rfl) rfl
                  · intro xs w hw hp K hK
                    simp only [holdsL, List.nil_append, List.cons_append, List.getD_cons_succ, List.getD_cons_zero, if_true, and_true] at hp
                    go_simp
                    exact hK _ (Grow.refl _)
                  -- operation 11
                  apply lexf_eq hsz [(1, true), (10, true)] [(171, 0), (172, 1), (173, 2), (174, 3), (175, 4), (176, 5), (177, 6), (178, 7), (179, 8), (180, 9), (181, 10)] none (by kernel_rfl) (by kernel_rfl) (by kernel_rfl) (by kernel_rfl) rfl
                  · intro xs w hw hp K hK
                    simp only [holdsL, List.nil_append, List.cons_append, List.getD_cons_succ, List.getD_cons_zero, if_true, and_true] at hp
                    go_simp
                    exact hK _ (Grow.refl _)
                  intro xs wd hw hp
                  have ha0 := HA0.out
                  clear HA0 hsz s24 s12 s18 s19 s25
                  simp only [holdsL, List.nil_append, List.cons_append, List.getD_cons_succ, List.getD_cons_zero, if_true, and_true] at hp
                  have h11 := hp.2.2.2.2.2.2.2.2.2.2.2
                  clear hp
                  subst ha0
                  simp only [putAll, h11]
                  have hgd := Grow.trans HGm.out (Grow.undrew hw)
                  have HGd := keep hgd
                  have hse := HMs.out
                  rw [Bool.true_or] at hse
                  clear hw h11 hgd HX9 HC9 HMs
                  go_wp2_with fail
                  go_roundw
                  case rel => exact ⟨m + 1, by omega, by rw [hse], by go_num, HGd⟩
                  case measure => simp [intOf]; omega
              · have e : m = a.length := by omega
                subst e
                rw [List.take_length]
                generalize decide ((k2, p2, s2) ∈ a) = mb at *
                have HG9 := keep (Grow.trans HG2.out HGm.out)
                go_upto_region 29 with fail
                go_cut [189] from 124 to 189 (fun sv wx => sv = .bool false ∧ Grow wr wx)
                case first =>
                  by_cases h0 : n = 0
                  · have hd : decide ((0 : Int) < (n : Int)) = false := decide_eq_false (by omega)
                    have hd2 : decide (0 < n) = false := decide_eq_false (by omega)
                    clear h0
                    go_wp2_with fail
                    all_goals go_meet
                    all_goals (case rel => exact ⟨rfl, Grow.refl _⟩)
                  · have hd : decide ((0 : Int) < (n : Int)) = true := decide_eq_true (by omega)
                    have hd2 : decide (0 < n) = true := decide_eq_true (by omega)
                    have hmb : mb = !ob := HH1.out (by simp) (by omega)
                    subst hmb
                    clear h0
                    cases ob <;> go_wp2_with fail
                    all_goals go_meet
                    all_goals (case rel => exact ⟨rfl, Grow.refl _⟩)
                case rest =>
                  obtain ⟨rfl, hgw⟩ := hcut
                  generalize wc = wr3 at *
                  have HGe := keep (Grow.trans HG.out (Grow.trans HG9.out hgw))
                  clear hgw
                  go_wp2_with fail
                  go_roundw
                  case rel => exact ⟨n + 1, by omega, by go_num, HGe⟩
                  case measure => simp [intOf]; omega
      · have e : n = L.length + 1 := by omega
        subst e
        go_wp2_with fail
        refine (awake_any _).mono ?_
        rintro x w12 ⟨rfl, hb12⟩
        go_wp2_with fail
        go_ret
        exact ⟨rfl, Grow.trans HG0.out (Grow.trans HG3.out (Grow.trans HG310.out (Grow.trans HG11.out (Grow.trans HG.out hb12))))⟩
  · have hno := HNo.out (by omega) w3 _ HI3.out
    unfold SplitPost pgV enV at hno
    dsimp only [zeroP, leastE] at hno
    have HNo2 := keep hno
    clear hno HYes HNo HHalf
    go_wp2_with fail
    refine HNo2.out.mono ?_
    rintro x w4 ⟨av, bv, rfl, hia, hib, hb4⟩
    obtain ⟨aa, ac, rfl⟩ := itemsS_form hia.1
    obtain ⟨ba, bc, rfl⟩ := itemsS_form hib.1
    go_upto_region 4 with fail
    obtain ⟨w5, hw5⟩ : ∃ w5, w5 = ((w4.alloc (.cells #[.int .i64 0, .int .i64 0, .int .i64 0, .int .i64 0, .string (str []), .slice aa 0 ac] 39)).alloc (.cells #[.int .i64 0, .int .i64 0, .int .i64 0, .int .i64 0, .string (str []), .slice ba 0 bc] 39)).alloc (.cells #[.string (str []), .int .i64 0, .int .i64 0] 23) := ⟨_, rfl⟩
    have hg5 : Grow w3 w5 := by subst hw5; exact Grow.alloc (Grow.alloc (Grow.alloc hb4 _) _) _
    rw [← hw5]
    have hlt : (L.length : Int) < 2 := by omega
    clear hw5 hb4 hia hib p0 p1 p2 p3 p4 p5 h2
    go_wp2_with fail
    refine (awake_any w5).mono ?_
    rintro x w6 ⟨rfl, hb6⟩
    go_wp2_with fail
    go_ret
    exact ⟨rfl, Grow.trans HG0.out (Grow.trans HG3.out (Grow.trans hg5 hb6))⟩

end Go.Proofs.Ytigbgodbalpgdaa
