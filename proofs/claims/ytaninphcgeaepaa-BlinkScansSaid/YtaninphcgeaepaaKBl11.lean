import Derived.Test.YtaninphcgeaepaaKLexr
import Derived.Test.YtaninphcgeaepaaKBl1
import Derived.Test.YtaninphcgeaepaaKSl1
import Derived.Test.YtaninphcgeaepaaKLexk
import Derived.Deep.CutRange
namespace Go.Proofs.Ytaninphcgeaepaa
open Go.RowKit
attribute [local go_sem] givesF_none givesF_some evalF_tmp evalF_const evalF_global evalF_func lookL isB_bool isB_undef givesUpon_value givesUpon_skip givesUpon_enter
def lk7 (j : Nat) : Nat := if j = 7 then 6 else j
def leafQ : Pg := ⟨0, 3, 0, 0, [], [[1, 98, 2, 0]]⟩
theorem bw0 : encN ([98], 2, 0) = ([1, 98, 2, 0], 0) := by kernel_rfl
theorem bw1 : openOk leafP = true := by kernel_rfl
theorem bw2 : decN [1, 98, 2, 0] = (([98], 2, 0), 0) := by kernel_rfl
theorem bw3 : ([98], 2, 0) ∉ ensN leafP := by
 have h : ensN leafP = [] := by kernel_rfl
 rw [h]; simp
theorem bw4 : insN leafP ([98], 2, 0) = (leafQ, 0) := by kernel_rfl
theorem bw5 : hitsL leafQ [97] [99] = [([98], 2, 0)] := by kernel_rfl
theorem bw6 : hitsM leafQ [99] = false := by kernel_rfl
theorem bw7 : entC leafQ = 0 := by kernel_rfl
theorem bw8 : wayN leafQ 0 ([122], 0, 0) = (0, true, 0) := by kernel_rfl
theorem bw9 : wayN leafQ 1 ([122], 0, 0) = (0, false, 140) := by kernel_rfl
set_option maxRecDepth 100000 in
set_option maxHeartbeats 4000000 in
theorem awake15_any (w_ : World) : Calls Try.prog 11 #[] w_ fun x w' => x = .returned (.bool true) ∧ Below w_.heap.size w_ w' := by
 have hin := fun u => (pgIn_of (w := u) (P := leafP) (ItemsC.nil u) rfl (by decide) (by decide) (by decide))
 have h1 := fun u => encode_any ([98], 2, 0) u
 rw [bw0] at h1
 have h2 := fun u => enter_new leafP (.slice none 0 0) 1 [1, 98, 2, 0] ([98], 2, 0) u (hin u) (by decide) bw1 rfl bw2 bw3 (by rw [bw4])
 have h3 := fun u => changed_new leafP (.slice none 0 0) 1 [1, 98, 2, 0] ([98], 2, 0) u (hin u) (by decide) rfl bw2
 rw [bw4] at h3
 have hin2 := fun u iv (h : ItemsC u iv leafQ.items) => (pgIn_of (w := u) (P := leafQ) h rfl (by decide) (by decide) (by decide))
 have h4 := fun u iv (h : ItemsC u iv leafQ.items) => hits_any leafQ iv [97] [99] u (hin2 u iv h)
 have h5 := fun u iv (h : ItemsC u iv leafQ.items) => way_any leafQ iv 0 ([122], 0, 0) u (hin2 u iv h)
 have h6 := fun u iv (h : ItemsC u iv leafQ.items) => way_any leafQ iv 1 ([122], 0, 0) u (hin2 u iv h)
 unfold PgPost at h3
 unfold HitsPost at h4
 unfold WayPost at h5 h6
 rw [bw5, bw6, bw7] at h4
 rw [bw8] at h5
 rw [bw9] at h6
 generalize hq : leafQ = P1 at *
 have hq1 : P1.items.length = 1 := by subst hq; rfl
 unfold pgV leafP at h2 h3
 unfold enV at h1 h5 h6
 unfold pgV at h4 h5 h6
 dsimp only at h1 h2 h3 h4 h5 h6
 have H1 := keep h1
 have H2 := keep h2
 have HCh := keep h3
 have H4 := keep h4
 have H5 := keep h5
 have H6 := keep h6
 clear h1 h2 h3 h4 h5 h6 hin hin2 hq hq1
 go_enter Try.func11, Try.ntmps11
 go_wp2_with fail
 refine (H1.out w_).mono ?_
 rintro x w1 ⟨rfl, hb1⟩
 go_wp2_with fail
 refine (leaf_any w1).mono ?_
 rintro x w2 ⟨rfl, hb2⟩
 unfold pgV leafP
 go_wp2_with fail
 refine (H2.out w2).mono ?_
 rintro x w3 ⟨rfl, hb3⟩
 unfold recV
 go_upto_region 3 with fail
 obtain ⟨w4, hw4⟩ : ∃ w4, w4 = w3.alloc (.cells (recCells 3 1 (str [1, 98, 2, 0])).toArray 50) := ⟨_, rfl⟩
 have hg4 : Grow w_ w4 := by subst hw4; exact Grow.trans hb1 (Grow.trans hb2 (Grow.trans hb3 ((Grow.refl _).alloc _)))
 have hC4 : Blk w4 w3.heap.size 50 (recCells 3 1 (str [1, 98, 2, 0])) := by subst hw4; exact Blk.new w3 _ _
 have HG4 := keep hg4
 have HC4 := keep (fun (u : World) (hu : Fill w4.heap.size 27 (GoodC P1) w4.drew u) => Blk.below hC4.drew hu.below hC4.lt)
 unfold recCells at hw4 HC4
 rw [← hw4]
 clear hw4 hg4 hC4 hb1 hb2 hb3 H1 H2
 refine wp_region_link_named (by kernel_rfl) 8 lk7 (Fill w4.heap.size 27 (GoodC P1)) (Fill.refl _) (fun _ _ _ => Fill.trans (goodC_stays P1)) (by kernel_rfl) (by kernel_rfl) [(28, 0), (29, 1), (30, 2), (27, 3), (31, 4), (32, 5), (5, 6)] (by kernel_rfl) [(0, true), (1, true), (2, true), (3, true), (4, true), (5, true), (6, true), (7, true)] (by kernel_rfl) rfl rfl ?_
 intro a0 ha0
 have hsz : a0.tmps.size = 98 := (size_at ha0).trans rfl
 have s3 := slot_at ha0 3 rfl
 have HA0 := keep ha0
 clear ha0
 apply lexkf_eq hsz [] [(29, 1), (27, 3), (31, 4), (32, 5), (5, 6)] none (by kernel_rfl) (by kernel_rfl) (by kernel_rfl) (by kernel_rfl) rfl rfl
 ·intro xs w hw hp K hK
  go_simp
  exact (leaf_any w).mono fun e w' h => ⟨_, h.1, hK _ (Fill.of_grow h.2 hw.below.size)⟩
 apply lexkf_eq hsz [] [(28, 0), (27, 3), (31, 4), (32, 5), (5, 6)] none (by kernel_rfl) (by kernel_rfl) (by kernel_rfl) (by kernel_rfl) rfl rfl
 ·intro xs w hw hp K hK
  obtain ⟨⟨r0, r1, r2, r3, r4, r5, r6, r7, r8, r9, r10, r11, r12, r13, r14, r15⟩, _⟩ := recres (HC4.out w hw)
  go_simp
  exact hK _ (Fill.refl _)
 refine lexkf_says hsz (fun v u => ∃ iv, v = .tuple #[pgV P1 iv, .int .i64 0] ∧ ItemsC u iv P1.items) (fun _ _ _ g h => h.elim fun iv h => ⟨iv, h.1, g.itemsC h.2⟩) [(0, true), (1, true)] [(28, 0), (29, 1), (31, 4), (32, 5), (5, 6)] none (by kernel_rfl) (by kernel_rfl) (by kernel_rfl) (by kernel_rfl) rfl rfl ?_ ?_
 ·intro xs w hw hp K hK
  simp only [holdsK, lk7, reduceIte, Nat.reduceEqDiff, List.nil_append, List.cons_append, List.getD_cons_succ, List.getD_cons_zero, if_true, and_true] at hp
  go_simp
  exact (HCh.out w).mono fun e w' ⟨iv, h1, h2, h3⟩ => ⟨_, h1, hK _ _ ⟨iv, rfl, h2⟩ (Fill.of_grow h3 hw.below.size)⟩
 refine lexkf_says hsz (fun v u => ∃ iv, v = .tuple #[pgV P1 iv, .int .i64 0] ∧ ItemsC u iv P1.items) (fun _ _ _ g h => h.elim fun iv h => ⟨iv, h.1, g.itemsC h.2⟩) [(2, true)] [(28, 0), (29, 1), (30, 2), (5, 6)] none (by kernel_rfl) (by kernel_rfl) (by kernel_rfl) (by kernel_rfl) rfl rfl ?_ ?_
 ·intro xs w hw hp K hK
  simp only [holdsK, lk7, reduceIte, Nat.reduceEqDiff, List.nil_append, List.cons_append, List.getD_cons_succ, List.getD_cons_zero, if_true, and_true] at hp
  obtain ⟨iv8, h8, hit⟩ := hp
  go_simp
  exact hK _ _ ⟨iv8, rfl, hit⟩ (Fill.refl _)
 refine lexkf_says hsz (fun v u => ∃ iv, v = pgV P1 iv ∧ ItemsC u iv P1.items) (fun _ _ _ g h => h.elim fun iv h => ⟨iv, h.1, g.itemsC h.2⟩) [(3, true)] [(28, 0), (29, 1), (30, 2), (27, 3), (32, 5), (5, 6)] none (by kernel_rfl) (by kernel_rfl) (by kernel_rfl) (by kernel_rfl) rfl rfl ?_ ?_
 ·intro xs w hw hp K hK
  simp only [holdsK, lk7, reduceIte, Nat.reduceEqDiff, List.nil_append, List.cons_append, List.getD_cons_succ, List.getD_cons_zero, if_true, and_true] at hp
  obtain ⟨iv8, h8, hit⟩ := hp
  go_simp
  exact hK _ _ ⟨iv8, rfl, hit⟩ (Fill.refl _)
 refine lexkf_says hsz (fun v _ => v = .int .i64 0) (fun _ _ _ _ h => h) [(3, true)] [(28, 0), (29, 1), (30, 2), (27, 3), (31, 4), (5, 6)] none (by kernel_rfl) (by kernel_rfl) (by kernel_rfl) (by kernel_rfl) rfl rfl ?_ ?_
 ·intro xs w hw hp K hK
  simp only [holdsK, lk7, reduceIte, Nat.reduceEqDiff, List.nil_append, List.cons_append, List.getD_cons_succ, List.getD_cons_zero, if_true, and_true] at hp
  obtain ⟨iv8, h8, hit⟩ := hp
  go_simp
  exact hK _ _ rfl (Fill.refl _)
 refine lexkf_says hsz (fun v u => ∃ b, v = .pointer (some ⟨b, 0, none⟩) ∧ w4.heap.size ≤ b ∧ ∃ a0 a1 a2 a3 a4 a5, Blk u b 27 [a0, a1, a2, a3, a4, a5]) (fun _ _ _ g ⟨b, h1, h2, h3⟩ => ⟨b, h1, h2, fill_six g h3⟩) [] [(28, 0), (29, 1), (30, 2), (27, 3), (31, 4), (32, 5)] none (by kernel_rfl) (by kernel_rfl) (by kernel_rfl) (by kernel_rfl) rfl rfl ?_ ?_
 ·intro xs w hw hp K hK
  go_simp
  exact hK _ _ ⟨_, rfl, hw.below.size, _, _, _, _, _, _, Blk.new w _ [_, _, _, _, _, _]⟩ (Fill.of_grow ((Grow.refl w).alloc _) hw.below.size)
 refine lexkf_link hsz (fun v u => ∃ b, v = .pointer (some ⟨b, 0, none⟩) ∧ w4.heap.size ≤ b ∧ ∃ iv', Blk u b 27 (pgCells P1 iv') ∧ ItemsC u iv' P1.items) (fun _ _ _ hg ⟨b, h1, h2, iv', h3, h4⟩ => ⟨b, h1, h2, goodC_lasts hg h3 h4⟩) [(4, true), (6, true)] [(28, 0), (29, 1), (30, 2), (27, 3), (31, 4), (32, 5), (5, 6)] none (by kernel_rfl) (by kernel_rfl) (by kernel_rfl) (by kernel_rfl) rfl (by decide) ?_ ?_
 ·intro xs w hw hp K hK
  simp only [holdsK, lk7, reduceIte, Nat.reduceEqDiff, List.nil_append, List.cons_append, List.getD_cons_succ, List.getD_cons_zero, if_true, and_true] at hp
  obtain ⟨⟨iv', h17, hit⟩, b, h19, hbN, a0_, a1_, a2_, a3_, a4_, a5_, hB⟩ := hp
  obtain ⟨c0, c1, c2, c3, c4, c5, f0, f1, f2, f3, f4, f5⟩ := pgres hB
  obtain ⟨iva', ivc', rfl⟩ := itemsS_form hit.1
  have Hset := keep (pgset hB (.int .i64 P1.lsn) (.int .i64 P1.kind) (.int .i64 P1.level) (.int .i64 P1.right) (.string (str P1.high)) (.slice iva' P1.items.length ivc'))
  have Hbut := keep (pgbut w b (.int .i64 P1.lsn) (.int .i64 P1.kind) (.int .i64 P1.level) (.int .i64 P1.right) (.string (str P1.high)) (.slice iva' P1.items.length ivc'))
  have Hit2 := keep (itemsC_but hit Hbut.out hB (by decide))
  have HB := keep hB
  unfold pgV at h17
  clear hB hit
  go_simp
  exact hK _ _ ⟨b, h19, hbN, _, Hset.out, Hit2.out⟩ (Fill.but (cs' := pgCells P1 (.slice iva' P1.items.length ivc')) Hbut.out hbN hw.below.size HB.out rfl Hset.out ⟨_, rfl, Hit2.out⟩)
 intro xs w hw hp
 have ha0 := HA0.out
 clear HA0 hsz s3
 simp only [holdsK, lk7, reduceIte, Nat.reduceEqDiff, List.nil_append, List.cons_append, List.getD_cons_succ, List.getD_cons_zero, if_true, and_true] at hp
 have hM := hp.2.2.2.2.2.1
 obtain ⟨b, h19, hbN, ivQ, hQ, hiQ⟩ := hp.2.2.2.2.2.2.2
 clear hp
 subst ha0
 simp only [putAll, hM, h19]
 have hwU := hw.undrew
 have HG6 := keep (Grow.trans HG4.out hwU.below)
 obtain ⟨ja, jc, rfl⟩ := itemsS_form hiQ.1
 have HIt6 := keep hiQ
 have HQ6 := keep hQ
 generalize w = w6 at *
 have hQ6 := hQ
 unfold pgCells at hQ6
 clear hw hwU h19 hQ hiQ HCh HC4
 obtain ⟨p0, p1, p2, p3, p4, p5, _⟩ := pgres hQ6
 clear hQ6
 go_wp2_with fail
 refine (H4.out w6 _ HIt6.out).mono ?_
 rintro x w7 ⟨ea, ec, rfl, hes, hb7⟩
 have hQ7 := HQ6.out.fits hb7
 have HE7 := keep hes
 have HG7 := keep hb7
 unfold pgCells at hQ7
 clear p0 p1 p2 p3 p4 p5 hes hb7
 obtain ⟨p0, p1, p2, p3, p4, p5, _⟩ := pgres hQ7
 clear hQ7
 go_wp2_with fail
 refine (H5.out w7 _ (HIt6.out.fits HG7.out)).mono ?_
 rintro x w8 ⟨rfl, hb8⟩
 have HG8 := keep (Grow.trans HG7.out hb8)
 have hQ8 := HQ6.out.fits HG8.out
 unfold pgCells at hQ8
 clear p0 p1 p2 p3 p4 p5
 obtain ⟨p0, p1, p2, p3, p4, p5, _⟩ := pgres hQ8
 clear hQ8
 go_wp2_with fail
 refine (H6.out w8 _ (HIt6.out.fits HG8.out)).mono ?_
 rintro x w9 ⟨rfl, hb9⟩
 obtain ⟨ce, offe, cape, ee, hce⟩ := ens_at HE7.out (m := 0) (by simp)
 simp only [Value.slice.injEq] at ee
 obtain ⟨rfl, _, _⟩ := ee
 obtain ⟨c0, c1, c2⟩ := hce w9 (Grow.trans hb8 hb9)
 simp only [List.getElem_cons_zero] at c0 c1 c2
 clear hce p0 p1 p2 p3 p4 p5
 go_wp2_with fail
 go_ret
 exact ⟨rfl, Grow.trans HG6.out (Grow.trans HG8.out hb9)⟩
end Go.Proofs.Ytaninphcgeaepaa
