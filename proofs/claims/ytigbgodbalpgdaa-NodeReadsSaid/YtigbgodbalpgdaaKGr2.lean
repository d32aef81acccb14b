import Derived.Test.YtigbgodbalpgdaaKGr1
import Derived.Test.YtigbgodbalpgdaaKLexk
import Derived.Deep.CutRange
/- almonrylaw14.grown. -/
namespace Go.Proofs.Ytigbgodbalpgdaa
open Go.RowKit
attribute [local go_sem] givesF_none givesF_some evalF_tmp evalF_const evalF_global evalF_func lookL isB_bool isB_undef givesUpon_value givesUpon_skip givesUpon_enter

set_option maxRecDepth 100000 in
set_option maxHeartbeats 4000000 in
theorem grown_any (l : List En) (v : Value) (w_ : World) (h : Row w_ 23 v l.length (eCells l)) (hl : (l.length : Int) ≤ 4398046510976) :
    Calls Try.prog 20 #[v] w_ fun x w' => ∃ iv, x = .returned (pgV (pgOf (growL l)) iv) ∧ ItemsC w' iv (pgOf (growL l)).items ∧ Below w_.heap.size w_ w' := by
  obtain ⟨a, cap, rfl⟩ : ∃ a cap, v = .slice a l.length cap := by
    rcases h with ⟨h1, _, a, cap, h2⟩ | ⟨c, off, cap, h1, _⟩
    · exact ⟨a, cap, by rw [h2, h1]⟩
    · exact ⟨_, _, h1⟩
  have hcells : ∀ m (hm : m < l.length), ∃ c off, a = some ⟨c, off, none⟩ ∧ ∀ u, Grow w_ u → (u.cell? ⟨c, off + m * 3, none⟩ = some (.string (str l[m].1)) ∧ u.cell? ⟨c, off + m * 3 + 1, none⟩ = some (.int .i64 l[m].2.1) ∧ u.cell? ⟨c, off + m * 3 + 2, none⟩ = some (.int .i64 l[m].2.2)) := by
    intro m hm
    obtain ⟨c, off, cap', e, hc⟩ := ens_cells h (by omega)
    simp only [Value.slice.injEq] at e
    refine ⟨c, off, e.1, fun u hu => ?_⟩
    have := hc m hm
    exact ⟨(Below.cell hu (World.block_lt_of_cell? w_ _ this.1)).trans this.1, (Below.cell hu (World.block_lt_of_cell? w_ _ this.2.1)).trans this.2.1, (Below.cell hu (World.block_lt_of_cell? w_ _ this.2.2)).trans this.2.2⟩
  obtain ⟨w0, hw0⟩ : ∃ w0, w0 = (w_.alloc (.cells #[.int .i64 0, .int .i64 0, .int .i64 0, .int .i64 0, .string ⟨#[]⟩, .slice none 0 0] 39)) := ⟨_, rfl⟩
  have hg0 : Grow w_ w0 := by subst hw0; exact (Grow.refl w_).alloc _
  have hR0 : Blk w0 w_.heap.size 39 [.int .i64 0, .int .i64 0, .int .i64 0, .int .i64 0, .string ⟨#[]⟩, .slice none 0 0] := by
    have := Blk.new w_ 39 [.int .i64 0, .int .i64 0, .int .i64 0, .int .i64 0, .string ⟨#[]⟩, .slice none 0 0]
    subst hw0; exact this
  have HCells := keep hcells
  have HR0 := keep hR0
  clear h hcells hR0
  go_enter Try.func20, Try.ntmps20
  go_upto_region 1 with fail
  rw [← hw0]
  clear hw0
  go_wp2_with fail
  refine (leaf_any w0).mono ?_
  rintro x w1 ⟨rfl, hb1⟩
  unfold pgV leafP
  dsimp only
  go_upto_region 2 with fail
  obtain ⟨w2, hw2⟩ : ∃ w2, w2 = w1.alloc (.cells #[.int .i64 0, .int .i64 3, .int .i64 0, .int .i64 0, .string (str []), .slice none 0 0] 39) := ⟨_, rfl⟩
  rw [← hw2]
  have hg2 : Grow w_ w2 := by subst hw2; exact Grow.alloc (Grow.trans hg0 hb1) _
  have hB2 : Blk w2 w1.heap.size 39 (pgCells (pgOf (growL [])) (.slice none 0 0)) := by subst hw2; exact Blk.new w1 _ [_, _, _, _, _, _]
  have HR2 := keep ((HR0.out.fits hb1).fits (show Grow w1 w2 by subst hw2; exact (Grow.refl _).alloc _))
  have hz0 : w_.heap.size < w1.heap.size := (HR0.out.fits hb1).lt
  have hz2 : w1.heap.size < w2.heap.size := hB2.lt
  clear hw2 hb1 HR0
  go_wp2_with fail
  go_loopw [4] (fun i wr => ∃ n : Nat, n ≤ l.length ∧ i = .int .i64 n ∧ Kept (∃ iv, Blk wr w1.heap.size 39 (pgCells (pgOf (growL (l.take n))) iv) ∧ ItemsC wr iv (pgOf (growL (l.take n))).items) ∧ Kept (Below w1.heap.size w2 wr)) (fun i _ => l.length - (intOf i).toNat)
  case atStart => exact ⟨0, Nat.zero_le _, rfl, keep ⟨_, hB2, ItemsC.nil _⟩, keep (Below.refl _ _)⟩
  case round =>
    obtain ⟨n, hn, rfl, HB, HG⟩ := hrel
    obtain ⟨iv, hB, hi⟩ := HB.out
    have hgood := growL_good (l.take n)
    by_cases hlt : n < l.length
    · have hstep := growL_succ l n hlt
      obtain ⟨c, off, rfl, hcm⟩ := HCells.out n hlt
      have hins := fun (u : World) (iv : Value) (h : ItemsC u iv (pgOf (growL (l.take n))).items) => insert_any (pgOf (growL (l.take n))) iv l[n] u (pgIn_good hgood h)
      have hof := insN_of hgood l[n]
      have hgw : Grow w_ wr := Below.trans hg2 (HG.out.mono (by omega))
      generalize l[n] = e at *
      obtain ⟨k, p, s⟩ := e
      generalize hG : growL (l.take n) = G at *
      generalize insN (pgOf G) (k, p, s) = R at *
      obtain ⟨Q, cd⟩ := R
      obtain ⟨va, vc, rfl⟩ := itemsS_form hi.1
      unfold enV at hins
      dsimp only at hins hcm
      unfold PgPost at hins
      have HIns := keep (fun (u : World) (h : ItemsC u (.slice va (pgOf G).items.length vc) (pgOf G).items) => hins u _ h)
      have HC7 := keep (fun (u : World) (hu : Fill wr.heap.size 39 (GoodC Q) wr.drew u) => hcm u (Grow.trans hgw (Grow.undrew (u := wr) hu.below)))
      have HP7 := keep (fun (u : World) (hu : Fill wr.heap.size 39 (GoodC Q) wr.drew u) => Blk.below hB.drew hu.below hB.lt)
      have HI7 := keep (fun (u : World) (hu : Fill wr.heap.size 39 (GoodC Q) wr.drew u) => (hu.itemsC hi : ItemsC u (.slice va (pgOf G).items.length vc) (pgOf G).items))
      have HOf := keep hof
      have HStep := keep hstep
      have HB0 := keep hB
      have HI0 := keep hi
      have hblt := hB.lt
      clear hins hcm hof hstep hB hi HB hgw hgood
      unfold pgV at HIns
      unfold pgCells at HP7
      go_upto_region 5 with fail
      refine wp_region_link_named (by kernel_rfl) 11 lk10 (Fill wr.heap.size 39 (GoodC Q)) (Fill.refl _) (fun _ _ _ => Fill.trans (goodC_stays Q)) (by kernel_rfl) (by kernel_rfl) [(15, 0), (16, 1), (17, 2), (18, 3), (19, 4), (20, 5), (14, 6), (21, 7), (22, 8), (5, 9)] (by kernel_rfl) [(0, true), (1, true), (2, true), (3, true), (4, true), (5, true), (6, true), (7, true), (8, true), (9, true), (10, true)] (by kernel_rfl) rfl rfl ?_
      intro a0 ha0
      have hsz : a0.tmps.size = 27 := (size_at ha0).trans rfl
      have s0 := slot_at ha0 0 rfl
      have s3 := slot_at ha0 3 rfl
      have s4 := slot_at ha0 4 rfl
      have HA0 := keep ha0
      clear ha0
      -- operation 0
      apply lexkf_eq hsz [] [(16, 1), (17, 2), (18, 3), (19, 4), (14, 6), (21, 7), (22, 8), (5, 9)] none (by kernel_rfl) (by kernel_rfl) (by kernel_rfl) (by kernel_rfl) rfl rfl
      · intro xs w hw hp K hK
        obtain ⟨p0, p1, p2, p3, p4, p5, _⟩ := pgres (HP7.out w hw)
        go_simp
        exact hK _ (Fill.refl _)
      -- operation 1
      apply lexkf_eq hsz [] [(15, 0), (17, 2), (19, 4), (20, 5), (14, 6), (21, 7), (22, 8), (5, 9)] none (by kernel_rfl) (by kernel_rfl) (by kernel_rfl) (by kernel_rfl) rfl rfl
      · intro xs w hw hp K hK
        go_simp
        exact hK _ (Fill.refl _)
      -- operation 2
      apply lexkf_eq hsz [] [(15, 0), (16, 1), (19, 4), (20, 5), (14, 6), (21, 7), (22, 8), (5, 9)] none (by kernel_rfl) (by kernel_rfl) (by kernel_rfl) (by kernel_rfl) rfl rfl
      · intro xs w hw hp K hK
        go_simp
        exact hK _ (Fill.refl _)
      -- operation 3
      apply lexkf_eq hsz [(1, true), (2, true)] [(15, 0), (16, 1), (17, 2), (20, 5), (14, 6), (21, 7), (22, 8), (5, 9)] none (by kernel_rfl) (by kernel_rfl) (by kernel_rfl) (by kernel_rfl) rfl rfl
      · intro xs w hw hp K hK
        simp only [holdsK, lk10, if_neg, reduceIte, Nat.reduceEqDiff, List.nil_append, List.cons_append, List.getD_cons_succ, List.getD_cons_zero, if_true, and_true] at hp
        have q1 : n < l.length := hlt
        go_simp
        exact hK _ (Fill.refl _)
      -- operation 4
      apply lexkf_eq hsz [(3, true)] [(15, 0), (16, 1), (17, 2), (18, 3), (14, 6), (21, 7), (22, 8), (5, 9)] none (by kernel_rfl) (by kernel_rfl) (by kernel_rfl) (by kernel_rfl) rfl rfl
      · intro xs w hw hp K hK
        simp only [holdsK, lk10, if_neg, reduceIte, Nat.reduceEqDiff, List.nil_append, List.cons_append, List.getD_cons_succ, List.getD_cons_zero, if_true, and_true] at hp
        obtain ⟨c0, c1, c2⟩ := HC7.out w hw
        go_simp
        exact hK _ (Fill.refl _)
      -- operation 5
      refine lexkf_says hsz (fun v u => ∃ iv, v = .tuple #[pgV Q iv, .int .i64 cd] ∧ ItemsC u iv Q.items) (fun _ _ _ g h => h.elim fun iv h => ⟨iv, h.1, g.itemsC h.2⟩) [(0, true), (4, true)] [(15, 0), (16, 1), (17, 2), (18, 3), (19, 4), (21, 7), (22, 8), (5, 9)] none (by kernel_rfl) (by kernel_rfl) (by kernel_rfl) (by kernel_rfl) rfl rfl ?_ ?_
      · intro xs w hw hp K hK
        simp only [holdsK, lk10, if_neg, reduceIte, Nat.reduceEqDiff, List.nil_append, List.cons_append, List.getD_cons_succ, List.getD_cons_zero, if_true, and_true] at hp
        go_simp
        exact (HIns.out w (HI7.out w hw)).mono fun e w' ⟨iv, h1, h2, h3⟩ => ⟨_, h1, hK _ _ ⟨iv, rfl, h2⟩ (Fill.of_grow h3 hw.below.size)⟩
      -- operation 6
      refine lexkf_says hsz (fun v u => ∃ iv, v = .tuple #[pgV Q iv, .int .i64 cd] ∧ ItemsC u iv Q.items) (fun _ _ _ g h => h.elim fun iv h => ⟨iv, h.1, g.itemsC h.2⟩) [(5, true)] [(15, 0), (16, 1), (17, 2), (18, 3), (19, 4), (20, 5), (5, 9)] none (by kernel_rfl) (by kernel_rfl) (by kernel_rfl) (by kernel_rfl) rfl rfl ?_ ?_
      · intro xs w hw hp K hK
        simp only [holdsK, lk10, if_neg, reduceIte, Nat.reduceEqDiff, List.nil_append, List.cons_append, List.getD_cons_succ, List.getD_cons_zero, if_true, and_true] at hp
        obtain ⟨iv8, h8, hit⟩ := hp
        go_simp
        exact hK _ _ ⟨iv8, rfl, hit⟩ (Fill.refl _)
      -- operation 7
      refine lexkf_says hsz (fun v u => ∃ iv, v = pgV Q iv ∧ ItemsC u iv Q.items) (fun _ _ _ g h => h.elim fun iv h => ⟨iv, h.1, g.itemsC h.2⟩) [(6, true)] [(15, 0), (16, 1), (17, 2), (18, 3), (19, 4), (20, 5), (14, 6), (22, 8), (5, 9)] none (by kernel_rfl) (by kernel_rfl) (by kernel_rfl) (by kernel_rfl) rfl rfl ?_ ?_
      · intro xs w hw hp K hK
        simp only [holdsK, lk10, if_neg, reduceIte, Nat.reduceEqDiff, List.nil_append, List.cons_append, List.getD_cons_succ, List.getD_cons_zero, if_true, and_true] at hp
        obtain ⟨iv8, h8, hit⟩ := hp
        go_simp
        exact hK _ _ ⟨iv8, rfl, hit⟩ (Fill.refl _)
      -- operation 8
      refine lexkf_says hsz (fun v _ => v = .int .i64 cd) (fun _ _ _ _ h => h) [(6, true)] [(15, 0), (16, 1), (17, 2), (18, 3), (19, 4), (20, 5), (14, 6), (21, 7), (5, 9)] none (by kernel_rfl) (by kernel_rfl) (by kernel_rfl) (by kernel_rfl) rfl rfl ?_ ?_
      · intro xs w hw hp K hK
        simp only [holdsK, lk10, if_neg, reduceIte, Nat.reduceEqDiff, List.nil_append, List.cons_append, List.getD_cons_succ, List.getD_cons_zero, if_true, and_true] at hp
        obtain ⟨iv8, h8, hit⟩ := hp
        go_simp
        exact hK _ _ rfl (Fill.refl _)
      -- operation 9
      refine lexkf_says hsz (fun v u => ∃ b, v = .pointer (some ⟨b, 0, none⟩) ∧ wr.heap.size ≤ b ∧ ∃ a0 a1 a2 a3 a4 a5, Blk u b 39 [a0, a1, a2, a3, a4, a5]) (fun _ _ _ g ⟨b, h1, h2, h3⟩ => ⟨b, h1, h2, fill_six g h3⟩) [] [(15, 0), (16, 1), (17, 2), (18, 3), (19, 4), (20, 5), (14, 6), (21, 7), (22, 8)] none (by kernel_rfl) (by kernel_rfl) (by kernel_rfl) (by kernel_rfl) rfl rfl ?_ ?_
      · intro xs w hw hp K hK
        go_simp
        exact hK _ _ ⟨_, rfl, hw.below.size, _, _, _, _, _, _, Blk.new w _ [_, _, _, _, _, _]⟩ (Fill.of_grow ((Grow.refl w).alloc _) hw.below.size)
      -- operation 10
      refine lexkf_link hsz (fun v u => ∃ b, v = .pointer (some ⟨b, 0, none⟩) ∧ wr.heap.size ≤ b ∧ ∃ iv', Blk u b 39 (pgCells Q iv') ∧ ItemsC u iv' Q.items) (fun _ _ _ hg ⟨b, h1, h2, iv', h3, h4⟩ => ⟨b, h1, h2, goodC_lasts hg h3 h4⟩) [(7, true), (9, true)] [(15, 0), (16, 1), (17, 2), (18, 3), (19, 4), (20, 5), (14, 6), (21, 7), (22, 8), (5, 9)] none (by kernel_rfl) (by kernel_rfl) (by kernel_rfl) (by kernel_rfl) rfl (by decide) ?_ ?_
      · intro xs w hw hp K hK
        simp only [holdsK, lk10, if_neg, reduceIte, Nat.reduceEqDiff, List.nil_append, List.cons_append, List.getD_cons_succ, List.getD_cons_zero, if_true, and_true] at hp
        obtain ⟨⟨iv', h17, hit⟩, b, h19, hbN, a0_, a1_, a2_, a3_, a4_, a5_, hB⟩ := hp
        obtain ⟨c0, c1, c2, c3, c4, c5, f0, f1, f2, f3, f4, f5⟩ := pgres hB
        obtain ⟨iva', ivc', rfl⟩ := itemsS_form hit.1
        have Hset := keep (pgset hB (.int .i64 Q.lsn) (.int .i64 Q.kind) (.int .i64 Q.level) (.int .i64 Q.right) (.string (str Q.high)) (.slice iva' Q.items.length ivc'))
        have Hbut := keep (pgbut w b (.int .i64 Q.lsn) (.int .i64 Q.kind) (.int .i64 Q.level) (.int .i64 Q.right) (.string (str Q.high)) (.slice iva' Q.items.length ivc'))
        have Hit2 := keep (itemsC_but hit Hbut.out hB (by decide))
        have HB := keep hB
        unfold pgV at h17
        clear hB hit
        go_simp
        exact hK _ _ ⟨b, h19, hbN, _, Hset.out, Hit2.out⟩ (Fill.but (cs' := pgCells Q (.slice iva' Q.items.length ivc')) Hbut.out hbN hw.below.size HB.out rfl Hset.out ⟨_, rfl, Hit2.out⟩)
      intro xs w hw hp
      have ha0 := HA0.out
      clear HA0 hsz s0 s3 s4
      simp only [holdsK, lk10, if_neg, reduceIte, Nat.reduceEqDiff, List.nil_append, List.cons_append, List.getD_cons_succ, List.getD_cons_zero, if_true, and_true] at hp
      have hM := hp.2.2.2.2.2.2.2.2.1
      obtain ⟨b, h19, hbN, ivQ, hQ, hiQ⟩ := hp.2.2.2.2.2.2.2.2.2.2
      clear hp
      subst ha0
      simp only [putAll, hM, h19]
      have hwU := hw.undrew
      have hB1 := HB0.out.below hwU.below hblt
      have hi1 := hwU.itemsC HI0.out
      have hG1 : Below w1.heap.size w2 w := Below.trans HG.out (hwU.below.mono (by omega))
      obtain ⟨qa, qc, rfl⟩ := itemsS_form hiQ.1
      have HB1 := keep hB1
      have HI1 := keep hi1
      have HG1 := keep hG1
      have HQ := keep hQ
      have HiQ := keep hiQ
      unfold pgCells at hQ hB1
      obtain ⟨p0, p1, p2, p3, p4, p5, q0, q1, q2, q3, q4, q5⟩ := pgres hB1
      obtain ⟨y0, y1, y2, y3, y4, y5, _⟩ := pgres hQ
      have hlw := HB1.out.lt
      clear hw h19 hwU hB1 hi1 hG1 hQ hiQ HC7 HP7 HI7 HIns HB0 HI0
      rcases HOf.out with ⟨hb, hR⟩ | ⟨hb, cc, hcc, hR⟩
      · simp only [Prod.mk.injEq] at hR
        obtain ⟨hQe, rfl⟩ := hR
        have Hset := keep (pgset HB1.out (.int .i64 Q.lsn) (.int .i64 Q.kind) (.int .i64 Q.level) (.int .i64 Q.right) (.string (str Q.high)) (.slice qa Q.items.length qc))
        have Hbut := keep (pgbut w w1.heap.size (.int .i64 Q.lsn) (.int .i64 Q.kind) (.int .i64 Q.level) (.int .i64 Q.right) (.string (str Q.high)) (.slice qa Q.items.length qc))
        have Hit := keep (itemsC_but HiQ.out Hbut.out HB1.out (by decide))
        have HStep2 := keep (show growL (l.take (n + 1)) = insL G (k, p, s) by rw [HStep.out]; unfold stepL; rw [hb]; rfl)
        have HQe := keep hQe
        clear hb hQe
        go_wp2_with fail
        go_roundw
        case rel =>
          refine ⟨n + 1, by omega, by go_num, keep ⟨.slice qa Q.items.length qc, ?_, ?_⟩, keep (But.below HG1.out Hbut.out (Nat.le_refl _) (Nat.le_of_lt hlw))⟩
          · rw [HStep2.out, ← HQe.out]; exact Hset.out
          · rw [HStep2.out, ← HQe.out]; exact Hit.out
        case measure => simp [intOf]; omega
      · simp only [Prod.mk.injEq] at hR
        obtain ⟨_, rfl⟩ := hR
        have hcc2 : (cd == 0) = false := by simp [hcc]
        have HStep2 := keep (show growL (l.take (n + 1)) = G by rw [HStep.out]; unfold stepL; rw [hb]; rfl)
        clear hb hcc
        go_wp2_with fail
        go_roundw
        case rel =>
          refine ⟨n + 1, by omega, by go_num, keep ⟨.slice va (pgOf G).items.length vc, ?_, ?_⟩, HG1⟩
          · rw [HStep2.out]; exact HB1.out
          · rw [HStep2.out]; exact HI1.out
        case measure => simp [intOf]; omega
    · have e : n = l.length := by omega
      subst e
      rw [List.take_length] at hB hi
      have hR := HR2.out.below HG.out hz0
      obtain ⟨va, vc, rfl⟩ := itemsS_form hi.1
      obtain ⟨Q, HQe⟩ : ∃ Q, Q = pgOf (growL l) := ⟨_, rfl⟩
      rw [← HQe] at hB hi
      have HFin := keep (show ∀ (x : Ending) (u : World), x = .returned (pgV Q (.slice va Q.items.length vc)) → ItemsC u (.slice va Q.items.length vc) Q.items → Below w_.heap.size w_ u → ∃ iv, x = .returned (pgV (pgOf (growL l)) iv) ∧ ItemsC u iv (pgOf (growL l)).items ∧ Below w_.heap.size w_ u by
        intro x u h1 h2 h3
        rw [← HQe]
        exact ⟨_, h1, h2, h3⟩)
      clear HQe
      unfold pgCells at hB
      obtain ⟨p0, p1, p2, p3, p4, p5, _⟩ := pgres hB
      obtain ⟨r0, r1, r2, r3, r4, r5, f0, f1, f2, f3, f4, f5⟩ := pgres hR
      have Hset := keep (pgset hR (.int .i64 Q.lsn) (.int .i64 Q.kind) (.int .i64 Q.level) (.int .i64 Q.right) (.string (str Q.high)) (.slice va Q.items.length vc))
      have Hbut := keep (pgbut wr w_.heap.size (.int .i64 Q.lsn) (.int .i64 Q.kind) (.int .i64 Q.level) (.int .i64 Q.right) (.string (str Q.high)) (.slice va Q.items.length vc))
      have Hit := keep (itemsC_but hi Hbut.out hR (by decide))
      have hgw : Below w_.heap.size w_ wr := Below.trans hg2 (HG.out.mono (by omega))
      have Hgw := keep hgw
      have hlw := hR.lt
      clear hB hi hR HB hgw hgood
      go_wp2_with fail
      refine bodyPost_ret (v := pgV Q (.slice va Q.items.length vc)) ?_ rfl (HFin.out _ _ rfl Hit.out (But.below Hgw.out Hbut.out (Nat.le_refl _) (Nat.le_of_lt hlw)))
      obtain ⟨s0, s1, s2, s3, s4, s5, _⟩ := pgres Hset.out
      simp [results, Try.results20, go_sem, s0, s1, s2, s3, s4, s5, pgV]

end Go.Proofs.Ytigbgodbalpgdaa
