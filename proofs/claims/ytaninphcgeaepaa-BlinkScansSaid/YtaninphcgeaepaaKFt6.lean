import Derived.Test.YtaninphcgeaepaaKFt5
import Derived.Test.YtaninphcgeaepaaKBf11
import Derived.Deep.CutRange
namespace Go.Proofs.Ytaninphcgeaepaa
open Go.RowKit
attribute [local go_sem] givesF_none givesF_some evalF_tmp evalF_const evalF_global evalF_func lookL isB_bool isB_undef givesUpon_value givesUpon_skip givesUpon_enter
theorem ImgsC.but {w w' : World} {b t : Nat} {v : Value} {T : List Im} {cs : List Value} (h : ImgsC w v T) (k : But b w w') (hb : Blk w b t cs) (ht : t ≠ 75) (ht2 : t ≠ 9) : ImgsC w' v T := imgsC_but h k hb ht ht2
theorem imgsC_grown {w w' : World} {b e s n : Nat} {v0 v : Value} {xs : List Value} {T : List Im} (h : ImgsC w v T) (hr : w.ownsRow b e s v0 n xs) (hg : w.grownBy w' v0.ownBlock) (ht : e ≠ 75) (ht2 : e ≠ 9) : ImgsC w' v T := by
 rcases but_grown hr hg with hb | ⟨g, cs, k, hB, _⟩
 ·exact h.fits hb
 ·exact h.but k hB ht ht2
theorem blk_grown {w w' : World} {b e s n c t : Nat} {v0 : Value} {xs cs : List Value} (h : Blk w c t cs) (hr : w.ownsRow b e s v0 n xs) (hg : w.grownBy w' v0.ownBlock) (ht : t ≠ e) : Blk w' c t cs := by
 have := h.lt
 have hne := own_ne_blk hr h ht
 unfold Blk at *
 rw [hg.block c this (fun e => hne e.symm)]
 exact h
def DiRel (bs fr rb : Nat) (cs : List Value) (v : Value) (T : List Im) (D : Fr) (w_ : World) (i : Value) (wr : World) : Prop := ∃ k : Nat, k ≤ T.length ∧ i = .int .i64 k ∧ Kept (ForT bs wr fr ((T.take k).foldl putF D)) ∧ Kept (ImgsC wr v T) ∧ Kept (Blk wr rb 50 cs) ∧ Kept (Fel bs w_ wr)
def DiPost (bs fr : Nat) (T : List Im) (D : Fr) (w : World) (x : Ending) (w' : World) : Prop := x = .returned (.bool (decide (1 < T.length))) ∧ ForT bs w' fr (T.foldl putF D) ∧ Fel bs w w'
def InRel (bs fr rb : Nat) (cs : List Value) (v : Value) (T : List Im) (Dk : Fr) (q : Nat) (w_ : World) (w2 : World) : Prop := ∃ D2 : Fr, Kept (D2 = Dk ∨ (q = Dk.length ∧ D2 = Dk ++ [((zeroP, Value.slice none 0 0) : Pg × Value)])) ∧ Kept (ForT bs w2 fr D2) ∧ Kept (ImgsC w2 v T) ∧ Kept (Blk w2 rb 50 cs) ∧ Kept (Fel bs w_ w2)
def roomM (fr q : Nat) (w : World) : Nat := match w.cell? ⟨fr, 0, none⟩ with
 | some (.slice _ n _) => q + 1 - n
 | _ => 0
theorem blk_six_add {w : World} {b t : Nat} {x0 x1 x2 x3 x4 x5 : Value} (h : Blk w b t [x0, x1, x2, x3, x4, x5]) : ∀ j u, [x0, x1, x2, x3, x4, x5][j]? = some u → w.cell? ((⟨b, 0, none⟩ : Addr).add j) = some u := by
 intro j u hj
 obtain ⟨hl, rfl⟩ := List.getElem?_eq_some_iff.1 hj
 have := h.cell j hl
 unfold Addr.add
 split
 ·rename_i h0
  subst h0
  simpa using this
 ·simpa using this
set_option maxRecDepth 100000 in
set_option maxHeartbeats 4000000 in
theorem does_imgs (bs fr : Nat) (D : Fr) (p : Int) (d : List UInt8) (v : Value) (T : List Im) (w_ : World) (h : ForT bs w_ fr D) (hb : bs ≤ w_.heap.size) (hT : ImgsC w_ v T) (hfit : FitT D T) (hf : ∀ x ∈ T, PgFine x.2.1) (hn : ∀ k, ((T.take k).foldl putF D).length ≤ 70000) (hTl : T.length ≤ 1000) :
  Calls Try.prog 14 #[.pointer (some ⟨fr, 0, none⟩), recG 5 p (str d) v] w_ (DiPost bs fr T D w_) := by
 obtain ⟨iP, hiP, hzP0, hzP1, hzP2⟩ := info_parts infoPageF
 obtain ⟨ia, ic, rfl⟩ := imgs_form hT.weak
 generalize hv : Value.slice ia T.length ic = v at *
 obtain ⟨w0, hw0⟩ : ∃ w0, w0 = w_.alloc (.cells (recGC 5 p (str d) v).toArray 50) := ⟨_, rfl⟩
 have hg0 : Grow w_ w0 := by subst hw0; exact (Grow.refl w_).alloc _
 have hC0 : Blk w0 w_.heap.size 50 (recGC 5 p (str d) v) := by subst hw0; exact Blk.new w_ _ _
 have HT0 := keep (h.fits hg0)
 have HC0 := keep hC0
 have HI0 := keep (hT.fits hg0)
 have HG0 := keep hg0
 have HB := keep hb
 have HPf := keep hf
 have HFit := keep (fun k (hk : k < T.length) => fitT_at hfit hk)
 have HN := keep hn
 have HTl := keep hTl
 subst hv
 clear h hg0 hb hT hfit hf hn hTl
 unfold recGC at hw0
 unfold recG
 go_enter Try.func14, Try.ntmps14
 go_upto_region 1 with fail
 rw [← hw0]
 clear hw0 hC0
 go_wp2_with fail
 go_loopw [5] (fun i wr => DiRel bs fr w_.heap.size (recGC 5 p (str d) (.slice ia T.length ic)) (.slice ia T.length ic) T D w_ i wr) (fun i _ => T.length - (intOf i).toNat)
 case atStart => exact show DiRel _ _ _ _ _ _ _ _ _ _ from ⟨0, Nat.zero_le _, rfl, HT0, HI0, HC0, keep (Fel.of_grow HB.out HG0.out)⟩
 case round =>
  obtain ⟨k, hkl, rfl, HF, HI, HC, HBe⟩ := hrel
  have hC := HC.out
  unfold recGC at hC
  obtain ⟨⟨r0, r1, r2, r3, r4, r5, r6, r7, r8, r9, r10, r11, r12, r13, r14, r15⟩, _⟩ := recres hC
  clear hC
  by_cases hlt : k < T.length
  ·obtain ⟨hq1, hq2⟩ := HFit.out k hlt
   have hstep := fold_step D T k hlt
   have hD9 := HN.out k
   have him := im_at HI.out.weak hlt
   have hit := (HI.out.2 T[k] (List.getElem_mem hlt)).1
   have hpf := HPf.out T[k] (List.getElem_mem hlt)
   have HStep := keep hstep
   clear hstep
   generalize hDk : (T.take k).foldl putF D = Dk at *
   clear hDk
   obtain ⟨v0, hfb, hown⟩ := HF.out.tab
   obtain ⟨va, vc, rfl⟩ := own_form hown
   have f0 := hfb.cell 0 (by simp)
   simp only [List.getElem_cons_zero] at f0
   obtain ⟨cI, offI, capI, eI, himc⟩ := him
   simp only [Value.slice.injEq] at eI
   obtain ⟨rfl, -, rfl⟩ := eI
   obtain ⟨m0, m1, m2, m3, m4, m5, m6⟩ := himc wr (Grow.refl _)
   have HM := keep himc
   have HHit := keep hit
   have HHpf := keep hpf
   clear himc hit hpf
   generalize hxe : T[k] = x at *
   obtain ⟨n, P, iv⟩ := x
   dsimp only at hq1 hq2 m0 m1 m2 m3 m4 m5 m6
   obtain ⟨q, rfl⟩ := Int.eq_ofNat_of_zero_le (show 0 ≤ n by omega)
   have eA : decide ((q : Int) < 1) = false := decide_eq_false (by omega)
   have eW : IntKind.i64.wrap ((Dk.length : Int) + 4) = (Dk.length : Int) + 4 := by rw [IntKind.wrap_i64]; omega
   have eB : decide ((Dk.length : Int) + 4 < q) = false := decide_eq_false (by omega)
   go_wp2_with fail
   have HXe := keep hxe
   clear hxe
   have HQ := keep (And.intro hq1 hq2)
   have HD9 := keep hD9
   have hwr9 : Kept (Fel bs w_ wr) := HBe
   clear m0 m1 m2 m3 m4 m5 m6 r0 r1 r2 r3 r4 r5 r6 r7 r8 r9 r10 r11 r12 r13 r14 r15 hfb hown f0 HM HBe eA eB eW hq1 hq2 hD9
   generalize wr = wo at *
   go_loopw [] (fun w2 => InRel bs fr w_.heap.size (recGC 5 p (str d) (.slice (some ⟨cI, offI, none⟩) T.length ic)) (.slice (some ⟨cI, offI, none⟩) T.length ic) T Dk q w_ w2) (fun w2 => roomM fr q w2)
   case atStart => exact show InRel _ _ _ _ _ _ _ _ _ _ from ⟨Dk, keep (.inl rfl), HF, HI, HC, hwr9⟩
   case round =>
    obtain ⟨D2, HD2, HF2, HI2, HC2, HB2⟩ := hrel
    obtain ⟨v2, hfb2, hown2⟩ := HF2.out.tab
    obtain ⟨va2, vc2, rfl⟩ := own_form hown2
    have f0 := hfb2.cell 0 (by simp)
    simp only [List.getElem_cons_zero] at f0
    by_cases hlen : D2.length ≤ q
    ·have eC : decide (D2.length ≤ q) = true := decide_eq_true hlen
     have hDD : q = Dk.length ∧ D2 = Dk := by
      have := HQ.out.2
      rcases HD2.out with h | ⟨h1, h2⟩
      ·subst h; exact ⟨by omega, rfl⟩
      ·rw [h2] at hlen; simp at hlen; omega
     obtain ⟨hqe, rfl⟩ := hDD
     have hD9 := HD9.out
     have hbs := HB2.out.low.size
     have HF0 := keep f0
     have HFb2 := keep hfb2
     have HOw2 := keep hown2
     have hal := (Grow.refl wr).alloc (.cells #[.int .i64 0, .int .i64 0, .int .i64 0, .int .i64 0, .string ⟨#[]⟩, .slice none 0 0] 27)
     have HAl := keep hal
     have hbz := HB.out
     go_upto_region 8 with fail
     go_wp2_with (at_builtin; go_must (refine wpList_append_own_wide _ rfl _ _ 29 rfl bs 27 iP (.agg #[.int .i64 0, .int .i64 0, .int .i64 0, .int .i64 0, .string ⟨#[]⟩, .slice none 0 0]) 6 72 Try.underlying29 hiP hzP0 hzP1 hzP2 rfl (by decide) _ D2.length (frS D2) rfl (owns_fits HOw2.out HAl.out) ⟨wr.heap.size, 0, none⟩ 1 1 [.int .i64 0, .int .i64 0, .int .i64 0, .int .i64 0, .string ⟨#[]⟩, .slice none 0 0] rfl rfl (blk_six_add (Blk.new wr _ [_, _, _, _, _, _])) (by intro u hu; simp at hu; rcases hu with rfl | rfl | rfl <;> rfl) (by unfold maxLen; omega) (by omega) (by simp; omega) ?_); intro v' wa hownA hgrowA _; obtain ⟨aA, cA, rfl⟩ := own_form hownA; have HOA := keep hownA; have HGA := keep hgrowA; have HvA := keep (blk_grown (HFb2.out.fits HAl.out) (owns_fits HOw2.out HAl.out) hgrowA (by decide)); have fA := HvA.out.cell 0 (by simp); have zA := HvA.out.free 0; clear f0 hfb2 hown2 hownA hgrowA)
     have hpush := ForT.push (HF2.out.fits HAl.out) (HFb2.out.fits HAl.out) (owns_fits HOw2.out HAl.out) HOA.out HGA.out
     have hbel := HB2.out
     go_roundw
     case rel => exact show InRel _ _ _ _ _ _ _ _ _ _ from ⟨_, keep (.inr ⟨rfl, rfl⟩), keep hpush.1, keep ((imgsC_grown (HI2.out.fits HAl.out) (owns_fits HOw2.out HAl.out) HGA.out (by decide) (by decide)).but ((But.refl fr wa).setCell 0 _) HvA.out (by decide) (by decide)), keep ((blk_grown (HC2.out.fits HAl.out) (owns_fits HOw2.out HAl.out) HGA.out (by decide)).but ((But.refl fr wa).setCell 0 _) (fun e => by have h1 := HC2.out; have h2 := HFb2.out; rw [e] at h1; unfold Blk at h1 h2; rw [h1] at h2; cases h2)), keep ((hbel.trans (Fel.of_grow (Nat.le_trans HB.out hbs) HAl.out)).trans (hpush.2 (by simp; omega)))⟩
     case measure =>
      have h1 := HvA.out.set 0 (.slice aA (D2.length + 1) cA)
      have h2 := h1.cell 0 (by simp)
      simp only [List.set_cons_zero, List.getElem_cons_zero] at h2
      have h3 := HF0.out
      unfold roomM
      rw [h2, h3]
      dsimp only
      omega
    ·have eC : decide (D2.length ≤ q) = false := decide_eq_false hlen
     have hq2 : q < D2.length := by omega
     have hput : putF Dk ((q : Int), P, iv) = D2.set q (P, iv) := by
      rcases HD2.out with h | ⟨h1, h2⟩
      ·subst h
       unfold putF
       rw [if_pos (by simpa using hq2)]
       rfl
      ·rw [putF_push (by simp [h1]) (by simp [h1]), ← h2]
       rfl
     have HPut := keep hput
     have him := im_at HI2.out.weak hlt
     have hit := (HI2.out.2 T[k] (List.getElem_mem hlt)).1
     rw [HXe.out] at him hit
     dsimp only at him hit
     obtain ⟨cI2, offI2, capI2, eI2, himc⟩ := him
     simp only [Value.slice.injEq, Option.some.injEq, Addr.mk.injEq, true_and, and_true] at eI2
     obtain ⟨⟨rfl, rfl⟩, rfl⟩ := eI2
     obtain ⟨pa, pc, rfl⟩ := itemsS_form hit.1
     obtain ⟨g, cap, e5, -, hbg, -, -⟩ := for_at hown2 hq2
     simp only [Value.slice.injEq] at e5
     obtain ⟨rfl, -, rfl⟩ := e5
     have HBg := keep hbg
     have HHit2 := keep hit
     have HFb2 := keep hfb2
     have HOw2 := keep hown2
     have HX := keep (fun (u : World) (hu : Grow wr u) => (show u.cell? ⟨fr, 0, none⟩ = some (.slice (some ⟨g, 0, none⟩) D2.length vc2) ∧ u.cell? ⟨w_.heap.size, 13, none⟩ = some (.slice (some ⟨cI, offI, none⟩) T.length ic) ∧ u.cell? ⟨cI, offI + k * 7 + 1, none⟩ = some (.int .i64 P.lsn) ∧ u.cell? ⟨cI, offI + k * 7 + 1 + 1, none⟩ = some (.int .i64 P.kind) ∧ u.cell? ⟨cI, offI + k * 7 + 1 + 2, none⟩ = some (.int .i64 P.level) ∧
       u.cell? ⟨cI, offI + k * 7 + 1 + 3, none⟩ = some (.int .i64 P.right) ∧ u.cell? ⟨cI, offI + k * 7 + 1 + 4, none⟩ = some (.string (str P.high)) ∧ u.cell? ⟨cI, offI + k * 7 + 1 + 5, none⟩ = some (.slice pa P.items.length pc) from ⟨(HFb2.out.fits hu).cell 0 (by simp), (HC2.out.fits hu).cell 13 (by simp [recGC]), (himc u hu).2⟩))
     clear himc hit hbg hfb2 hown2 hput
     go_upto_region 9 with fail
     clear f0
     refine wp_region_grow_named (by kernel_rfl) 12 (by kernel_rfl) [(51, 0), (52, 1), (53, 2), (54, 3), (55, 4), (56, 5), (57, 6), (58, 7), (59, 8), (60, 9), (61, 10), (62, 11)] (by kernel_rfl) [(0, true), (1, true), (2, true), (3, true), (4, true), (5, true), (6, true), (7, true), (8, true), (9, true), (10, true), (11, true)] (by kernel_rfl) rfl rfl ?_
     intro a0 ha0
     have hsz : a0.tmps.size = 114 := (size_at ha0).trans rfl
     have s0 := slot_at ha0 0 rfl
     have s3 := slot_at ha0 3 rfl
     have s5 := slot_at ha0 5 rfl
     have s6 := slot_at ha0 6 rfl
     have HA0 := keep ha0
     clear ha0
     apply lq hsz [] [(53, 2), (54, 3), (55, 4), (56, 5), (57, 6), (58, 7), (59, 8), (60, 9), (61, 10)] none (by kernel_rfl) rfl
     ·intro xs w hw hp K hK
      go_simp
      exact hK _ (Grow.refl _)
     apply lq hsz [(0, true)] [(51, 0), (54, 3), (55, 4), (56, 5), (57, 6), (58, 7), (59, 8), (60, 9), (61, 10)] none (by kernel_rfl) rfl
     ·intro xs w hw hp K hK
      simp only [holdsL, List.nil_append, List.getD_cons_zero, if_true, and_true] at hp
      go_simp
      exact hK _ (Grow.refl _)
     apply lq hsz [(1, true)] [(51, 0), (52, 1), (55, 4), (56, 5), (57, 6), (58, 7), (59, 8), (60, 9), (61, 10)] none (by kernel_rfl) rfl
     ·intro xs w hw hp K hK
      simp only [holdsL, List.nil_append, List.cons_append, List.getD_cons_succ, List.getD_cons_zero, if_true, and_true] at hp
      go_simp
      exact hK _ (Grow.refl _)
     apply lq hsz [(2, true)] [(51, 0), (52, 1), (53, 2), (55, 4), (56, 5), (57, 6), (58, 7), (59, 8), (60, 9), (61, 10)] none (by kernel_rfl) rfl
     ·intro xs w hw hp K hK
      simp only [holdsL, List.nil_append, List.cons_append, List.getD_cons_succ, List.getD_cons_zero, if_true, and_true] at hp
      obtain ⟨f0, -⟩ := HX.out w (Grow.undrew hw)
      go_simp
      exact hK _ (Grow.refl _)
     apply lq hsz [] [(51, 0), (52, 1), (53, 2), (54, 3), (56, 5), (57, 6), (58, 7), (59, 8), (60, 9), (61, 10)] none (by kernel_rfl) rfl
     ·intro xs w hw hp K hK
      go_simp
      exact hK _ (Grow.refl _)
     apply lq hsz [] [(51, 0), (52, 1), (53, 2), (54, 3), (55, 4), (58, 7), (59, 8), (60, 9), (61, 10)] none (by kernel_rfl) rfl
     ·intro xs w hw hp K hK
      go_simp
      exact hK _ (Grow.refl _)
     apply lq hsz [(5, true)] [(51, 0), (52, 1), (53, 2), (54, 3), (55, 4), (56, 5), (58, 7), (60, 9), (61, 10)] none (by kernel_rfl) rfl
     ·intro xs w hw hp K hK
      simp only [holdsL, List.nil_append, List.cons_append, List.getD_cons_succ, List.getD_cons_zero, if_true, and_true] at hp
      obtain ⟨-, r13, -⟩ := HX.out w (Grow.undrew hw)
      go_simp
      exact hK _ (Grow.refl _)
     apply lq hsz [] [(51, 0), (52, 1), (53, 2), (54, 3), (55, 4), (56, 5), (57, 6), (60, 9), (61, 10)] none (by kernel_rfl) rfl
     ·intro xs w hw hp K hK
      go_simp
      exact hK _ (Grow.refl _)
     apply lq hsz [(6, true), (7, true)] [(51, 0), (52, 1), (53, 2), (54, 3), (55, 4), (56, 5), (57, 6), (58, 7), (61, 10)] none (by kernel_rfl) rfl
     ·intro xs w hw hp K hK
      simp only [holdsL, List.nil_append, List.cons_append, List.getD_cons_succ, List.getD_cons_zero, if_true, and_true] at hp
      go_simp
      exact hK _ (Grow.refl _)
     apply lq hsz [(8, true)] [(51, 0), (52, 1), (53, 2), (54, 3), (55, 4), (56, 5), (57, 6), (58, 7), (59, 8)] none (by kernel_rfl) rfl
     ·intro xs w hw hp K hK
      simp only [holdsL, List.nil_append, List.cons_append, List.getD_cons_succ, List.getD_cons_zero, if_true, and_true] at hp
      go_simp
      exact hK _ (Grow.refl _)
     apply lq hsz [(9, true)] [(51, 0), (52, 1), (53, 2), (54, 3), (55, 4), (56, 5), (57, 6), (58, 7), (59, 8), (60, 9)] none (by kernel_rfl) rfl
     ·intro xs w hw hp K hK
      simp only [holdsL, List.nil_append, List.cons_append, List.getD_cons_succ, List.getD_cons_zero, if_true, and_true] at hp
      obtain ⟨-, -, m1, m2, m3, m4, m5, m6⟩ := HX.out w (Grow.undrew hw)
      go_simp
      exact hK _ (Grow.refl _)
     apply lq hsz [(3, true), (4, true)] [(51, 0), (52, 1), (53, 2), (54, 3), (55, 4), (56, 5), (57, 6), (58, 7), (59, 8), (60, 9), (61, 10)] none (by kernel_rfl) rfl
     ·intro xs w hw hp K hK
      simp only [holdsL, List.nil_append, List.cons_append, List.getD_cons_succ, List.getD_cons_zero, if_true, and_true] at hp
      go_simp
      exact hK _ (Grow.refl _)
     intro xs w hw hp
     have ha0 := HA0.out
     clear HA0 hsz s0 s3 s5 s6
     simp only [holdsL, List.nil_append, List.cons_append, List.getD_cons_succ, List.getD_cons_zero, if_true, and_true] at hp
     have h61 := hp.2.2.2.2.2.2.2.2.2.2.1
     have h62 := hp.2.2.2.2.2.2.2.2.2.2.2
     clear hp
     subst ha0
     simp only [putAll, h61, h62]
     have hgw := hw.undrew
     obtain ⟨g', cap', e5, -, -, ⟨c0, c1, c2, c3, c4, c5⟩, hfz⟩ := for_at (owns_fits HOw2.out hgw) hq2
     simp only [Value.slice.injEq, Option.some.injEq, Addr.mk.injEq, true_and, and_true] at e5
     obtain ⟨rfl, rfl⟩ := e5
     have HGw := keep hgw
     have z0 := hfz (q * 6)
     have z1 := hfz (q * 6 + 1)
     have z2 := hfz (q * 6 + 2)
     have z3 := hfz (q * 6 + 3)
     have z4 := hfz (q * 6 + 4)
     have z5 := hfz (q * 6 + 5)
     clear hw h61 h62 hgw hfz
     go_frame
     go_wp2_with fail
     obtain ⟨cs9, hB9⟩ := own_page_blk (owns_fits HOw2.out HGw.out)
     have k6 := ((((((But.refl g w).setCell (q * 6) (.int .i64 P.lsn)).setCell (q * 6 + 1) (.int .i64 P.kind)).setCell (q * 6 + 2) (.int .i64 P.level)).setCell (q * 6 + 3) (.int .i64 P.right)).setCell (q * 6 + 4) (.string (str P.high))).setCell (q * 6 + 5) (.slice pa P.items.length pc)
     have hF9 := ForT.set (HF2.out.fits HGw.out) (HFb2.out.fits HGw.out) hq2 (HHit2.out.fits HGw.out) HHpf.out
     rw [← HPut.out, ← HStep.out] at hF9
     have hbw : Fel bs w_ w := HB2.out.trans (Fel.of_grow (Nat.le_trans HB.out HB2.out.low.size) HGw.out)
     have hI9 := (HI2.out.fits HGw.out).but k6 hB9 (by decide) (by decide)
     have hC9 := (HC2.out.fits HGw.out).but k6 (fun e => by have h1 := HC2.out.fits HGw.out; rw [e] at h1; unfold Blk at h1 hB9; rw [h1] at hB9; cases hB9)
     have hTl := HTl.out
     have hw64 : wrap64 ((k : Int) + 1) = ((k + 1 : Nat) : Int) := by unfold wrap64; omega
     rw [hw64]
     go_roundw
     case rel => exact show DiRel _ _ _ _ _ _ _ _ _ _ from ⟨k + 1, hlt, rfl, keep hF9, keep hI9, keep hC9, keep (hbw.trans (Fel.but k6 hB9 (.inr rfl) HBg.out (Nat.le_trans HB.out hbw.low.size)))⟩
     case measure => simp [intOf]; omega
  ·have e : k = T.length := by omega
   subst e
   have hfin := HF.out
   rw [List.take_length] at hfin
   have HFin := keep hfin
   clear hfin
   go_wp2_with fail
   go_ret
   exact ⟨by simp; omega, HFin.out, HBe.out⟩
end Go.Proofs.Ytaninphcgeaepaa
