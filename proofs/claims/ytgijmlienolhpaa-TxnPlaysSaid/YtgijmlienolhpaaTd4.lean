
/- The document's table: Logged. -/
import Derived.Test.YtgijmlienolhpaaTd3
import Derived.Deep.CutRange
namespace Go.Proofs.Ytgijmlienolhpaa
open Go.RowKit Go.Maps

theorem dr_six {w : World} {n g cap : Nat} {D : Dr} (h : w.ownsRow 0 78 7 (.slice (some ⟨g, 0, none⟩) n cap) n (drS D)) (k : Nat) (hk : k < D.length) (who : Int) (t : Tn) (av : Value) (hw : D[k].1.1 = who) :
    ((((((w.setCell ⟨g, k * 7 + 1, none⟩ (.int .i64 t.next)).setCell ⟨g, k * 7 + 1 + 1, none⟩ av).setCell ⟨g, k * 7 + 1 + 2, none⟩ (.int .i64 t.xid)).setCell ⟨g, k * 7 + 1 + 3, none⟩ (.int .i64 t.first)).setCell ⟨g, k * 7 + 1 + 4, none⟩ (.int .i64 t.last)).setCell ⟨g, k * 7 + 1 + 5, none⟩ (.int .i64 t.undoes)).ownsRow 0 78 7 (.slice (some ⟨g, 0, none⟩) n cap) n (drS (D.set k ((who, t), av))) := by
  have h1 := dr_set h k hk 1 (by decide) ((who, { D[k].1.2 with next := t.next }), D[k].2) (.int .i64 t.next) (by unfold drC; rw [hw]; rfl)
  have h2 := dr_set h1 k (by simpa using hk) 2 (by decide) ((who, { D[k].1.2 with next := t.next }), av) av (by simp [drC])
  have h3 := dr_set h2 k (by simpa using hk) 3 (by decide) ((who, { D[k].1.2 with next := t.next, xid := t.xid }), av) (.int .i64 t.xid) (by simp [drC])
  have h4 := dr_set h3 k (by simpa using hk) 4 (by decide) ((who, { D[k].1.2 with next := t.next, xid := t.xid, first := t.first }), av) (.int .i64 t.first) (by simp [drC])
  have h5 := dr_set h4 k (by simpa using hk) 5 (by decide) ((who, { D[k].1.2 with next := t.next, xid := t.xid, first := t.first, last := t.last }), av) (.int .i64 t.last) (by simp [drC])
  have h6 := dr_set h5 k (by simpa using hk) 6 (by decide) ((who, t), av) (.int .i64 t.undoes) (by simp [drC])
  simp only [List.set_set] at h6
  exact h6
theorem but6o (w : World) (g k : Nat) (v0 v1 v2 v3 v4 v5 : Value) :
    But g w ((((((w.setCell ⟨g, k * 7 + 1, none⟩ v0).setCell ⟨g, k * 7 + 1 + 1, none⟩ v1).setCell ⟨g, k * 7 + 1 + 2, none⟩ v2).setCell ⟨g, k * 7 + 1 + 3, none⟩ v3).setCell ⟨g, k * 7 + 1 + 4, none⟩ v4).setCell ⟨g, k * 7 + 1 + 5, none⟩ v5) :=
  ((((((But.refl g w).setCell _ v0).setCell _ v1).setCell _ v2).setCell _ v3).setCell _ v4).setCell _ v5

set_option maxRecDepth 100000 in
set_option maxHeartbeats 4000000 in
theorem doc_logged (O : Nat → Prop) (tr : Nat) (D : Dr) (who lsn : Int) (un : Bool) (w_ : World) (h : DocT w_ O tr D) (K : Nat) (hK : K ≤ 4398046511104) (hF : Fit K (stD D)) (hn : D.length ≤ 4398046511104) :
    Calls Try.prog 20 #[.pointer (some ⟨tr, 0, none⟩), .int .i64 who, .int .i64 lsn, .bool un] w_ (DocCode O tr (loggedT who lsn un (stD D)) w_) := by
  have hup := hF.up
  obtain ⟨v, hb, ho, hg⟩ := h.tab
  have hat := at_any D tr v who w_ hb ho hn
  unfold AtPost at hat
  obtain ⟨hsp1, -, -, hsp4⟩ := atS_spec (who := who) hup
  have hfd := fun t => find_dr (who := who) hup (t := t)
  have hpos := fun t (hf : findT who (stD D) = some t) => hF.pos _ (findT_mem hf)
  have HFd := keep hfd
  have HPos := keep hpos
  rw [hsp1] at hat
  have HAt := keep hat
  have HB := keep hb
  have HO := keep ho
  have H0 := keep h
  have HSp4 := keep hsp4
  clear h hup hat hsp1 hsp4 hfd hb ho hpos hF
  unfold loggedT
  cases hf : findT who (stD D) with
  | none =>
    rw [hf] at HAt
    generalize (atS who (stD D)).1 = i at *
    clear hf HFd HSp4 HPos
    dsimp only
    go_enter Try.func20, Try.ntmps20
    go_wp2_with (go_at_call 35; refine HAt.out.mono ?_; rintro e w2 ⟨rfl, hb2⟩; have HG2 := keep hb2; clear hb2)
    go_ret
    exact ⟨rfl, ⟨D, H0.out.fits HG2.out, rfl⟩, Out.of_below HG2.out⟩
  | some t =>
    rw [hf] at HAt
    obtain ⟨hk, he⟩ := HFd.out t hf
    have hset := (HSp4.out (by rw [hf]; rfl)).2
    have hpos := HPos.out t hf
    generalize (atS who (stD D)).1 = i at *
    clear hf HFd HSp4 HPos
    dsimp only at hpos ⊢
    have hwr := wrap_inc (n := t.undoes) hpos.2.2.2.2.1 (by omega)
    obtain ⟨g, cap, rfl, -, -, -⟩ := dr_at HO.out hk
    have HCs := keep (fun (u : World) (hu : Grow w_ u) => (dr_at (own_keeps HO.out fun q _ hl => hu.block q hl) hk))
    have HGO := keep (hg g rfl)
    have hrow := (H0.out.rows _ (List.getElem_mem hk)).1.weak
    obtain ⟨ra, rc, hrv⟩ := row_sl hrow
    rw [he] at hrv
    have HEq := keep he
    have HEv := keep hrv
    have HSet := keep hset
    obtain ⟨R, hR⟩ : ∃ R, R = (if t.xid = 0 ∨ lsn ≤ t.last then (stD D, (1 : Int)) else (setT who (logT t lsn un) (stD D), 0)) := ⟨_, rfl⟩
    rw [← hR]
    have HR := keep hR
    clear hg he hset hrow hrv hR hpos
    have hcase : (t.xid = 0 ∨ lsn ≤ t.last) ∨ (t.xid ≠ 0 ∧ ¬ lsn ≤ t.last) := by
      rcases Decidable.em (t.xid = 0) with h | h
      · exact .inl (.inl h)
      · rcases Decidable.em (lsn ≤ t.last) with h2 | h2
        · exact .inl (.inr h2)
        · exact .inr ⟨h, h2⟩
    have hbo := hcase
    go_enter Try.func20, Try.ntmps20
    go_upto_region 2 with (go_at_call 35; refine HAt.out.mono ?_; rintro e w2 ⟨rfl, hb2⟩; have HG2 := keep hb2; clear hb2)
    obtain ⟨g', cap', e, -, ⟨-, d1, d2, d3, d4, d5, d6⟩, -⟩ := HCs.out w2 HG2.out
    rw [HEq.out] at d1 d3 d4 d5 d6
    rw [HEv.out] at d2
    simp only [Value.slice.injEq, Option.some.injEq, Addr.mk.injEq] at e
    obtain ⟨⟨rfl, -, -⟩, -, rfl⟩ := e
    have c0 := (HB.out.fits HG2.out).cell 0 (by simp)
    simp only [List.getElem_cons_zero] at c0
    dsimp only at d1 d3 d4 d5 d6
    go_upto_region 5 with fail
    obtain ⟨w3, hw3⟩ : ∃ w3, w3 = w2.alloc (.cells #[.int .i64 t.next, .slice ra t.act.length rc, .int .i64 t.xid, .int .i64 t.first, .int .i64 t.last, .int .i64 t.undoes] 32) := ⟨_, rfl⟩
    have hg3 : Grow w2 w3 := by subst hw3; exact (Grow.refl w2).alloc _
    have hx3 : Blk w3 w2.heap.size 32 [.int .i64 t.next, .slice ra t.act.length rc, .int .i64 t.xid, .int .i64 t.first, .int .i64 t.last, .int .i64 t.undoes] := by subst hw3; exact Blk.new w2 _ [_, _, _, _, _, _]
    rw [← hw3]
    have hz3 : w_.heap.size ≤ w2.heap.size := HG2.out.size
    have HG3 := keep (Grow.trans HG2.out hg3)
    have HX3 := keep hx3
    obtain ⟨x0, x1, x2, x3, x4, x5, f0, f1, f2, f3, f4, f5⟩ := six_of hx3
    clear hw3 hg3 hx3 d1 d2 d3 d4 d5 d6 c0 hcase
    rcases hbo with hno | ⟨hy1, hy2⟩
    · have hfin : R = (stD D, 1) := by rw [HR.out, if_pos hno]
      subst hfin
      have hd : (t.xid == 0 || decide (lsn ≤ t.last)) = true := by simpa using hno
      cases hx : (t.xid == 0) with
      | true =>
        clear hno hd
        go_wp2_with fail
        go_ret
        exact ⟨rfl, ⟨D, H0.out.fits HG3.out, rfl⟩, Out.of_below HG3.out⟩
      | false =>
        have hl : decide (lsn ≤ t.last) = true := by simpa [hx] using hd
        clear hno hd
        go_wp2_with fail
        go_ret
        exact ⟨rfl, ⟨D, H0.out.fits HG3.out, rfl⟩, Out.of_below HG3.out⟩
    · have hfin : R = (setT who (logT t lsn un) (stD D), 0) := by rw [HR.out, if_neg (fun h => h.elim hy1 (fun h => by omega))]
      subst hfin
      have hx : (t.xid == 0) = false := by simp [hy1]
      have hl : decide (lsn ≤ t.last) = false := decide_eq_false (by omega)
      clear hy1 hy2
      obtain ⟨bx, hbx⟩ : ∃ bx, bx = w2.heap.size := ⟨_, rfl⟩
      rw [← hbx] at hz3 HX3 x0 x1 x2 x3 x4 x5 f0 f1 f2 f3 f4 f5 ⊢
      clear hbx
      cases hfi : (t.first == 0) with
      | true =>
        cases un with
        | true =>
          go_upto_region 12 with fail
          obtain ⟨w4, hw4⟩ : ∃ w4, w4 = (((w3.setCell ⟨bx, 3, none⟩ (.int .i64 lsn)).setCell ⟨bx, 4, none⟩ (.int .i64 lsn)).setCell ⟨bx, 5, none⟩ (.int .i64 (t.undoes + 1))) := ⟨_, rfl⟩
          have hx4 : Blk w4 bx 32 [.int .i64 t.next, .slice ra t.act.length rc, .int .i64 t.xid, .int .i64 lsn, .int .i64 lsn, .int .i64 (t.undoes + 1)] := by subst hw4; exact (((HX3.out.set 3 (.int .i64 lsn)).set 4 (.int .i64 lsn)).set 5 (.int .i64 (t.undoes + 1)))
          have hg4 : Grow w_ w4 := by subst hw4; exact But.below HG3.out ((((But.refl bx w3).setCell 3 (.int .i64 lsn)).setCell 4 (.int .i64 lsn)).setCell 5 (.int .i64 (t.undoes + 1))) hz3 HG3.out.size
          rw [← hw4]
          clear hw4 x0 x1 x2 x3 x4 x5 f0 f1 f2 f3 f4 f5
          obtain ⟨x0, x1, x2, x3, x4, x5, f0, f1, f2, f3, f4, f5⟩ := six_of hx4
          have HG4 := keep hg4
          obtain ⟨g', cap', e, -, ⟨d0, d1, d2, d3, d4, d5, d6⟩, hfr⟩ := HCs.out w4 HG4.out
          rw [HEq.out] at d0 d1 d3 d4 d5 d6
          rw [HEv.out] at d2
          simp only [Value.slice.injEq, Option.some.injEq, Addr.mk.injEq] at e
          obtain ⟨⟨rfl, -, -⟩, -, rfl⟩ := e
          have c0 := (HB.out.fits HG4.out).cell 0 (by simp)
          simp only [List.getElem_cons_zero] at c0
          dsimp only at d0 d1 d3 d4 d5 d6
          have e1 := hfr (i * 7 + 1)
          have e2 := hfr (i * 7 + 2)
          have e3 := hfr (i * 7 + 3)
          have e4 := hfr (i * 7 + 4)
          have e5 := hfr (i * 7 + 5)
          have e6 := hfr (i * 7 + 6)
          clear hfr hx4 hg4
          go_region
          all_goals go_wp2_with fail
          all_goals go_ret
          all_goals
            have hT : logT t lsn true = ⟨t.next, t.act, t.xid, lsn, lsn, (t.undoes + 1)⟩ := by
              unfold logT
              rw [if_pos (by simpa using hfi)]
              rfl
            have hoo := own_keeps HO.out fun q _ hl => HG4.out.block q hl
            have hbut := but6o w4 g i (.int .i64 t.next) (.slice ra t.act.length rc) (.int .i64 t.xid) (.int .i64 lsn) (.int .i64 lsn) (.int .i64 (t.undoes + 1))
            have hds := dr_six hoo i hk who ⟨t.next, t.act, t.xid, lsn, lsn, (t.undoes + 1)⟩ (.slice ra t.act.length rc) (by rw [HEq.out])
            dsimp only at hds
            rw [hT]
            generalize ((((((w4.setCell ⟨g, i * 7 + 1, none⟩ (.int .i64 t.next)).setCell ⟨g, i * 7 + 1 + 1, none⟩ (.slice ra t.act.length rc)).setCell ⟨g, i * 7 + 1 + 2, none⟩ (.int .i64 t.xid)).setCell ⟨g, i * 7 + 1 + 3, none⟩ (.int .i64 lsn)).setCell ⟨g, i * 7 + 1 + 4, none⟩ (.int .i64 lsn)).setCell ⟨g, i * 7 + 1 + 5, none⟩ (.int .i64 (t.undoes + 1))) = w5 at *
            refine ⟨rfl, ⟨D.set i ((who, ⟨t.next, t.act, t.xid, lsn, lsn, (t.undoes + 1)⟩), .slice ra t.act.length rc), ?_, by rw [stD_set, HSet.out]⟩, (Out.of_below HG4.out).trans (Out.of_but hbut.drew HGO.out)⟩
            exact DocT.set (H0.out.fits HG4.out) hk (HB.out.fits HG4.out) HGO.out hoo HEv.out.symm (by rw [HEq.out]) (show w5.drew.ownsRow _ _ _ _ _ _ from hds) hbut.drew
        | false =>
          go_upto_region 12 with fail
          obtain ⟨w4, hw4⟩ : ∃ w4, w4 = ((w3.setCell ⟨bx, 3, none⟩ (.int .i64 lsn)).setCell ⟨bx, 4, none⟩ (.int .i64 lsn)) := ⟨_, rfl⟩
          have hx4 : Blk w4 bx 32 [.int .i64 t.next, .slice ra t.act.length rc, .int .i64 t.xid, .int .i64 lsn, .int .i64 lsn, .int .i64 t.undoes] := by subst hw4; exact ((HX3.out.set 3 (.int .i64 lsn)).set 4 (.int .i64 lsn))
          have hg4 : Grow w_ w4 := by subst hw4; exact But.below HG3.out (((But.refl bx w3).setCell 3 (.int .i64 lsn)).setCell 4 (.int .i64 lsn)) hz3 HG3.out.size
          rw [← hw4]
          clear hw4 x0 x1 x2 x3 x4 x5 f0 f1 f2 f3 f4 f5
          obtain ⟨x0, x1, x2, x3, x4, x5, f0, f1, f2, f3, f4, f5⟩ := six_of hx4
          have HG4 := keep hg4
          obtain ⟨g', cap', e, -, ⟨d0, d1, d2, d3, d4, d5, d6⟩, hfr⟩ := HCs.out w4 HG4.out
          rw [HEq.out] at d0 d1 d3 d4 d5 d6
          rw [HEv.out] at d2
          simp only [Value.slice.injEq, Option.some.injEq, Addr.mk.injEq] at e
          obtain ⟨⟨rfl, -, -⟩, -, rfl⟩ := e
          have c0 := (HB.out.fits HG4.out).cell 0 (by simp)
          simp only [List.getElem_cons_zero] at c0
          dsimp only at d0 d1 d3 d4 d5 d6
          have e1 := hfr (i * 7 + 1)
          have e2 := hfr (i * 7 + 2)
          have e3 := hfr (i * 7 + 3)
          have e4 := hfr (i * 7 + 4)
          have e5 := hfr (i * 7 + 5)
          have e6 := hfr (i * 7 + 6)
          clear hfr hx4 hg4
          go_region
          all_goals go_wp2_with fail
          all_goals go_ret
          all_goals
            have hT : logT t lsn false = ⟨t.next, t.act, t.xid, lsn, lsn, t.undoes⟩ := by
              unfold logT
              rw [if_pos (by simpa using hfi)]
              rfl
            have hoo := own_keeps HO.out fun q _ hl => HG4.out.block q hl
            have hbut := but6o w4 g i (.int .i64 t.next) (.slice ra t.act.length rc) (.int .i64 t.xid) (.int .i64 lsn) (.int .i64 lsn) (.int .i64 t.undoes)
            have hds := dr_six hoo i hk who ⟨t.next, t.act, t.xid, lsn, lsn, t.undoes⟩ (.slice ra t.act.length rc) (by rw [HEq.out])
            dsimp only at hds
            rw [hT]
            generalize ((((((w4.setCell ⟨g, i * 7 + 1, none⟩ (.int .i64 t.next)).setCell ⟨g, i * 7 + 1 + 1, none⟩ (.slice ra t.act.length rc)).setCell ⟨g, i * 7 + 1 + 2, none⟩ (.int .i64 t.xid)).setCell ⟨g, i * 7 + 1 + 3, none⟩ (.int .i64 lsn)).setCell ⟨g, i * 7 + 1 + 4, none⟩ (.int .i64 lsn)).setCell ⟨g, i * 7 + 1 + 5, none⟩ (.int .i64 t.undoes)) = w5 at *
            refine ⟨rfl, ⟨D.set i ((who, ⟨t.next, t.act, t.xid, lsn, lsn, t.undoes⟩), .slice ra t.act.length rc), ?_, by rw [stD_set, HSet.out]⟩, (Out.of_below HG4.out).trans (Out.of_but hbut.drew HGO.out)⟩
            exact DocT.set (H0.out.fits HG4.out) hk (HB.out.fits HG4.out) HGO.out hoo HEv.out.symm (by rw [HEq.out]) (show w5.drew.ownsRow _ _ _ _ _ _ from hds) hbut.drew
      | false =>
        cases un with
        | true =>
          go_upto_region 12 with fail
          obtain ⟨w4, hw4⟩ : ∃ w4, w4 = ((w3.setCell ⟨bx, 4, none⟩ (.int .i64 lsn)).setCell ⟨bx, 5, none⟩ (.int .i64 (t.undoes + 1))) := ⟨_, rfl⟩
          have hx4 : Blk w4 bx 32 [.int .i64 t.next, .slice ra t.act.length rc, .int .i64 t.xid, .int .i64 t.first, .int .i64 lsn, .int .i64 (t.undoes + 1)] := by subst hw4; exact ((HX3.out.set 4 (.int .i64 lsn)).set 5 (.int .i64 (t.undoes + 1)))
          have hg4 : Grow w_ w4 := by subst hw4; exact But.below HG3.out (((But.refl bx w3).setCell 4 (.int .i64 lsn)).setCell 5 (.int .i64 (t.undoes + 1))) hz3 HG3.out.size
          rw [← hw4]
          clear hw4 x0 x1 x2 x3 x4 x5 f0 f1 f2 f3 f4 f5
          obtain ⟨x0, x1, x2, x3, x4, x5, f0, f1, f2, f3, f4, f5⟩ := six_of hx4
          have HG4 := keep hg4
          obtain ⟨g', cap', e, -, ⟨d0, d1, d2, d3, d4, d5, d6⟩, hfr⟩ := HCs.out w4 HG4.out
          rw [HEq.out] at d0 d1 d3 d4 d5 d6
          rw [HEv.out] at d2
          simp only [Value.slice.injEq, Option.some.injEq, Addr.mk.injEq] at e
          obtain ⟨⟨rfl, -, -⟩, -, rfl⟩ := e
          have c0 := (HB.out.fits HG4.out).cell 0 (by simp)
          simp only [List.getElem_cons_zero] at c0
          dsimp only at d0 d1 d3 d4 d5 d6
          have e1 := hfr (i * 7 + 1)
          have e2 := hfr (i * 7 + 2)
          have e3 := hfr (i * 7 + 3)
          have e4 := hfr (i * 7 + 4)
          have e5 := hfr (i * 7 + 5)
          have e6 := hfr (i * 7 + 6)
          clear hfr hx4 hg4
          go_region
          all_goals go_wp2_with fail
          all_goals go_ret
          all_goals
            have hT : logT t lsn true = ⟨t.next, t.act, t.xid, t.first, lsn, (t.undoes + 1)⟩ := by
              unfold logT
              rw [if_neg (by simpa using hfi)]
              rfl
            have hoo := own_keeps HO.out fun q _ hl => HG4.out.block q hl
            have hbut := but6o w4 g i (.int .i64 t.next) (.slice ra t.act.length rc) (.int .i64 t.xid) (.int .i64 t.first) (.int .i64 lsn) (.int .i64 (t.undoes + 1))
            have hds := dr_six hoo i hk who ⟨t.next, t.act, t.xid, t.first, lsn, (t.undoes + 1)⟩ (.slice ra t.act.length rc) (by rw [HEq.out])
            dsimp only at hds
            rw [hT]
            generalize ((((((w4.setCell ⟨g, i * 7 + 1, none⟩ (.int .i64 t.next)).setCell ⟨g, i * 7 + 1 + 1, none⟩ (.slice ra t.act.length rc)).setCell ⟨g, i * 7 + 1 + 2, none⟩ (.int .i64 t.xid)).setCell ⟨g, i * 7 + 1 + 3, none⟩ (.int .i64 t.first)).setCell ⟨g, i * 7 + 1 + 4, none⟩ (.int .i64 lsn)).setCell ⟨g, i * 7 + 1 + 5, none⟩ (.int .i64 (t.undoes + 1))) = w5 at *
            refine ⟨rfl, ⟨D.set i ((who, ⟨t.next, t.act, t.xid, t.first, lsn, (t.undoes + 1)⟩), .slice ra t.act.length rc), ?_, by rw [stD_set, HSet.out]⟩, (Out.of_below HG4.out).trans (Out.of_but hbut.drew HGO.out)⟩
            exact DocT.set (H0.out.fits HG4.out) hk (HB.out.fits HG4.out) HGO.out hoo HEv.out.symm (by rw [HEq.out]) (show w5.drew.ownsRow _ _ _ _ _ _ from hds) hbut.drew
        | false =>
          go_upto_region 12 with fail
          obtain ⟨w4, hw4⟩ : ∃ w4, w4 = (w3.setCell ⟨bx, 4, none⟩ (.int .i64 lsn)) := ⟨_, rfl⟩
          have hx4 : Blk w4 bx 32 [.int .i64 t.next, .slice ra t.act.length rc, .int .i64 t.xid, .int .i64 t.first, .int .i64 lsn, .int .i64 t.undoes] := by subst hw4; exact (HX3.out.set 4 (.int .i64 lsn))
          have hg4 : Grow w_ w4 := by subst hw4; exact But.below HG3.out ((But.refl bx w3).setCell 4 (.int .i64 lsn)) hz3 HG3.out.size
          rw [← hw4]
          clear hw4 x0 x1 x2 x3 x4 x5 f0 f1 f2 f3 f4 f5
          obtain ⟨x0, x1, x2, x3, x4, x5, f0, f1, f2, f3, f4, f5⟩ := six_of hx4
          have HG4 := keep hg4
          obtain ⟨g', cap', e, -, ⟨d0, d1, d2, d3, d4, d5, d6⟩, hfr⟩ := HCs.out w4 HG4.out
          rw [HEq.out] at d0 d1 d3 d4 d5 d6
          rw [HEv.out] at d2
          simp only [Value.slice.injEq, Option.some.injEq, Addr.mk.injEq] at e
          obtain ⟨⟨rfl, -, -⟩, -, rfl⟩ := e
          have c0 := (HB.out.fits HG4.out).cell 0 (by simp)
          simp only [List.getElem_cons_zero] at c0
          dsimp only at d0 d1 d3 d4 d5 d6
          have e1 := hfr (i * 7 + 1)
          have e2 := hfr (i * 7 + 2)
          have e3 := hfr (i * 7 + 3)
          have e4 := hfr (i * 7 + 4)
          have e5 := hfr (i * 7 + 5)
          have e6 := hfr (i * 7 + 6)
          clear hfr hx4 hg4
          go_region
          all_goals go_wp2_with fail
          all_goals go_ret
          all_goals
            have hT : logT t lsn false = ⟨t.next, t.act, t.xid, t.first, lsn, t.undoes⟩ := by
              unfold logT
              rw [if_neg (by simpa using hfi)]
              rfl
            have hoo := own_keeps HO.out fun q _ hl => HG4.out.block q hl
            have hbut := but6o w4 g i (.int .i64 t.next) (.slice ra t.act.length rc) (.int .i64 t.xid) (.int .i64 t.first) (.int .i64 lsn) (.int .i64 t.undoes)
            have hds := dr_six hoo i hk who ⟨t.next, t.act, t.xid, t.first, lsn, t.undoes⟩ (.slice ra t.act.length rc) (by rw [HEq.out])
            dsimp only at hds
            rw [hT]
            generalize ((((((w4.setCell ⟨g, i * 7 + 1, none⟩ (.int .i64 t.next)).setCell ⟨g, i * 7 + 1 + 1, none⟩ (.slice ra t.act.length rc)).setCell ⟨g, i * 7 + 1 + 2, none⟩ (.int .i64 t.xid)).setCell ⟨g, i * 7 + 1 + 3, none⟩ (.int .i64 t.first)).setCell ⟨g, i * 7 + 1 + 4, none⟩ (.int .i64 lsn)).setCell ⟨g, i * 7 + 1 + 5, none⟩ (.int .i64 t.undoes)) = w5 at *
            refine ⟨rfl, ⟨D.set i ((who, ⟨t.next, t.act, t.xid, t.first, lsn, t.undoes⟩), .slice ra t.act.length rc), ?_, by rw [stD_set, HSet.out]⟩, (Out.of_below HG4.out).trans (Out.of_but hbut.drew HGO.out)⟩
            exact DocT.set (H0.out.fits HG4.out) hk (HB.out.fits HG4.out) HGO.out hoo HEv.out.symm (by rw [HEq.out]) (show w5.drew.ownsRow _ _ _ _ _ _ from hds) hbut.drew

end Go.Proofs.Ytgijmlienolhpaa
