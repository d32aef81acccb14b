
/- The document's table: End. -/
import Derived.Test.YtgijmlienolhpaaTd5
import Derived.Deep.CutRange
namespace Go.Proofs.Ytgijmlienolhpaa
open Go.RowKit Go.Maps

theorem DocT.but {w w' : World} {O : Nat → Prop} {tr b t : Nat} {D : Dr} {cs : List Value} (h : DocT w O tr D) (hb : Blk w b t cs) (h1 : t ≠ 73) (h2 : t ≠ 78) (h3 : t ≠ 3) (k : But b w w') : DocT w' O tr D := by
  obtain ⟨v, hv, ho, hg⟩ := h.tab
  unfold Blk at hb
  refine ⟨h.base, ⟨v, hv.but k ?_, own_keeps ho (fun g e hl => k.block g hl ?_), hg⟩, fun p hp => rowO_butG (h.rows p hp) ?_ k⟩
  · rintro rfl
    unfold Blk at hv
    rw [hv] at hb
    cases hb
    exact h1 rfl
  · rintro rfl
    rcases ho.2 with ⟨h0, _⟩ | ⟨g', cap', cur, h4, _, hh, _⟩
    · rw [h0] at e; cases e
    · rw [h4] at e
      have e9 : g' = g := Option.some.inj e
      subst e9
      rw [hh] at hb
      cases hb
      exact h2 rfl
  · intro cs' f e
    rw [hb] at e
    cases e
    exact h3 rfl
theorem src_z (w : World) (ad : Addr) : SrcOk w (.slice (some ad) 0 0) 0 [] 7 := ⟨rfl, .inr ⟨_, _, rfl, fun j u hu => by simp at hu⟩⟩
def DendPost (O : Nat → Prop) (tr : Nat) (who : Int) (S : St) (w : World) (e : Ending) (w' : World) : Prop := ∃ av, e = .returned (.tuple #[tnV ((findT who S).getD tnZ) av, .int .i64 (endT who S).2]) ∧ Ints w' av ((findT who S).getD tnZ).act ∧ (∃ D', DocT w' O tr D' ∧ stD D' = (endT who S).1) ∧ Out O w w'

set_option maxRecDepth 100000 in
set_option maxHeartbeats 4000000 in
theorem doc_end (O : Nat → Prop) (tr : Nat) (D : Dr) (who : Int) (w_ : World) (h : DocT w_ O tr D) (hO : ∀ k, w_.heap.size ≤ k → O k) (hup : (stD D).Pairwise fun a b => a.1 < b.1) (hn : D.length ≤ 2199023255552) :
    Calls Try.prog 22 #[.pointer (some ⟨tr, 0, none⟩), .int .i64 who] w_ (DendPost O tr who (stD D) w_) := by
  obtain ⟨iR, hiR, hzR0, hzR1, hzR2⟩ := info_parts infoRow
  obtain ⟨w1, hw1⟩ : ∃ w1, w1 = w_.alloc (.cells #[.int .i64 0, .slice none 0 0, .int .i64 0, .int .i64 0, .int .i64 0, .int .i64 0] 32) := ⟨_, rfl⟩
  have HG1 := keep (show Grow w_ w1 from by subst hw1; exact (Grow.refl w_).alloc _)
  have HX := keep (show Blk w1 w_.heap.size 32 [.int .i64 0, .slice none 0 0, .int .i64 0, .int .i64 0, .int .i64 0, .int .i64 0] from by subst hw1; exact Blk.new w_ _ [_, _, _, _, _, _])
  obtain ⟨v, hb0, ho, hg⟩ := h.tab
  have hat := at_any D tr v who w1 (hb0.fits HG1.out) (owns_fitsT ho HG1.out) (by omega)
  unfold AtPost at hat
  obtain ⟨hsp1, -, -, hsp4⟩ := atS_spec (who := who) hup
  have hfd := fun t => find_dr (who := who) hup (t := t)
  have HFd := keep hfd
  rw [hsp1] at hat
  have HAt := keep hat
  have HBw := keep hb0
  have H0 := keep h
  have HOk := keep hO
  have HSl := keep h.slices
  have HHg := keep ho
  have HSp4 := keep hsp4
  clear h hO hup hat hsp1 hsp4 hfd hb0 ho hg
  unfold DendPost endT
  cases hf : findT who (stD D) with
  | none =>
    rw [hf] at HAt
    generalize (atS who (stD D)).1 = i at *
    clear hf HFd HSp4
    simp only [Option.isSome_none, Bool.false_eq_true, if_false] at HAt ⊢
    go_enter Try.func22, Try.ntmps22
    go_upto_region 1 with fail
    rw [← hw1]
    clear hw1
    go_upto_region 2 with (go_at_call 35; refine HAt.out.mono ?_; rintro e w2 ⟨rfl, hb2⟩; have HG2 := keep hb2; clear hb2)
    obtain ⟨x0, x1, x2, x3, x4, x5, f0, f1, f2, f3, f4, f5⟩ := six_of (HX.out.fits HG2.out)
    have Hset := keep (set6 (HX.out.fits HG2.out) (.int .i64 0) (.slice none 0 0) (.int .i64 0) (.int .i64 0) (.int .i64 0) (.int .i64 0))
    have Hbut := keep (but6 w2 w_.heap.size (.int .i64 0) (.slice none 0 0) (.int .i64 0) (.int .i64 0) (.int .i64 0) (.int .i64 0))
    have hz2 : w_.heap.size ≤ w2.heap.size := Nat.le_trans HG1.out.size HG2.out.size
    go_wp2_with fail
    have hB := But.below (Grow.trans HG1.out HG2.out) Hbut.out (Nat.le_refl _) hz2
    refine bodyPost_ret (v := .tuple #[tnV tnZ (.slice none 0 0), .int .i64 182]) ?_ rfl ⟨.slice none 0 0, rfl, Row.nil _ _ _ _, ⟨D, H0.out.fits hB, rfl⟩, Out.of_below hB⟩
    obtain ⟨s0, s1, s2, s3, s4, s5, _⟩ := six_of Hset.out
    simp [results, Try.results22, go_sem, s0, s1, s2, s3, s4, s5, tnV, tnZ]
  | some t =>
    rw [hf] at HAt
    obtain ⟨hk, he⟩ := HFd.out t hf
    have hdel := (HSp4.out (by rw [hf]; rfl)).1
    generalize (atS who (stD D)).1 = i at *
    clear hf HFd HSp4
    simp only [Option.isSome_some, if_true] at HAt ⊢
    obtain ⟨g, cap, rfl, hcap, -, -⟩ := dr_at HHg.out hk
    have HCs := keep (fun (u : World) (hu : Grow w_ u) => (dr_at (own_keeps HHg.out fun q _ hl => hu.block q hl) hk))
    have hrow := H0.out.rows _ (List.getElem_mem hk)
    have hrow2 := hrow.1.weak
    obtain ⟨ra, rc, hrv⟩ := row_sl hrow2
    rw [he] at hrv hrow
    rw [hrv] at hrow
    have HR := keep hrow
    have HEq := keep he
    have HEv := keep hrv
    have HDel := keep hdel
    clear hrow hrow2 he hrv hdel
    go_enter Try.func22, Try.ntmps22
    go_upto_region 1 with fail
    rw [← hw1]
    clear hw1
    go_upto_region 2 with (go_at_call 35; refine HAt.out.mono ?_; rintro e w2 ⟨rfl, hb2⟩; have HG2 := keep hb2; clear hb2)
    have HGa := keep (Grow.trans HG1.out HG2.out)
    obtain ⟨g', cap', e, -, ⟨d0, d1, d2, d3, d4, d5, d6⟩, -⟩ := HCs.out w2 HGa.out
    rw [HEq.out] at d0 d1 d3 d4 d5 d6
    rw [HEv.out] at d2
    simp only [Value.slice.injEq, Option.some.injEq, Addr.mk.injEq] at e
    obtain ⟨⟨rfl, -, -⟩, -, rfl⟩ := e
    have c0 := (HBw.out.fits HGa.out).cell 0 (by simp)
    simp only [List.getElem_cons_zero] at c0
    dsimp only at d0 d1 d3 d4 d5 d6
    go_upto_region 5 with fail
    obtain ⟨w3, hw3⟩ : ∃ w3, w3 = w2.alloc (.cells #[.int .i64 t.next, .slice ra t.act.length rc, .int .i64 t.xid, .int .i64 t.first, .int .i64 t.last, .int .i64 t.undoes] 32) := ⟨_, rfl⟩
    have hg3 : Grow w2 w3 := by subst hw3; exact (Grow.refl w2).alloc _
    have HX3 := keep (show Blk w3 w2.heap.size 32 [.int .i64 t.next, .slice ra t.act.length rc, .int .i64 t.xid, .int .i64 t.first, .int .i64 t.last, .int .i64 t.undoes] from by subst hw3; exact Blk.new w2 _ [_, _, _, _, _, _])
    rw [← hw3]
    have HG3 := keep (Grow.trans HGa.out hg3)
    have HX0 := keep (HX.out.fits (Grow.trans HG2.out hg3))
    have HNe := keep (show w2.heap.size ≠ w_.heap.size from by have := HG2.out.size; have := HX.out.lt; omega)
    clear hw3 hg3 d0 d1 d2 d3 d4 d5 d6 c0
    have c0 := (HBw.out.fits HG3.out).cell 0 (by simp)
    simp only [List.getElem_cons_zero] at c0
    rcases Decidable.em (cap = i + 1) with hcp | hcp
    · subst hcp
      go_upto_region 7 with (at_builtin; go_must (refine wpList_append_src rfl _ _ 71 rfl w3.heap.size 78 iR (.agg #[.int .i64 0, .int .i64 0, .slice none 0 0, .int .i64 0, .int .i64 0, .int .i64 0, .int .i64 0]) 7 72 Try.underlying71 hiR hzR0 hzR1 hzR2 rfl (by decide) (Value.slice none 0 0) 0 [] rfl (World.ownsRow_nil _ _ _ _) _ i (drS (D.take i)) rfl (src_lo (own_keeps HHg.out fun q _ hl => HG3.out.block q hl) i (by omega)) (one_drs fun p hp => HSl.out p (List.mem_of_mem_take hp)) (by unfold maxLen; omega) (by omega) (Nat.le_refl _) ?_); intro v' wc hown hgrow'; have hgrow := (show World.grownBy _ wc none from hgrow'); clear hgrow'; rw [Nat.zero_add, List.nil_append] at hown; obtain ⟨a1, c1, rfl⟩ := own_form hown; have HL1 := keep hown; have HGc := keep (Below.grown (Below.refl w3.heap.size w3) hgrow (Nat.le_refl _) (fun g e => by cases e)); have hbc := HBw.out.fits (Below.trans HG3.out (HGc.out.mono HG3.out.size)); have c0c := hbc.cell 0 (by simp); simp only [List.getElem_cons_zero] at c0c; clear hown hgrow hbc)
      clear c0
      go_upto_region 8 with (at_builtin; go_must (refine wpList_append_src rfl _ _ 71 rfl w3.heap.size 78 iR (.agg #[.int .i64 0, .int .i64 0, .slice none 0 0, .int .i64 0, .int .i64 0, .int .i64 0, .int .i64 0]) 7 72 Try.underlying71 hiR hzR0 hzR1 hzR2 rfl (by decide) (Value.slice a1 i c1) i (drS (D.take i)) rfl HL1.out _ 0 [] rfl (src_z _ _) (by simp) (by unfold maxLen; omega) (by omega) HGc.out.size ?_); intro v' wf hown hgrow; rw [Nat.add_zero, List.append_nil] at hown; obtain ⟨a4, c4, rfl⟩ := own_form hown; have HL3 := keep hown; have HGf := keep (Below.grown HGc.out hgrow HGc.out.size (fun g e => (HL1.out.lt g e).1)); have HGW := keep (Below.trans HG3.out (HGf.out.mono HG3.out.size)); have hbf := HBw.out.fits HGW.out; have c0f := hbf.cell 0 (by simp); have f0f := hbf.free 0; simp only [List.getElem_cons_zero] at c0f; clear hown hgrow hbf)
      have hdr : (D : Dr).drop (i + 1) = [] := List.drop_eq_nil_of_le hcap
      have hD' : i = ((D : Dr).take i ++ (D : Dr).drop (i + 1)).length := by rw [hdr]; simp; omega
      have hL := HL3.out
      have hL2 : wf.ownsRow w3.heap.size 78 7 (.slice a4 i c4) ((D : Dr).take i ++ (D : Dr).drop (i + 1)).length (drS ((D : Dr).take i ++ (D : Dr).drop (i + 1))) := by rw [← hD', hdr, List.append_nil]; exact hL
      obtain ⟨hren1, hren2⟩ := DocT.renew H0.out HOk.out HGW.out (own_base hL2 HG3.out.size) (fun p hp => by
        rcases List.mem_append.1 hp with h9 | h9
        · exact .inl (List.mem_of_mem_take h9)
        · exact .inl (List.mem_of_mem_drop h9))
      have htr : tr < w_.heap.size := HBw.out.lt
      have hbt : But tr wf (wf.setCell ⟨tr, 0, none⟩ (.slice a4 i c4)) := (But.refl tr wf).setCell 0 _
      have HRr := keep (rowO_butG (HR.out.keeps fun k _ hl => HGW.out.block k hl) (fun cs f e => by have h9 := HBw.out.fits HGW.out; unfold Blk at h9; rw [h9] at e; cases e) hbt)
      have HXr := keep ((HX3.out.fits HGf.out).but hbt (by have := HX.out.lt; have := HG2.out.size; omega))
      have HYr := keep ((HX0.out.fits HGf.out).but hbt (by omega))
      have hsz : wf.heap.size ≤ (wf.setCell ⟨tr, 0, none⟩ (.slice a4 i c4)).heap.size := hbt.size
      generalize hwr : wf.setCell ⟨tr, 0, none⟩ (.slice a4 i c4) = wr at *
      have HRen1 := keep hren1
      have HRen2 := keep hren2
      clear hwr hL hL2 hdr hren1 hren2 hbt c0c c0f f0f hD' hsz
      obtain ⟨x0, x1, x2, x3, x4, x5, -⟩ := six_of HXr.out
      obtain ⟨y0, y1, y2, y3, y4, y5, f0, f1, f2, f3, f4, f5⟩ := six_of HYr.out
      have Hset := keep (set6 HYr.out (.int .i64 t.next) (.slice ra t.act.length rc) (.int .i64 t.xid) (.int .i64 t.first) (.int .i64 t.last) (.int .i64 t.undoes))
      have Hbut := keep (but6 wr w_.heap.size (.int .i64 t.next) (.slice ra t.act.length rc) (.int .i64 t.xid) (.int .i64 t.first) (.int .i64 t.last) (.int .i64 t.undoes))
      go_wp2_with fail
      refine bodyPost_ret (v := .tuple #[tnV t (.slice ra t.act.length rc), .int .i64 0]) ?_ rfl ⟨.slice ra t.act.length rc, rfl, ?_, ⟨_, HRen1.out.but HYr.out (by decide) (by decide) (by decide) Hbut.out, ?_⟩, HRen2.out.butNew Hbut.out (Nat.le_refl _)⟩
      · obtain ⟨s0, s1, s2, s3, s4, s5, _⟩ := six_of Hset.out
        simp [results, Try.results22, go_sem, s0, s1, s2, s3, s4, s5, tnV]
      · exact (rowO_butG HRr.out (fun cs f e => by have h9 := HYr.out; unfold Blk at h9; rw [h9] at e; cases e) Hbut.out).1.weak
      · rw [HDel.out]; simp [stD]
    · have hcq : (cap = i + 1) = False := by simp [hcp]
      go_upto_region 7 with (at_builtin; go_must (refine wpList_append_src rfl _ _ 71 rfl w3.heap.size 78 iR (.agg #[.int .i64 0, .int .i64 0, .slice none 0 0, .int .i64 0, .int .i64 0, .int .i64 0, .int .i64 0]) 7 72 Try.underlying71 hiR hzR0 hzR1 hzR2 rfl (by decide) (Value.slice none 0 0) 0 [] rfl (World.ownsRow_nil _ _ _ _) _ i (drS (D.take i)) rfl (src_lo (own_keeps HHg.out fun q _ hl => HG3.out.block q hl) i (by omega)) (one_drs fun p hp => HSl.out p (List.mem_of_mem_take hp)) (by unfold maxLen; omega) (by omega) (Nat.le_refl _) ?_); intro v' wc hown hgrow'; have hgrow := (show World.grownBy _ wc none from hgrow'); clear hgrow'; rw [Nat.zero_add, List.nil_append] at hown; obtain ⟨a1, c1, rfl⟩ := own_form hown; have HL1 := keep hown; have HGc := keep (Below.grown (Below.refl w3.heap.size w3) hgrow (Nat.le_refl _) (fun g e => by cases e)); have hbc := HBw.out.fits (Below.trans HG3.out (HGc.out.mono HG3.out.size)); have c0c := hbc.cell 0 (by simp); simp only [List.getElem_cons_zero] at c0c; clear hown hgrow hbc)
      clear c0
      go_upto_region 8 with (at_builtin; go_must (refine wpList_append_src rfl _ _ 71 rfl w3.heap.size 78 iR (.agg #[.int .i64 0, .int .i64 0, .slice none 0 0, .int .i64 0, .int .i64 0, .int .i64 0, .int .i64 0]) 7 72 Try.underlying71 hiR hzR0 hzR1 hzR2 rfl (by decide) (Value.slice a1 i c1) i (drS (D.take i)) rfl HL1.out _ (D.length - (i + 1)) (drS (D.drop (i + 1))) rfl (src_hi (own_keeps HHg.out fun q _ hl => (Below.trans HG3.out (HGc.out.mono HG3.out.size)).block q hl) (i + 1) hk rfl) (one_drs fun p hp => HSl.out p (List.mem_of_mem_drop hp)) (by unfold maxLen; omega) (by omega) HGc.out.size ?_); intro v' wf hown hgrow; obtain ⟨a4, c4, rfl⟩ := own_form hown; have HL3 := keep hown; have HGf := keep (Below.grown HGc.out hgrow HGc.out.size (fun g e => (HL1.out.lt g e).1)); have HGW := keep (Below.trans HG3.out (HGf.out.mono HG3.out.size)); have hbf := HBw.out.fits HGW.out; have c0f := hbf.cell 0 (by simp); have f0f := hbf.free 0; simp only [List.getElem_cons_zero] at c0f; clear hown hgrow hbf)
      have hD' : i + (D.length - (i + 1)) = ((D : Dr).take i ++ (D : Dr).drop (i + 1)).length := by simp; omega
      have hL := HL3.out
      rw [show i + (D.length - (i + 1)) = ((D : Dr).take i ++ (D : Dr).drop (i + 1)).length from hD', show drS (D.take i) ++ drS (D.drop (i + 1)) = drS ((D : Dr).take i ++ (D : Dr).drop (i + 1)) by simp [drS]] at hL
      obtain ⟨hren1, hren2⟩ := DocT.renew H0.out HOk.out HGW.out (own_base hL HG3.out.size) (fun p hp => by
        rcases List.mem_append.1 hp with h9 | h9
        · exact .inl (List.mem_of_mem_take h9)
        · exact .inl (List.mem_of_mem_drop h9))
      rw [← hD'] at hren1 hren2
      have htr : tr < w_.heap.size := HBw.out.lt
      have hbt : But tr wf (wf.setCell ⟨tr, 0, none⟩ (.slice a4 (i + (D.length - (i + 1))) c4)) := (But.refl tr wf).setCell 0 _
      have HRr := keep (rowO_butG (HR.out.keeps fun k _ hl => HGW.out.block k hl) (fun cs f e => by have h9 := HBw.out.fits HGW.out; unfold Blk at h9; rw [h9] at e; cases e) hbt)
      have HXr := keep ((HX3.out.fits HGf.out).but hbt (by have := HX.out.lt; have := HG2.out.size; omega))
      have HYr := keep ((HX0.out.fits HGf.out).but hbt (by omega))
      have hsz : wf.heap.size ≤ (wf.setCell ⟨tr, 0, none⟩ (.slice a4 (i + (D.length - (i + 1))) c4)).heap.size := hbt.size
      generalize hwr : wf.setCell ⟨tr, 0, none⟩ (.slice a4 (i + (D.length - (i + 1))) c4) = wr at *
      have HRen1 := keep hren1
      have HRen2 := keep hren2
      clear hwr hL hren1 hren2 hbt c0c c0f f0f hD' hsz
      obtain ⟨x0, x1, x2, x3, x4, x5, -⟩ := six_of HXr.out
      obtain ⟨y0, y1, y2, y3, y4, y5, f0, f1, f2, f3, f4, f5⟩ := six_of HYr.out
      have Hset := keep (set6 HYr.out (.int .i64 t.next) (.slice ra t.act.length rc) (.int .i64 t.xid) (.int .i64 t.first) (.int .i64 t.last) (.int .i64 t.undoes))
      have Hbut := keep (but6 wr w_.heap.size (.int .i64 t.next) (.slice ra t.act.length rc) (.int .i64 t.xid) (.int .i64 t.first) (.int .i64 t.last) (.int .i64 t.undoes))
      go_wp2_with fail
      refine bodyPost_ret (v := .tuple #[tnV t (.slice ra t.act.length rc), .int .i64 0]) ?_ rfl ⟨.slice ra t.act.length rc, rfl, ?_, ⟨_, HRen1.out.but HYr.out (by decide) (by decide) (by decide) Hbut.out, ?_⟩, HRen2.out.butNew Hbut.out (Nat.le_refl _)⟩
      · obtain ⟨s0, s1, s2, s3, s4, s5, _⟩ := six_of Hset.out
        simp [results, Try.results22, go_sem, s0, s1, s2, s3, s4, s5, tnV]
      · exact (rowO_butG HRr.out (fun cs f e => by have h9 := HYr.out; unfold Blk at h9; rw [h9] at e; cases e) Hbut.out).1.weak
      · rw [HDel.out]; simp [stD]

end Go.Proofs.Ytgijmlienolhpaa
