
/- The document's table: Begin, End. -/
import Derived.Test.YtgijmlienolhpaaTd4
import Derived.Deep.CutRange
namespace Go.Proofs.Ytgijmlienolhpaa
open Go.RowKit Go.Maps

theorem SrcOk.fits {w w' : World} {v : Value} {m size : Nat} {news : List Value} (h : SrcOk w v m news size) (k : Grow w w') : SrcOk w' v m news size := by
  obtain ⟨h1, h2 | ⟨ad, c, h3, h4⟩⟩ := h
  · exact ⟨h1, .inl h2⟩
  · exact ⟨h1, .inr ⟨ad, c, h3, fun j u hu => by have := h4 j u hu; exact (k.cell (World.block_lt_of_cell? w _ this)).trans this⟩⟩
theorem src_hi2 {w : World} {g cap n : Nat} {D : Dr} (h : w.ownsRow 0 78 7 (.slice (some ⟨g, 0, none⟩) n cap) D.length (drS D)) (i c : Nat) (hi : i ≤ D.length) (hc : D.length ≤ cap) : SrcOk w (.slice (if cap = i then some ⟨g, 0, none⟩ else some ⟨g, i * 7, none⟩) (D.length - i) c) (D.length - i) (drS (D.drop i)) 7 := by
  by_cases he : cap = i
  · have e : D.drop i = [] := List.drop_eq_nil_of_le (by omega)
    rw [if_pos he, e, show D.length - i = 0 by omega]
    exact ⟨rfl, .inr ⟨_, _, rfl, fun j u hu => by simp [drS] at hu⟩⟩
  · rw [if_neg he]
    exact src_hi h i hi rfl
theorem SrcOk.form {w : World} {v : Value} {m size : Nat} {news : List Value} (h : SrcOk w v m news size) : ∃ a c, v = .slice a m c := by
  obtain ⟨_, ⟨rfl, rfl⟩ | ⟨ad, c, h3, _⟩⟩ := h
  · exact ⟨_, _, rfl⟩
  · exact ⟨_, _, h3⟩
theorem src_new (w : World) (t size c : Nat) (cs : List Value) (hs : cs.length = size) : SrcOk (w.alloc (.cells cs.toArray t)) (.slice (some ⟨w.heap.size, 0, none⟩) 1 c) 1 cs size := by
  refine ⟨by rw [hs, Nat.one_mul], .inr ⟨_, _, rfl, fun j u hu => ?_⟩⟩
  have hb := Blk.new w t cs
  have hlt : j < cs.length := (List.getElem?_eq_some_iff.1 hu).1
  have h1 := hb.cell j hlt
  rw [List.getElem?_eq_getElem hlt] at hu
  rw [Option.some.inj hu] at h1
  show World.cell? _ (Addr.add ⟨w.heap.size, 0, none⟩ j) = _
  rw [show (Addr.add ⟨w.heap.size, 0, none⟩ j) = ⟨w.heap.size, j, none⟩ by simp [Addr.add]; exact fun h => h.symm]
  exact h1
theorem one_ints (l : List Int) : ∀ u ∈ iCells l, u.oneCell' = true := by
  intro u hu
  obtain ⟨x, _, rfl⟩ := List.mem_map.1 hu
  rfl
theorem one_drs {D : Dr} (h : ∀ p ∈ D, ∃ a n c, p.2 = .slice a n c) : ∀ u ∈ drS D, u.oneCell' = true := by
  intro u hu
  obtain ⟨p, hp, hu⟩ := List.mem_flatMap.1 hu
  obtain ⟨a, n, c, he⟩ := h p hp
  unfold drC at hu
  rw [he] at hu
  simp at hu
  rcases hu with rfl | rfl | rfl | rfl | rfl | rfl | rfl <;> rfl
theorem infoRow : (Try.prog.info? 78).map (fun i => (i.zero, i.size, i.bytes)) = some (some (.agg #[.int .i64 0, .int .i64 0, .slice none 0 0, .int .i64 0, .int .i64 0, .int .i64 0, .int .i64 0]), 7, 72) := by kernel_rfl
theorem DocT.slices {w : World} {O : Nat → Prop} {tr : Nat} {D : Dr} (h : DocT w O tr D) : ∀ p ∈ D, ∃ a n c, p.2 = .slice a n c := fun p hp => by
  obtain ⟨a, c, e⟩ := row_sl (h.rows p hp).1.weak
  exact ⟨a, _, c, e⟩
/-- A row of one's own put in the table's place. -/
theorem DocT.renew {w_ w : World} {O : Nat → Prop} {tr : Nat} {D D' : Dr} {v : Value} (h : DocT w_ O tr D) (hO : ∀ k, w_.heap.size ≤ k → O k) (hg : Below w_.heap.size w_ w) (ho : w.ownsRow w_.heap.size 78 7 v D'.length (drS D')) (hr : ∀ p ∈ D', p ∈ D ∨ RowO w (fun k => w_.heap.size ≤ k) p.2 p.1.2.act) :
    DocT (w.setCell ⟨tr, 0, none⟩ v) O tr D' ∧ Out O w_ (w.setCell ⟨tr, 0, none⟩ v) := by
  obtain ⟨v0, hb0, -, -⟩ := h.tab
  have hlt := hb0.lt
  have hb := hb0.fits hg
  have hbut := (But.refl tr w).setCell 0 v
  refine ⟨⟨h.base, ⟨v, hb.set 0 v, own_base (own_keeps ho fun g e hl => hbut.block g hl (by have := (ho.lt g e).1; omega)) (Nat.zero_le _), fun g e => hO g (ho.lt g e).1⟩, ?_⟩, (Out.of_below hg).trans (Out.of_but hbut h.base)⟩
  intro p hp
  have hrw : RowO w O p.2 p.1.2.act := by
    rcases hr p hp with hm | hm
    · exact (h.rows p hm).keeps fun k _ hl => hg.block k hl
    · exact hm.weaken fun k hk _ => hO k hk
  exact rowO_butG hrw (fun cs f e => by rw [hb] at e; cases e) hbut

set_option maxRecDepth 100000 in
set_option maxHeartbeats 4000000 in
theorem doc_begin (O : Nat → Prop) (tr : Nat) (D : Dr) (who next : Int) (act : List Int) (sv : Value) (w_ : World) (h : DocT w_ O tr D) (hO : ∀ k, w_.heap.size ≤ k → O k) (hup : (stD D).Pairwise fun a b => a.1 < b.1) (hs : SrcOk w_ sv act.length (iCells act) 1) (hl : (act.length : Int) ≤ 17592186044416) (hn : D.length ≤ 2199023255552) :
    Calls Try.prog 16 #[.pointer (some ⟨tr, 0, none⟩), .int .i64 who, .agg #[.int .i64 next, sv]] w_ (DocCode O tr (beginT who next act (stD D)) w_) := by
  obtain ⟨iI, hiI, hzI0, hzI1, hzI2⟩ := info_parts infoIntT
  obtain ⟨iR, hiR, hzR0, hzR1, hzR2⟩ := info_parts infoRow
  obtain ⟨sa, sc, rfl⟩ := hs.form
  obtain ⟨w1, hw1⟩ : ∃ w1, w1 = w_.alloc (.cells #[.int .i64 next, .slice sa act.length sc] 28) := ⟨_, rfl⟩
  have HG1 := keep (show Grow w_ w1 from by subst hw1; exact (Grow.refl w_).alloc _)
  have HX1 := keep (show Blk w1 w_.heap.size 28 [.int .i64 next, .slice sa act.length sc] from by subst hw1; exact Blk.new w_ _ [_, _])
  obtain ⟨v, hb0, ho, hg⟩ := h.tab
  have hb := hb0.fits HG1.out
  have hat := at_any D tr v who w1 hb (owns_fitsT ho HG1.out) (by omega)
  unfold AtPost at hat
  obtain ⟨hsp1, -, hsp3, -⟩ := atS_spec (who := who) hup
  rw [hsp1] at hat
  have hi := atS_le who (stD D)
  rw [show (stD D).length = D.length by simp [stD]] at hi
  have HAt := keep hat
  have HB := keep hb
  have HBw := keep hb0
  clear hb0
  have H0 := keep h
  have HOk := keep hO
  have HSl := keep h.slices
  have HSv := keep hs
  have HHg := keep ho
  unfold beginT
  cases hf : findT who (stD D) with
  | some t =>
    rw [hf] at HAt
    simp only [Option.isSome_some, if_true] at HAt ⊢
    generalize (atS who (stD D)).1 = i at *
    clear hsp1 hsp3 hf h hO hup hs hat hb ho hg
    go_enter Try.func16, Try.ntmps16
    go_upto_region 1 with fail
    rw [← hw1]
    clear hw1
    go_wp2_with (go_at_call 35; refine HAt.out.mono ?_; rintro e w2 ⟨rfl, hb2⟩; have HG2 := keep (Grow.trans HG1.out hb2); clear hb2)
    go_ret
    exact ⟨rfl, ⟨D, H0.out.fits HG2.out, rfl⟩, Out.of_below HG2.out⟩
  | none =>
    rw [hf] at HAt
    have hins := hsp3 hf (newT next act)
    have HIns := keep hins
    generalize (atS who (stD D)).1 = i at *
    clear hsp1 hsp3 hf h hO hup hs hat hb hins
    simp only [Option.isSome_none, Bool.false_eq_true, if_false]
    have hvv : (v = .slice none 0 0 ∧ D = []) ∨ ∃ g cap, v = .slice (some ⟨g, 0, none⟩) D.length cap ∧ D.length ≤ cap := by
      rcases ho.2 with ⟨h1, h2⟩ | ⟨g, cap, cur, h1, -, -, h2, -⟩
      · exact .inl ⟨h1, List.eq_nil_of_length_eq_zero h2⟩
      · exact .inr ⟨g, cap, h1, h2⟩
    clear ho hg
    rcases hvv with ⟨rfl, hD⟩ | ⟨g, cap, rfl, hcap⟩
    · subst hD
      have e0 : i = 0 := by simpa using hi
      subst e0
      go_enter Try.func16, Try.ntmps16
      go_upto_region 1 with fail
      rw [← hw1]
      clear hw1
      go_upto_region 2 with (go_at_call 35; refine HAt.out.mono ?_; rintro e w2 ⟨rfl, hb2⟩; have HG2 := keep hb2; clear hb2)
      have HG3 := keep (Grow.trans HG1.out HG2.out)
      obtain ⟨x0, x1, f0, f1⟩ := two_of (HX1.out.fits HG2.out)
      go_upto_region 6 with (at_builtin; go_must (refine wpList_append_src rfl _ _ 26 rfl w_.heap.size 3 iI (.int .i64 0) 1 8 Try.underlying26 hiI hzI0 hzI1 hzI2 rfl (by decide) _ 0 [] rfl (World.ownsRow_nil _ _ _ _) _ act.length (iCells act) rfl (HSv.out.fits HG3.out) (one_ints act) (by unfold maxLen; omega) (by omega) HG3.out.size ?_); intro v' wa hown hgrow'; have hgrow := (show World.grownBy _ wa none from hgrow'); clear hgrow'; rw [Nat.zero_add, List.nil_append] at hown; obtain ⟨a2, c2, rfl⟩ := own_form hown; have HAv := keep (own_rowO hown); have HGa := keep (Below.grown HG3.out hgrow HG3.out.size (fun g e => by cases e)); have hxa := (by have h9 := hgrow.block w_.heap.size (HX1.out.fits HG2.out).lt (by simp); exact blk_keeps (HX1.out.fits HG2.out) h9 : Blk wa w_.heap.size 28 _); have HXa := keep hxa; clear hown hgrow hxa)
      clear x0 x1 f0 f1
      obtain ⟨x0, x1, f0, f1⟩ := two_of HXa.out
      go_upto_region 7 with fail
      obtain ⟨wb, hwb⟩ : ∃ wb, wb = wa.setCell ⟨w_.heap.size, 1, none⟩ (.slice a2 act.length c2) := ⟨_, rfl⟩
      have hbutb : But w_.heap.size wa wb := by subst hwb; exact (But.refl _ _).setCell 1 _
      have HXb := keep (show Blk wb w_.heap.size 28 [.int .i64 next, .slice a2 act.length c2] from by subst hwb; exact HXa.out.set 1 _)
      rw [← hwb]
      have HGb := keep (But.below HGa.out hbutb (Nat.le_refl _) HGa.out.size)
      have HAv2 := keep (rowO_butG HAv.out (fun cs f e => by have h9 := HXa.out; unfold Blk at h9; rw [h9] at e; cases e) hbutb)
      clear hwb hbutb x0 x1 f0 f1
      have hbb := HBw.out.fits HGb.out
      have c0b := hbb.cell 0 (by simp)
      simp only [List.getElem_cons_zero] at c0b
      clear hbb
      go_upto_region 9 with (at_builtin; go_must (refine wpList_append_src rfl _ _ 71 rfl w_.heap.size 78 iR (.agg #[.int .i64 0, .int .i64 0, .slice none 0 0, .int .i64 0, .int .i64 0, .int .i64 0, .int .i64 0]) 7 72 Try.underlying71 hiR hzR0 hzR1 hzR2 rfl (by decide) (Value.slice none 0 0) 0 [] rfl (World.ownsRow_nil _ _ _ _) _ 0 [] rfl (src_none _ _) (by simp) (by unfold maxLen; omega) (by omega) HGb.out.size ?_); intro v' wc hown hgrow'; have hgrow := (show World.grownBy _ wc none from hgrow'); clear hgrow'; rw [Nat.zero_add, List.nil_append] at hown; obtain ⟨a1, c1, rfl⟩ := own_form hown; have HL1 := keep hown; have HGc := keep (Below.grown HGb.out hgrow HGb.out.size (fun g e => by cases e)); have HAv3 := keep (rowO_grown HAv2.out (World.ownsRow_nil wb w_.heap.size 78 7) (by decide) hgrow); have hxc := (by have h9 := hgrow.block w_.heap.size HXb.out.lt (by simp); exact blk_keeps HXb.out h9 : Blk wc w_.heap.size 28 _); have HXc := keep hxc; obtain ⟨y0, y1, -⟩ := two_of hxc; clear hown hgrow hxc)
      clear c0b
      go_upto_region 10 with (at_builtin; go_must (refine wpList_append_src rfl _ _ 71 rfl w_.heap.size 78 iR (.agg #[.int .i64 0, .int .i64 0, .slice none 0 0, .int .i64 0, .int .i64 0, .int .i64 0, .int .i64 0]) 7 72 Try.underlying71 hiR hzR0 hzR1 hzR2 rfl (by decide) (Value.slice a1 0 c1) 0 [] rfl (HL1.out.alloc _) _ 1 [Value.int .i64 who, Value.int .i64 next, Value.slice a2 act.length c2, Value.int .i64 0, Value.int .i64 0, Value.int .i64 0, Value.int .i64 0] rfl (src_new wc 78 7 _ [Value.int .i64 who, Value.int .i64 next, Value.slice a2 act.length c2, Value.int .i64 0, Value.int .i64 0, Value.int .i64 0, Value.int .i64 0] rfl) (by intro u hu; simp at hu; rcases hu with rfl | rfl | rfl | rfl | rfl | rfl | rfl <;> rfl) (by unfold maxLen; omega) (by omega) (by have := HGc.out.size; simp; omega) ?_); intro v' we hown hgrow; obtain ⟨a3, c3, rfl⟩ := own_form hown; have HL2 := keep hown; have HGe := keep (Below.grown (Below.alloc HGc.out HGc.out.size _) hgrow (by have := HGc.out.size; simp; omega) (fun g e => (HL1.out.lt g e).1)); have HAv4 := keep (rowO_grown (HAv3.out.alloc _) (HL1.out.alloc _) (by decide) hgrow); have hbe := HBw.out.fits HGe.out; have c0e := hbe.cell 0 (by simp); simp only [List.getElem_cons_zero] at c0e; clear hown hgrow hbe)
      clear y0 y1
      go_wp2_with (at_builtin; go_must (refine wpList_append_src rfl _ _ 71 rfl w_.heap.size 78 iR (.agg #[.int .i64 0, .int .i64 0, .slice none 0 0, .int .i64 0, .int .i64 0, .int .i64 0, .int .i64 0]) 7 72 Try.underlying71 hiR hzR0 hzR1 hzR2 rfl (by decide) (Value.slice a3 (0 + 1) c3) (0 + 1) ([] ++ [Value.int .i64 who, Value.int .i64 next, Value.slice a2 act.length c2, Value.int .i64 0, Value.int .i64 0, Value.int .i64 0, Value.int .i64 0]) rfl HL2.out _ 0 [] rfl (src_none _ _) (by simp) (by unfold maxLen; omega) (by omega) HGe.out.size ?_); intro v' wf hown hgrow; obtain ⟨a4, c4, rfl⟩ := own_form hown; have HL3 := keep hown; have HGf := keep (Below.grown HGe.out hgrow HGe.out.size (fun g e => (HL2.out.lt g e).1)); have HAv5 := keep (rowO_grown HAv4.out HL2.out (by decide) hgrow); have hbf := HBw.out.fits HGf.out; have c0f := hbf.cell 0 (by simp); have f0f := hbf.free 0; simp only [List.getElem_cons_zero] at c0f; clear hown hgrow hbf)
      all_goals
        go_ret
        have hD' : 0 + 1 + 0 = (([] : Dr).take 0 ++ ((who, newT next act), Value.slice a2 act.length c2) :: ([] : Dr).drop 0).length := by simp; try omega
        have hL := HL3.out
        rw [hD', show [] ++ [Value.int .i64 who, Value.int .i64 next, Value.slice a2 act.length c2, Value.int .i64 0, Value.int .i64 0, Value.int .i64 0, Value.int .i64 0] ++ [] = drS (([] : Dr).take 0 ++ ((who, newT next act), Value.slice a2 act.length c2) :: ([] : Dr).drop 0) by simp [drS, drC, newT]] at hL
        have hren := DocT.renew H0.out HOk.out HGf.out hL (fun p hp => by
          rcases List.mem_append.1 hp with h9 | h9
          · exact .inl (List.mem_of_mem_take h9)
          · rcases List.mem_cons.1 h9 with rfl | h9
            · exact .inr HAv5.out
            · exact .inl (List.mem_of_mem_drop h9))
        first | rw [hD'] | rw [← hD'] at hren
        refine ⟨rfl, ⟨_, hren.1, ?_⟩, hren.2⟩
        rw [HIns.out]
        simp [stD]
    · go_enter Try.func16, Try.ntmps16
      go_upto_region 1 with fail
      rw [← hw1]
      clear hw1
      go_upto_region 2 with (go_at_call 35; refine HAt.out.mono ?_; rintro e w2 ⟨rfl, hb2⟩; have HG2 := keep hb2; clear hb2)
      have HG3 := keep (Grow.trans HG1.out HG2.out)
      obtain ⟨x0, x1, f0, f1⟩ := two_of (HX1.out.fits HG2.out)
      go_upto_region 6 with (at_builtin; go_must (refine wpList_append_src rfl _ _ 26 rfl w_.heap.size 3 iI (.int .i64 0) 1 8 Try.underlying26 hiI hzI0 hzI1 hzI2 rfl (by decide) _ 0 [] rfl (World.ownsRow_nil _ _ _ _) _ act.length (iCells act) rfl (HSv.out.fits HG3.out) (one_ints act) (by unfold maxLen; omega) (by omega) HG3.out.size ?_); intro v' wa hown hgrow'; have hgrow := (show World.grownBy _ wa none from hgrow'); clear hgrow'; rw [Nat.zero_add, List.nil_append] at hown; obtain ⟨a2, c2, rfl⟩ := own_form hown; have HAv := keep (own_rowO hown); have HGa := keep (Below.grown HG3.out hgrow HG3.out.size (fun g e => by cases e)); have hxa := (by have h9 := hgrow.block w_.heap.size (HX1.out.fits HG2.out).lt (by simp); exact blk_keeps (HX1.out.fits HG2.out) h9 : Blk wa w_.heap.size 28 _); have HXa := keep hxa; clear hown hgrow hxa)
      clear x0 x1 f0 f1
      obtain ⟨x0, x1, f0, f1⟩ := two_of HXa.out
      go_upto_region 7 with fail
      obtain ⟨wb, hwb⟩ : ∃ wb, wb = wa.setCell ⟨w_.heap.size, 1, none⟩ (.slice a2 act.length c2) := ⟨_, rfl⟩
      have hbutb : But w_.heap.size wa wb := by subst hwb; exact (But.refl _ _).setCell 1 _
      have HXb := keep (show Blk wb w_.heap.size 28 [.int .i64 next, .slice a2 act.length c2] from by subst hwb; exact HXa.out.set 1 _)
      rw [← hwb]
      have HGb := keep (But.below HGa.out hbutb (Nat.le_refl _) HGa.out.size)
      have HAv2 := keep (rowO_butG HAv.out (fun cs f e => by have h9 := HXa.out; unfold Blk at h9; rw [h9] at e; cases e) hbutb)
      clear hwb hbutb x0 x1 f0 f1
      have hbb := HBw.out.fits HGb.out
      have c0b := hbb.cell 0 (by simp)
      simp only [List.getElem_cons_zero] at c0b
      clear hbb
      go_upto_region 9 with (at_builtin; go_must (refine wpList_append_src rfl _ _ 71 rfl w_.heap.size 78 iR (.agg #[.int .i64 0, .int .i64 0, .slice none 0 0, .int .i64 0, .int .i64 0, .int .i64 0, .int .i64 0]) 7 72 Try.underlying71 hiR hzR0 hzR1 hzR2 rfl (by decide) (Value.slice none 0 0) 0 [] rfl (World.ownsRow_nil _ _ _ _) _ i (drS (D.take i)) rfl (src_lo (own_keeps HHg.out fun q _ hl => HGb.out.block q hl) i hi) (one_drs fun p hp => HSl.out p (List.mem_of_mem_take hp)) (by unfold maxLen; omega) (by omega) HGb.out.size ?_); intro v' wc hown hgrow'; have hgrow := (show World.grownBy _ wc none from hgrow'); clear hgrow'; rw [Nat.zero_add, List.nil_append] at hown; obtain ⟨a1, c1, rfl⟩ := own_form hown; have HL1 := keep hown; have HGc := keep (Below.grown HGb.out hgrow HGb.out.size (fun g e => by cases e)); have HAv3 := keep (rowO_grown HAv2.out (World.ownsRow_nil wb w_.heap.size 78 7) (by decide) hgrow); have hxc := (by have h9 := hgrow.block w_.heap.size HXb.out.lt (by simp); exact blk_keeps HXb.out h9 : Blk wc w_.heap.size 28 _); have HXc := keep hxc; obtain ⟨y0, y1, -⟩ := two_of hxc; clear hown hgrow hxc)
      clear c0b
      go_upto_region 10 with (at_builtin; go_must (refine wpList_append_src rfl _ _ 71 rfl w_.heap.size 78 iR (.agg #[.int .i64 0, .int .i64 0, .slice none 0 0, .int .i64 0, .int .i64 0, .int .i64 0, .int .i64 0]) 7 72 Try.underlying71 hiR hzR0 hzR1 hzR2 rfl (by decide) (Value.slice a1 i c1) i (drS (D.take i)) rfl (HL1.out.alloc _) _ 1 [Value.int .i64 who, Value.int .i64 next, Value.slice a2 act.length c2, Value.int .i64 0, Value.int .i64 0, Value.int .i64 0, Value.int .i64 0] rfl (src_new wc 78 7 _ [Value.int .i64 who, Value.int .i64 next, Value.slice a2 act.length c2, Value.int .i64 0, Value.int .i64 0, Value.int .i64 0, Value.int .i64 0] rfl) (by intro u hu; simp at hu; rcases hu with rfl | rfl | rfl | rfl | rfl | rfl | rfl <;> rfl) (by unfold maxLen; omega) (by omega) (by have := HGc.out.size; simp; omega) ?_); intro v' we hown hgrow; obtain ⟨a3, c3, rfl⟩ := own_form hown; have HL2 := keep hown; have HGe := keep (Below.grown (Below.alloc HGc.out HGc.out.size _) hgrow (by have := HGc.out.size; simp; omega) (fun g e => (HL1.out.lt g e).1)); have HAv4 := keep (rowO_grown (HAv3.out.alloc _) (HL1.out.alloc _) (by decide) hgrow); have hbe := HBw.out.fits HGe.out; have c0e := hbe.cell 0 (by simp); simp only [List.getElem_cons_zero] at c0e; clear hown hgrow hbe)
      clear y0 y1
      go_wp2_with (at_builtin; go_must (refine wpList_append_src rfl _ _ 71 rfl w_.heap.size 78 iR (.agg #[.int .i64 0, .int .i64 0, .slice none 0 0, .int .i64 0, .int .i64 0, .int .i64 0, .int .i64 0]) 7 72 Try.underlying71 hiR hzR0 hzR1 hzR2 rfl (by decide) (Value.slice a3 (i + 1) c3) (i + 1) ((drS (D.take i)) ++ [Value.int .i64 who, Value.int .i64 next, Value.slice a2 act.length c2, Value.int .i64 0, Value.int .i64 0, Value.int .i64 0, Value.int .i64 0]) rfl HL2.out _ (D.length - i) (drS (D.drop i)) rfl (src_hi2 (own_keeps HHg.out fun q _ hl => HGe.out.block q hl) i _ hi hcap) (one_drs fun p hp => HSl.out p (List.mem_of_mem_drop hp)) (by unfold maxLen; omega) (by omega) HGe.out.size ?_); intro v' wf hown hgrow; obtain ⟨a4, c4, rfl⟩ := own_form hown; have HL3 := keep hown; have HGf := keep (Below.grown HGe.out hgrow HGe.out.size (fun g e => (HL2.out.lt g e).1)); have HAv5 := keep (rowO_grown HAv4.out HL2.out (by decide) hgrow); have hbf := HBw.out.fits HGf.out; have c0f := hbf.cell 0 (by simp); have f0f := hbf.free 0; simp only [List.getElem_cons_zero] at c0f; clear hown hgrow hbf)
      all_goals
        go_ret
        have hD' : i + 1 + (D.length - i) = ((D : Dr).take i ++ ((who, newT next act), Value.slice a2 act.length c2) :: (D : Dr).drop i).length := by simp; try omega
        have hL := HL3.out
        rw [hD', show (drS (D.take i)) ++ [Value.int .i64 who, Value.int .i64 next, Value.slice a2 act.length c2, Value.int .i64 0, Value.int .i64 0, Value.int .i64 0, Value.int .i64 0] ++ (drS (D.drop i)) = drS ((D : Dr).take i ++ ((who, newT next act), Value.slice a2 act.length c2) :: (D : Dr).drop i) by simp [drS, drC, newT]] at hL
        have hren := DocT.renew H0.out HOk.out HGf.out hL (fun p hp => by
          rcases List.mem_append.1 hp with h9 | h9
          · exact .inl (List.mem_of_mem_take h9)
          · rcases List.mem_cons.1 h9 with rfl | h9
            · exact .inr HAv5.out
            · exact .inl (List.mem_of_mem_drop h9))
        first | rw [hD'] | rw [← hD'] at hren
        refine ⟨rfl, ⟨_, hren.1, ?_⟩, hren.2⟩
        rw [HIns.out]
        simp [stD]

end Go.Proofs.Ytgijmlienolhpaa
