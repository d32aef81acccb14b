
import Derived.Test.YtikmkimkhngihaaGreatKVr2
/- The document's record of what is frozen and taken off. -/
namespace Go.Proofs.YtikmkimkhngihaaGreat
open Go.RowKit

theorem rowS_rec {w w' : World} {b n : Nat} {v : Value} {cs cs' : List Value} (h : RowS w 3 v n cs) (hb : Blk w b 47 cs') (k : But b w w') : RowS w' 3 v n cs := by
  refine RowS.but h k ?_
  intro blk f e
  unfold Blk at hb
  rw [hb] at e
  simp at e
set_option maxRecDepth 100000 in
set_option maxHeartbeats 4000000 in
theorem rfreeze_any (pg : Int) (k : Wk) (fv ov gv : Value) (w_ : World) (h : WkIn w_ k fv ov gv) (hf : (k.fr.length : Int) ≤ 8796093022208) (ho : (k.off.length : Int) ≤ 8796093022208) :
    Calls Tryz.prog 10 #[.int .i64 pg, .agg #[fv, ov, gv]] w_ (if k.fr = [] ∧ k.off = [] then RecPost 0 0 false [] [] w_ else RecPost 10 pg true k.fr k.off w_) := by
  obtain ⟨w0, hw0⟩ : ∃ w0, w0 = (w_.alloc (.cells #[fv, ov, gv] 39)).alloc (.cells #[.int .i64 0, .int .i64 0, .int .i64 0, .int .u8 0, .int .i64 0, .int .i64 0, .int .i64 0, .int .i64 0, .int .i64 0, .int .i64 0, .string ⟨#[]⟩, .slice none 0 0, .slice none 0 0, .slice none 0 0, .slice none 0 0, .slice none 0 0] 47) := ⟨_, rfl⟩
  obtain ⟨hg0, hK0, hR0, hz0⟩ := wk_new fv ov gv w_ w0 hw0
  have hF := h.fr
  have hO := h.off
  obtain ⟨fa, fc, rfl⟩ := row_slice hF
  obtain ⟨oa, oc, rfl⟩ := row_slice hO
  obtain ⟨ga, gc, rfl⟩ := row_slice h.gone
  have HF := keep hF
  have HO := keep hO
  have HFl := keep hf
  have HOl := keep ho
  have HR0 := keep hR0
  have HG0 := keep hg0
  have k0 := hK0.cell 0 (by simp)
  have k1 := hK0.cell 1 (by simp)
  simp only [List.getElem_cons_zero, List.getElem_cons_succ] at k0 k1
  by_cases hE : k.fr = [] ∧ k.off = []
  · rw [if_pos hE]
    have e1 : k.fr.length = 0 := by rw [hE.1]; rfl
    have e2 : k.off.length = 0 := by rw [hE.2]; rfl
    rw [e1] at k0 hw0 ⊢
    rw [e2] at k1 hw0 ⊢
    clear hF hO h hf ho hE e1 e2 hg0 hR0 hK0 HF HO HFl HOl
    go_enter Tryz.func10, Tryz.ntmps10
    go_upto_region 1 with fail
    rw [← hw0]
    clear hw0
    go_wp2_with ((refine wpList_store_rec rfl _ _ rfl (w_.heap.size + 1) [.int .i64 0, .int .i64 0, .int .i64 0, .int .u8 0, .int .i64 0, .int .i64 0, .int .i64 0, .int .i64 0, .int .i64 0, .int .i64 0, .string ⟨#[]⟩, .slice none 0 0, .slice none 0 0, .slice none 0 0, .slice none 0 0, .slice none 0 0] rfl rfl HR0.out rfl rfl rfl ?_); intro wz hset hbz; have Hset := keep hset; have Hbut := keep hbz; clear hset hbz)
    refine bodyPost_ret (v := .tuple #[recR 0 0 (.slice none 0 0) (.slice none 0 0), .bool false]) ?_ rfl ⟨_, _, rfl, Row.nil _ _ _ _, Row.nil _ _ _ _, But.below HG0.out Hbut.out (by omega) (by omega)⟩
    exact rfrz_res _ _ _ 0 0 _ _ false rfl rfl Hset.out
  · rw [if_neg hE]
    obtain ⟨w1, hw1⟩ : ∃ w1, w1 = w0.alloc (.cells #[.int .i64 0, .int .i64 0, .int .i64 0, .int .u8 10, .int .i64 0, .int .i64 pg, .int .i64 0, .int .i64 0, .int .i64 0, .int .i64 0, .string ⟨#[]⟩, .slice none 0 0, .slice none 0 0, .slice none 0 0, .slice none 0 0, .slice none 0 0] 47) := ⟨_, rfl⟩
    have HT1 := keep (show Blk w1 (w_.heap.size + 2) 47 [.int .i64 0, .int .i64 0, .int .i64 0, .int .u8 10, .int .i64 0, .int .i64 pg, .int .i64 0, .int .i64 0, .int .i64 0, .int .i64 0, .string ⟨#[]⟩, .slice none 0 0, .slice none 0 0, .slice none 0 0, .slice none 0 0, .slice none 0 0] from by
      have := Blk.new w0 47 [.int .i64 0, .int .i64 0, .int .i64 0, .int .u8 10, .int .i64 0, .int .i64 pg, .int .i64 0, .int .i64 0, .int .i64 0, .int .i64 0, .string ⟨#[]⟩, .slice none 0 0, .slice none 0 0, .slice none 0 0, .slice none 0 0, .slice none 0 0]
      rw [hz0] at this
      subst hw1; exact this)
    have HG1 := keep (show Grow w0 w1 from by subst hw1; exact (Grow.refl w0).alloc _)
    have HK0 := keep hK0
    clear hF hO h hf ho hg0 hR0 hK0
    by_cases h1 : k.fr.length = 0
    · have h2 : ¬ k.off.length = 0 := fun h2 => hE ⟨List.eq_nil_of_length_eq_zero h1, List.eq_nil_of_length_eq_zero h2⟩
      have q1 : ((k.fr.length : Int) == 0) = true := by rw [h1]; rfl
      have q2 : ((k.off.length : Int) == 0) = false := by rw [beq_eq_false_iff_ne]; omega
      clear h1 h2 hE
      go_enter Tryz.func10, Tryz.ntmps10
      go_upto_region 1 with fail
      rw [← hw0]
      clear hw0
      go_upto_region 4 with fail
      rw [← hw1]
      clear hw1 q1 q2 k0 k1
      obtain ⟨⟨t0, t1, t2, t3, t4, t5, t6, t7, t8, t9, t10, t11, t12, t13, t14, t15⟩, ft⟩ := recres HT1.out
      have hK1 := HK0.out.fits HG1.out
      have k0 := hK1.cell 0 (by simp)
      have k1 := hK1.cell 1 (by simp)
      simp only [List.getElem_cons_zero, List.getElem_cons_succ] at k0 k1
      go_upto_region 5 with ((at_builtin; go_must (refine wpList_iapp rfl _ _ rfl w1.heap.size [] k.fr _ _ rfl rfl (World.ownsRow_nil _ _ _ _) (HF.out.fits (Grow.trans HG0.out HG1.out)) (by have := HFl.out; simp; omega) (Nat.le_refl _) ?_); intro ba bc w2 ho2 hb2; have HO2 := keep (own_row ho2); have hT2 := HT1.out.fits hb2; have HT2 := keep hT2; have HG2 := keep hb2; obtain ⟨⟨v0, v1, v2, v3, v4, v5, v6, v7, v8, v9, v10, v11, v12, v13, v14, v15⟩, fv⟩ := recres hT2; clear ho2 hb2 hT2))
      clear t0 t1 t2 t3 t4 t5 t6 t7 t8 t9 t10 t11 t12 t13 t14 t15 ft v0 v1 v2 v3 v4 v5 v6 v7 v8 v9 v10 v11 v12 v13 v14 v15 fv k0 k1 hK1
      have hT3 := HT2.out.set 11 (.slice ba k.fr.length bc)
      have hU3 := (But.refl (w_.heap.size + 2) w2).setCell 11 (.slice ba k.fr.length bc)
      have hz2 := HG2.out.size
      have hz1 := HT1.out.lt
      have HG3 := keep (But.below (Below.trans HG1.out (Below.mono HG2.out (by omega))) hU3 (by omega) (by omega))
      have HR3 := keep (rowS_rec HO2.out HT2.out hU3)
      generalize w2.setCell ⟨w_.heap.size + 2, 11, none⟩ (.slice ba k.fr.length bc) = w3 at *
      have HT3 := keep (show Blk w3 (w_.heap.size + 2) 47 [.int .i64 0, .int .i64 0, .int .i64 0, .int .u8 10, .int .i64 0, .int .i64 pg, .int .i64 0, .int .i64 0, .int .i64 0, .int .i64 0, .string ⟨#[]⟩, .slice ba k.fr.length bc, .slice none 0 0, .slice none 0 0, .slice none 0 0, .slice none 0 0] from hT3)
      clear hT3 hU3 HO2 HT2 HG2
      obtain ⟨⟨t0, t1, t2, t3, t4, t5, t6, t7, t8, t9, t10, t11, t12, t13, t14, t15⟩, ft⟩ := recres HT3.out
      have hK1 := HK0.out.fits HG3.out
      have k0 := hK1.cell 0 (by simp)
      have k1 := hK1.cell 1 (by simp)
      simp only [List.getElem_cons_zero, List.getElem_cons_succ] at k0 k1
      go_upto_region 6 with ((at_builtin; go_must (refine wpList_iapp rfl _ _ rfl w3.heap.size [] k.off _ _ rfl rfl (World.ownsRow_nil _ _ _ _) (HO.out.fits (Grow.trans HG0.out HG3.out)) (by have := HOl.out; simp; omega) (Nat.le_refl _) ?_); intro ca cc w4 ho4 hb4; have HO4 := keep (own_row ho4); have hT4 := HT3.out.fits hb4; have HT4 := keep hT4; have HG4 := keep hb4; obtain ⟨⟨v0, v1, v2, v3, v4, v5, v6, v7, v8, v9, v10, v11, v12, v13, v14, v15⟩, fv⟩ := recres hT4; clear ho4 hb4 hT4))
      clear t0 t1 t2 t3 t4 t5 t6 t7 t8 t9 t10 t11 t12 t13 t14 t15 ft v0 v1 v2 v3 v4 v5 v6 v7 v8 v9 v10 v11 v12 v13 v14 v15 fv k0 k1 hK1
      have hT5 := HT4.out.set 12 (.slice ca k.off.length cc)
      have hU5 := (But.refl (w_.heap.size + 2) w4).setCell 12 (.slice ca k.off.length cc)
      have hz4 := HG4.out.size
      have hz3 := HG3.out.size
      have HG5 := keep (But.below (Below.trans HG3.out (Below.mono HG4.out (by omega))) hU5 (by omega) (by omega))
      have HR5 := keep (rowS_rec (RowS.fits HR3.out HG4.out) HT4.out hU5)
      have HQ5 := keep (rowS_rec HO4.out HT4.out hU5)
      generalize w4.setCell ⟨w_.heap.size + 2, 12, none⟩ (.slice ca k.off.length cc) = w5 at *
      have HT5 := keep (show Blk w5 (w_.heap.size + 2) 47 [.int .i64 0, .int .i64 0, .int .i64 0, .int .u8 10, .int .i64 0, .int .i64 pg, .int .i64 0, .int .i64 0, .int .i64 0, .int .i64 0, .string ⟨#[]⟩, .slice ba k.fr.length bc, .slice ca k.off.length cc, .slice none 0 0, .slice none 0 0, .slice none 0 0] from hT5)
      clear hT5 hU5 HO4 HT4 HG4 HR3
      have HRx := keep (HR0.out.fits HG5.out)
      have hz5 := HG5.out.size
      go_wp2_with (first | (refine wpList_load_rec rfl _ rfl (w_.heap.size + 2) rfl HT5.out rfl ?_) | ((refine wpList_store_rec rfl _ _ rfl (w_.heap.size + 1) [.int .i64 0, .int .i64 0, .int .i64 0, .int .u8 10, .int .i64 0, .int .i64 pg, .int .i64 0, .int .i64 0, .int .i64 0, .int .i64 0, .string ⟨#[]⟩, .slice ba k.fr.length bc, .slice ca k.off.length cc, .slice none 0 0, .slice none 0 0, .slice none 0 0] rfl rfl HRx.out rfl rfl rfl ?_); intro wz hset hbz; have Hset := keep hset; have Hbut := keep hbz; clear hset hbz))
      refine bodyPost_ret (v := .tuple #[recR 10 pg (.slice ba k.fr.length bc) (.slice ca k.off.length cc), .bool true]) ?_ rfl ⟨_, _, rfl, (rowS_rec HR5.out HRx.out Hbut.out).weak, (rowS_rec HQ5.out HRx.out Hbut.out).weak, But.below (Grow.trans HG0.out HG5.out) Hbut.out (by omega) (by omega)⟩
      exact rfrz_res _ _ _ 10 pg _ _ true rfl rfl Hset.out
    · have q1 : ((k.fr.length : Int) == 0) = false := by rw [beq_eq_false_iff_ne]; omega
      clear h1 hE
      go_enter Tryz.func10, Tryz.ntmps10
      go_upto_region 1 with fail
      rw [← hw0]
      clear hw0
      go_upto_region 4 with fail
      rw [← hw1]
      clear hw1 q1 k0 k1
      obtain ⟨⟨t0, t1, t2, t3, t4, t5, t6, t7, t8, t9, t10, t11, t12, t13, t14, t15⟩, ft⟩ := recres HT1.out
      have hK1 := HK0.out.fits HG1.out
      have k0 := hK1.cell 0 (by simp)
      have k1 := hK1.cell 1 (by simp)
      simp only [List.getElem_cons_zero, List.getElem_cons_succ] at k0 k1
      go_upto_region 5 with ((at_builtin; go_must (refine wpList_iapp rfl _ _ rfl w1.heap.size [] k.fr _ _ rfl rfl (World.ownsRow_nil _ _ _ _) (HF.out.fits (Grow.trans HG0.out HG1.out)) (by have := HFl.out; simp; omega) (Nat.le_refl _) ?_); intro ba bc w2 ho2 hb2; have HO2 := keep (own_row ho2); have hT2 := HT1.out.fits hb2; have HT2 := keep hT2; have HG2 := keep hb2; obtain ⟨⟨v0, v1, v2, v3, v4, v5, v6, v7, v8, v9, v10, v11, v12, v13, v14, v15⟩, fv⟩ := recres hT2; clear ho2 hb2 hT2))
      clear t0 t1 t2 t3 t4 t5 t6 t7 t8 t9 t10 t11 t12 t13 t14 t15 ft v0 v1 v2 v3 v4 v5 v6 v7 v8 v9 v10 v11 v12 v13 v14 v15 fv k0 k1 hK1
      have hT3 := HT2.out.set 11 (.slice ba k.fr.length bc)
      have hU3 := (But.refl (w_.heap.size + 2) w2).setCell 11 (.slice ba k.fr.length bc)
      have hz2 := HG2.out.size
      have hz1 := HT1.out.lt
      have HG3 := keep (But.below (Below.trans HG1.out (Below.mono HG2.out (by omega))) hU3 (by omega) (by omega))
      have HR3 := keep (rowS_rec HO2.out HT2.out hU3)
      generalize w2.setCell ⟨w_.heap.size + 2, 11, none⟩ (.slice ba k.fr.length bc) = w3 at *
      have HT3 := keep (show Blk w3 (w_.heap.size + 2) 47 [.int .i64 0, .int .i64 0, .int .i64 0, .int .u8 10, .int .i64 0, .int .i64 pg, .int .i64 0, .int .i64 0, .int .i64 0, .int .i64 0, .string ⟨#[]⟩, .slice ba k.fr.length bc, .slice none 0 0, .slice none 0 0, .slice none 0 0, .slice none 0 0] from hT3)
      clear hT3 hU3 HO2 HT2 HG2
      obtain ⟨⟨t0, t1, t2, t3, t4, t5, t6, t7, t8, t9, t10, t11, t12, t13, t14, t15⟩, ft⟩ := recres HT3.out
      have hK1 := HK0.out.fits HG3.out
      have k0 := hK1.cell 0 (by simp)
      have k1 := hK1.cell 1 (by simp)
      simp only [List.getElem_cons_zero, List.getElem_cons_succ] at k0 k1
      go_upto_region 6 with ((at_builtin; go_must (refine wpList_iapp rfl _ _ rfl w3.heap.size [] k.off _ _ rfl rfl (World.ownsRow_nil _ _ _ _) (HO.out.fits (Grow.trans HG0.out HG3.out)) (by have := HOl.out; simp; omega) (Nat.le_refl _) ?_); intro ca cc w4 ho4 hb4; have HO4 := keep (own_row ho4); have hT4 := HT3.out.fits hb4; have HT4 := keep hT4; have HG4 := keep hb4; obtain ⟨⟨v0, v1, v2, v3, v4, v5, v6, v7, v8, v9, v10, v11, v12, v13, v14, v15⟩, fv⟩ := recres hT4; clear ho4 hb4 hT4))
      clear t0 t1 t2 t3 t4 t5 t6 t7 t8 t9 t10 t11 t12 t13 t14 t15 ft v0 v1 v2 v3 v4 v5 v6 v7 v8 v9 v10 v11 v12 v13 v14 v15 fv k0 k1 hK1
      have hT5 := HT4.out.set 12 (.slice ca k.off.length cc)
      have hU5 := (But.refl (w_.heap.size + 2) w4).setCell 12 (.slice ca k.off.length cc)
      have hz4 := HG4.out.size
      have hz3 := HG3.out.size
      have HG5 := keep (But.below (Below.trans HG3.out (Below.mono HG4.out (by omega))) hU5 (by omega) (by omega))
      have HR5 := keep (rowS_rec (RowS.fits HR3.out HG4.out) HT4.out hU5)
      have HQ5 := keep (rowS_rec HO4.out HT4.out hU5)
      generalize w4.setCell ⟨w_.heap.size + 2, 12, none⟩ (.slice ca k.off.length cc) = w5 at *
      have HT5 := keep (show Blk w5 (w_.heap.size + 2) 47 [.int .i64 0, .int .i64 0, .int .i64 0, .int .u8 10, .int .i64 0, .int .i64 pg, .int .i64 0, .int .i64 0, .int .i64 0, .int .i64 0, .string ⟨#[]⟩, .slice ba k.fr.length bc, .slice ca k.off.length cc, .slice none 0 0, .slice none 0 0, .slice none 0 0] from hT5)
      clear hT5 hU5 HO4 HT4 HG4 HR3
      have HRx := keep (HR0.out.fits HG5.out)
      have hz5 := HG5.out.size
      go_wp2_with (first | (refine wpList_load_rec rfl _ rfl (w_.heap.size + 2) rfl HT5.out rfl ?_) | ((refine wpList_store_rec rfl _ _ rfl (w_.heap.size + 1) [.int .i64 0, .int .i64 0, .int .i64 0, .int .u8 10, .int .i64 0, .int .i64 pg, .int .i64 0, .int .i64 0, .int .i64 0, .int .i64 0, .string ⟨#[]⟩, .slice ba k.fr.length bc, .slice ca k.off.length cc, .slice none 0 0, .slice none 0 0, .slice none 0 0] rfl rfl HRx.out rfl rfl rfl ?_); intro wz hset hbz; have Hset := keep hset; have Hbut := keep hbz; clear hset hbz))
      refine bodyPost_ret (v := .tuple #[recR 10 pg (.slice ba k.fr.length bc) (.slice ca k.off.length cc), .bool true]) ?_ rfl ⟨_, _, rfl, (rowS_rec HR5.out HRx.out Hbut.out).weak, (rowS_rec HQ5.out HRx.out Hbut.out).weak, But.below (Grow.trans HG0.out HG5.out) Hbut.out (by omega) (by omega)⟩
      exact rfrz_res _ _ _ 10 pg _ _ true rfl rfl Hset.out

end Go.Proofs.YtikmkimkhngihaaGreat
