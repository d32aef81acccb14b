
import Derived.Test.YtikmkimkhngihaaGreatKVr3
import Derived.Test.YtikmkimkhngihaaGreatKVr4
/- The program's record of what is frozen and taken off. -/
namespace Go.Proofs.YtikmkimkhngihaaGreat
open Go.RowKit
attribute [local go_sem] givesF_none givesF_some evalF_tmp evalF_const evalF_global evalF_func lookL isB_bool isB_undef givesUpon_value givesUpon_skip givesUpon_enter

theorem rows_slice {w : World} {t n : Nat} {v : Value} {cs : List Value} (h : RowS w t v n cs) : ∃ a cap, v = .slice a n cap := row_slice h.weak

theorem set16 {w : World} {b t : Nat} {a0 a1 a2 a3 a4 a5 a6 a7 a8 a9 a10 a11 a12 a13 a14 a15 : Value} (h : Blk w b t [a0, a1, a2, a3, a4, a5, a6, a7, a8, a9, a10, a11, a12, a13, a14, a15]) (v0 v1 v2 v3 v4 v5 v6 v7 v8 v9 v10 v11 v12 v13 v14 v15 : Value) :
    Blk ((((((((((((((((w.setCell ⟨b, 0, none⟩ v0).setCell ⟨b, 1, none⟩ v1).setCell ⟨b, 2, none⟩ v2).setCell ⟨b, 3, none⟩ v3).setCell ⟨b, 4, none⟩ v4).setCell ⟨b, 5, none⟩ v5).setCell ⟨b, 6, none⟩ v6).setCell ⟨b, 7, none⟩ v7).setCell ⟨b, 8, none⟩ v8).setCell ⟨b, 9, none⟩ v9).setCell ⟨b, 10, none⟩ v10).setCell ⟨b, 11, none⟩ v11).setCell ⟨b, 12, none⟩ v12).setCell ⟨b, 13, none⟩ v13).setCell ⟨b, 14, none⟩ v14).setCell ⟨b, 15, none⟩ v15) b t [v0, v1, v2, v3, v4, v5, v6, v7, v8, v9, v10, v11, v12, v13, v14, v15] := ((((((((((((((((h.set 0 v0).set 1 v1).set 2 v2).set 3 v3).set 4 v4).set 5 v5).set 6 v6).set 7 v7).set 8 v8).set 9 v9).set 10 v10).set 11 v11).set 12 v12).set 13 v13).set 14 v14).set 15 v15)
theorem but16 (w : World) (b : Nat) (v0 v1 v2 v3 v4 v5 v6 v7 v8 v9 v10 v11 v12 v13 v14 v15 : Value) : But b w ((((((((((((((((w.setCell ⟨b, 0, none⟩ v0).setCell ⟨b, 1, none⟩ v1).setCell ⟨b, 2, none⟩ v2).setCell ⟨b, 3, none⟩ v3).setCell ⟨b, 4, none⟩ v4).setCell ⟨b, 5, none⟩ v5).setCell ⟨b, 6, none⟩ v6).setCell ⟨b, 7, none⟩ v7).setCell ⟨b, 8, none⟩ v8).setCell ⟨b, 9, none⟩ v9).setCell ⟨b, 10, none⟩ v10).setCell ⟨b, 11, none⟩ v11).setCell ⟨b, 12, none⟩ v12).setCell ⟨b, 13, none⟩ v13).setCell ⟨b, 14, none⟩ v14).setCell ⟨b, 15, none⟩ v15) := (((((((((((((((((But.refl b w).setCell 0 v0).setCell 1 v1).setCell 2 v2).setCell 3 v3).setCell 4 v4).setCell 5 v5).setCell 6 v6).setCell 7 v7).setCell 8 v8).setCell 9 v9).setCell 10 v10).setCell 11 v11).setCell 12 v12).setCell 13 v13).setCell 14 v14).setCell 15 v15)

set_option maxRecDepth 100000 in
set_option maxHeartbeats 4000000 in
theorem freeze_any (pg : Int) (k : Wk) (fv ov gv : Value) (w_ : World) (h : WkIn w_ k fv ov gv) (hf : (k.fr.length : Int) ≤ 8796093022208) (ho : (k.off.length : Int) ≤ 8796093022208) :
    Calls Tryz.prog 9 #[.int .i64 pg, .agg #[fv, ov, gv]] w_ (if k.fr = [] ∧ k.off = [] then RecPost 0 0 false [] [] w_ else RecPost 10 pg true k.fr k.off w_) := by
  obtain ⟨w0, hw0⟩ : ∃ w0, w0 = (w_.alloc (.cells #[fv, ov, gv] 39)).alloc (.cells #[.int .i64 0, .int .i64 0, .int .i64 0, .int .u8 0, .int .i64 0, .int .i64 0, .int .i64 0, .int .i64 0, .int .i64 0, .int .i64 0, .string ⟨#[]⟩, .slice none 0 0, .slice none 0 0, .slice none 0 0, .slice none 0 0, .slice none 0 0] 47) := ⟨_, rfl⟩
  obtain ⟨hg0, hK0, hR0, hz0⟩ := wk_new fv ov gv w_ w0 hw0
  have hF := h.fr
  have hO := h.off
  obtain ⟨fa, fc, rfl⟩ := row_slice hF
  obtain ⟨oa, oc, rfl⟩ := row_slice hO
  obtain ⟨ga, gc, rfl⟩ := row_slice h.gone
  have HF := keep hF
  have HO := keep hO
  have HFl := keep hf
  have HOl := keep ho
  have HR0 := keep hR0
  have HG0 := keep hg0
  have k0 := hK0.cell 0 (by simp)
  have k1 := hK0.cell 1 (by simp)
  simp only [List.getElem_cons_zero, List.getElem_cons_succ] at k0 k1
  by_cases hE : k.fr = [] ∧ k.off = []
  · rw [if_pos hE]
    have e1 : k.fr.length = 0 := by rw [hE.1]; rfl
    have e2 : k.off.length = 0 := by rw [hE.2]; rfl
    rw [e1] at k0 hw0 ⊢
    rw [e2] at k1 hw0 ⊢
    clear hF hO h hf ho hE e1 e2 hg0 hR0 hK0 HF HO HFl HOl
    go_enter Tryz.func9, Tryz.ntmps9
    go_upto_region 1 with fail
    rw [← hw0]
    clear hw0
    go_wp2_with ((refine wpList_store_rec rfl _ _ rfl (w_.heap.size + 1) [.int .i64 0, .int .i64 0, .int .i64 0, .int .u8 0, .int .i64 0, .int .i64 0, .int .i64 0, .int .i64 0, .int .i64 0, .int .i64 0, .string ⟨#[]⟩, .slice none 0 0, .slice none 0 0, .slice none 0 0, .slice none 0 0, .slice none 0 0] rfl rfl HR0.out rfl rfl rfl ?_); intro wz hset hbz; have Hset := keep hset; have Hbut := keep hbz; clear hset hbz)
    refine bodyPost_ret (v := .tuple #[recR 0 0 (.slice none 0 0) (.slice none 0 0), .bool false]) ?_ rfl ⟨_, _, rfl, Row.nil _ _ _ _, Row.nil _ _ _ _, But.below HG0.out Hbut.out (by omega) (by omega)⟩
    exact frz_res _ _ _ 0 0 _ _ false rfl rfl Hset.out
  · rw [if_neg hE]
    have hs : ¬ (k.fr.length : Int) + (k.off.length : Int) = 0 := by
      intro h0
      exact hE ⟨List.eq_nil_of_length_eq_zero (by omega), List.eq_nil_of_length_eq_zero (by omega)⟩
    have q1 : ((k.fr.length : Int) + (k.off.length : Int) == 0) = false := by rw [beq_eq_false_iff_ne]; exact hs
    have HK0 := keep hK0
    clear hF hO h hg0 hR0 hK0 hE
    go_enter Tryz.func9, Tryz.ntmps9
    go_upto_region 1 with fail
    rw [← hw0]
    clear hw0
    go_upto_region 3 with fail
    clear k0 k1 q1 hs hf ho
    refine wp_region_grow_named (by kernel_rfl) 8 (by kernel_rfl) [(15, 0), (16, 1), (17, 2), (18, 3), (19, 4), (20, 5), (21, 6), (22, 7)] (by kernel_rfl) [(0, true), (1, true), (2, true), (3, true), (4, true), (5, true), (6, true), (7, true)] (by kernel_rfl) rfl rfl ?_
    intro a0 ha0
    have hsz : a0.tmps.size = 23 := (size_at ha0).trans rfl
    have s0 := slot_at ha0 0 rfl
    have s3 := slot_at ha0 3 rfl
    have HA0 := keep ha0
    clear ha0
    -- operation 0
    apply lexf_eq hsz [] [(16, 1), (17, 2), (18, 3), (19, 4), (20, 5), (21, 6)] none (by kernel_rfl) (by kernel_rfl) (by kernel_rfl) (by kernel_rfl) rfl
    · intro xs w hw hp K hK
      go_simp
      exact hK _ (Grow.refl _)
    -- operation 1
    apply lexf_eq hsz [] [(15, 0), (18, 3), (19, 4), (20, 5), (21, 6), (22, 7)] none (by kernel_rfl) (by kernel_rfl) (by kernel_rfl) (by kernel_rfl) rfl
    · intro xs w hw hp K hK
      go_simp
      exact hK _ (Grow.refl _)
    -- operation 2
    apply lexf_eq hsz [(1, true)] [(15, 0), (16, 1), (19, 4), (20, 5), (21, 6), (22, 7)] none (by kernel_rfl) (by kernel_rfl) (by kernel_rfl) (by kernel_rfl) rfl
    · intro xs w hw hp K hK
      simp only [holdsL, List.nil_append, List.cons_append, List.getD_cons_succ, List.getD_cons_zero, if_true, and_true] at hp
      have hK1 := HK0.out.fits hw.undrew
      have k0 := hK1.cell 0 (by simp)
      have k1 := hK1.cell 1 (by simp)
      simp only [List.getElem_cons_zero, List.getElem_cons_succ] at k0 k1
      go_simp
      exact hK _ (Grow.refl _)
    -- operation 3
    refine lexf_says hsz (fun v u => RowS u 3 v k.fr.length (iCells k.fr)) (fun _ _ _ g h => RowS.fits h g) [(2, true)] [(15, 0), (16, 1), (17, 2), (19, 4), (20, 5)] none (by kernel_rfl) (by kernel_rfl) (by kernel_rfl) (by kernel_rfl) rfl ?_ ?_
    · intro xs w hw hp K hK
      simp only [holdsL, List.nil_append, List.cons_append, List.getD_cons_succ, List.getD_cons_zero, if_true, and_true] at hp
      go_simp
      exact (clones_any k.fr _ w (HF.out.fits (Grow.trans HG0.out hw.undrew)) HFl.out).mono fun e w' ⟨v', h1, h2, h3⟩ => ⟨v', h1, hK _ _ h2 h3⟩
    -- operation 4
    apply lexf_eq hsz [] [(15, 0), (16, 1), (17, 2), (18, 3), (21, 6), (22, 7)] none (by kernel_rfl) (by kernel_rfl) (by kernel_rfl) (by kernel_rfl) rfl
    · intro xs w hw hp K hK
      go_simp
      exact hK _ (Grow.refl _)
    -- operation 5
    apply lexf_eq hsz [(4, true)] [(15, 0), (16, 1), (17, 2), (18, 3), (19, 4), (22, 7)] none (by kernel_rfl) (by kernel_rfl) (by kernel_rfl) (by kernel_rfl) rfl
    · intro xs w hw hp K hK
      simp only [holdsL, List.nil_append, List.cons_append, List.getD_cons_succ, List.getD_cons_zero, if_true, and_true] at hp
      have hK1 := HK0.out.fits hw.undrew
      have k0 := hK1.cell 0 (by simp)
      have k1 := hK1.cell 1 (by simp)
      simp only [List.getElem_cons_zero, List.getElem_cons_succ] at k0 k1
      go_simp
      exact hK _ (Grow.refl _)
    -- operation 6
    refine lexf_says hsz (fun v u => RowS u 3 v k.off.length (iCells k.off)) (fun _ _ _ g h => RowS.fits h g) [(5, true)] [(15, 0), (16, 1), (17, 2), (18, 3), (19, 4), (20, 5)] none (by kernel_rfl) (by kernel_rfl) (by kernel_rfl) (by kernel_rfl) rfl ?_ ?_
    · intro xs w hw hp K hK
      simp only [holdsL, List.nil_append, List.cons_append, List.getD_cons_succ, List.getD_cons_zero, if_true, and_true] at hp
      go_simp
      exact (clones_any k.off _ w (HO.out.fits (Grow.trans HG0.out hw.undrew)) HOl.out).mono fun e w' ⟨v', h1, h2, h3⟩ => ⟨v', h1, hK _ _ h2 h3⟩
    -- operation 7
    refine lexf_says hsz (fun v u => ∃ (ba : Option Addr) (bc : Nat) (ca : Option Addr) (cc : Nat), v = .agg #[.int .i64 0, .int .i64 0, .int .i64 0, .int .u8 10, .int .i64 0, .int .i64 pg, .int .i64 0, .int .i64 0, .int .i64 0, .int .i64 0, .string ⟨#[]⟩, .slice ba k.fr.length bc, .slice ca k.off.length cc, .slice none 0 0, .slice none 0 0, .slice none 0 0] ∧ RowS u 3 (.slice ba k.fr.length bc) k.fr.length (iCells k.fr) ∧ RowS u 3 (.slice ca k.off.length cc) k.off.length (iCells k.off)) (fun _ _ _ g ⟨a1, a2, a3, a4, a5, a6, a7⟩ => ⟨a1, a2, a3, a4, a5, RowS.fits a6 g, RowS.fits a7 g⟩) [(0, true), (3, true), (6, true)] [(15, 0), (16, 1), (17, 2), (18, 3), (19, 4), (20, 5), (21, 6)] none (by kernel_rfl) (by kernel_rfl) (by kernel_rfl) (by kernel_rfl) rfl ?_ ?_
    · intro xs w hw hp K hK
      simp only [holdsL, List.nil_append, List.cons_append, List.getD_cons_succ, List.getD_cons_zero, if_true, and_true] at hp
      obtain ⟨hpa, hpb, hpc⟩ := hp
      obtain ⟨ba, bc, e3⟩ := rows_slice hpb
      obtain ⟨ca, cc, e6⟩ := rows_slice hpc
      rw [e3] at hpb
      rw [e6] at hpc
      go_simp
      exact hK _ _ ⟨ba, bc, ca, cc, rfl, hpb, hpc⟩ (Grow.refl _)
    intro xs w hw hp
    have ha0 := HA0.out
    clear HA0 hsz s0 s3
    simp only [holdsL, List.nil_append, List.cons_append, List.getD_cons_succ, List.getD_cons_zero, if_true, and_true] at hp
    have h7 := hp.2.2.2.2.2.2.2
    clear hp
    subst ha0
    simp only [putAll]
    obtain ⟨ba, bc, ca, cc, e7, h3, h6⟩ := h7
    simp only [e7]
    have hG := Grow.trans HG0.out hw.undrew
    have HRx := keep (HR0.out.fits hw.undrew)
    have hzw : w0.heap.size ≤ w.heap.size := hw.undrew.size
    have H3 := keep h3
    have H6 := keep h6
    clear hw h3 h6 e7
    have hrx := HRx.out
    obtain ⟨⟨r0, r1, r2, r3, r4, r5, r6, r7, r8, r9, r10, r11, r12, r13, r14, r15⟩, fr⟩ := recres hrx
    have g0 := fr 0
    have g1 := fr 1
    have g2 := fr 2
    have g3 := fr 3
    have g4 := fr 4
    have g5 := fr 5
    have g6 := fr 6
    have g7 := fr 7
    have g8 := fr 8
    have g9 := fr 9
    have g10 := fr 10
    have g11 := fr 11
    have g12 := fr 12
    have g13 := fr 13
    have g14 := fr 14
    have g15 := fr 15
    have Hset := keep (set16 hrx (.int .i64 0) (.int .i64 0) (.int .i64 0) (.int .u8 10) (.int .i64 0) (.int .i64 pg) (.int .i64 0) (.int .i64 0) (.int .i64 0) (.int .i64 0) (.string ⟨#[]⟩) (.slice ba k.fr.length bc) (.slice ca k.off.length cc) (.slice none 0 0) (.slice none 0 0) (.slice none 0 0))
    have Hbut := keep (but16 w (w_.heap.size + 1) (.int .i64 0) (.int .i64 0) (.int .i64 0) (.int .u8 10) (.int .i64 0) (.int .i64 pg) (.int .i64 0) (.int .i64 0) (.int .i64 0) (.int .i64 0) (.string ⟨#[]⟩) (.slice ba k.fr.length bc) (.slice ca k.off.length cc) (.slice none 0 0) (.slice none 0 0) (.slice none 0 0))
    clear hrx fr
    go_wp2_with fail
    refine bodyPost_ret (v := .tuple #[recR 10 pg (.slice ba k.fr.length bc) (.slice ca k.off.length cc), .bool true]) ?_ rfl ⟨_, _, rfl, (rowS_rec H3.out HRx.out Hbut.out).weak, (rowS_rec H6.out HRx.out Hbut.out).weak, But.below hG Hbut.out (by omega) (by omega)⟩
    exact frz_res _ _ _ 10 pg _ _ true rfl rfl Hset.out

end Go.Proofs.YtikmkimkhngihaaGreat
