import Derived.Test.YtmhepfehcakmjaaGreatKQVr3
import Derived.Test.YtmhepfehcakmjaaGreatKLexm
import Derived.Test.YtmhepfehcakmjaaGreatKLexk
import Derived.Test.YtmhepfehcakmjaaGreatKQVr4
namespace Go.Proofs.YtmhepfehcakmjaaGreat.Vac
open Go.RowKit
attribute [local go_sem] givesF_none givesF_some evalF_tmp evalF_const evalF_global evalF_func lookL isB_bool isB_undef givesUpon_value givesUpon_skip givesUpon_enter
theorem rows_slice {w : World} {t n : Nat} {v : Value} {cs : List Value} (h : RowS w t v n cs) : ∃ a cap, v = .slice a n cap := row_slice h.weak
theorem set16 {w : World} {b t : Nat} {a0 a1 a2 a3 a4 a5 a6 a7 a8 a9 a10 a11 a12 a13 a14 a15 : Value} (h : Blk w b t [a0, a1, a2, a3, a4, a5, a6, a7, a8, a9, a10, a11, a12, a13, a14, a15]) (v0 v1 v2 v3 v4 v5 v6 v7 v8 v9 v10 v11 v12 v13 v14 v15 : Value) :
  Blk ((((((((((((((((w.setCell ⟨b, 0, none⟩ v0).setCell ⟨b, 1, none⟩ v1).setCell ⟨b, 2, none⟩ v2).setCell ⟨b, 3, none⟩ v3).setCell ⟨b, 4, none⟩ v4).setCell ⟨b, 5, none⟩ v5).setCell ⟨b, 6, none⟩ v6).setCell ⟨b, 7, none⟩ v7).setCell ⟨b, 8, none⟩ v8).setCell ⟨b, 9, none⟩ v9).setCell ⟨b, 10, none⟩ v10).setCell ⟨b, 11, none⟩ v11).setCell ⟨b, 12, none⟩ v12).setCell ⟨b, 13, none⟩ v13).setCell ⟨b, 14, none⟩ v14).setCell ⟨b, 15, none⟩ v15) b t [v0, v1, v2, v3, v4, v5, v6, v7, v8, v9, v10, v11, v12, v13, v14, v15] := ((((((((((((((((h.set 0 v0).set 1 v1).set 2 v2).set 3 v3).set 4 v4).set 5 v5).set 6 v6).set 7 v7).set 8 v8).set 9 v9).set 10 v10).set 11 v11).set 12 v12).set 13 v13).set 14 v14).set 15 v15)
theorem but16 (w : World) (b : Nat) (v0 v1 v2 v3 v4 v5 v6 v7 v8 v9 v10 v11 v12 v13 v14 v15 : Value) : But b w ((((((((((((((((w.setCell ⟨b, 0, none⟩ v0).setCell ⟨b, 1, none⟩ v1).setCell ⟨b, 2, none⟩ v2).setCell ⟨b, 3, none⟩ v3).setCell ⟨b, 4, none⟩ v4).setCell ⟨b, 5, none⟩ v5).setCell ⟨b, 6, none⟩ v6).setCell ⟨b, 7, none⟩ v7).setCell ⟨b, 8, none⟩ v8).setCell ⟨b, 9, none⟩ v9).setCell ⟨b, 10, none⟩ v10).setCell ⟨b, 11, none⟩ v11).setCell ⟨b, 12, none⟩ v12).setCell ⟨b, 13, none⟩ v13).setCell ⟨b, 14, none⟩ v14).setCell ⟨b, 15, none⟩ v15) := (((((((((((((((((But.refl b w).setCell 0 v0).setCell 1 v1).setCell 2 v2).setCell 3 v3).setCell 4 v4).setCell 5 v5).setCell 6 v6).setCell 7 v7).setCell 8 v8).setCell 9 v9).setCell 10 v10).setCell 11 v11).setCell 12 v12).setCell 13 v13).setCell 14 v14).setCell 15 v15)
set_option maxRecDepth 100000 in
set_option maxHeartbeats 4000000 in
theorem freeze_any (pg : Int) (k : Wk) (fv ov gv : Value) (w_ : World) (h : WkIn w_ k fv ov gv) (hf : (k.fr.length : Int) ≤ 8796093022208) (ho : (k.off.length : Int) ≤ 8796093022208) :
  Calls Tryz.prog 21 #[.int .i64 pg, .agg #[fv, ov, gv]] w_ (if k.fr = [] ∧ k.off = [] then RecPost 0 0 false [] [] w_ else RecPost 10 pg true k.fr k.off w_) := by
 obtain ⟨w0, hw0⟩ : ∃ w0, w0 = (w_.alloc (.cells #[fv, ov, gv] 72)).alloc (.cells #[.int .i64 0, .int .i64 0, .int .i64 0, .int .u8 0, .int .i64 0, .int .i64 0, .int .i64 0, .int .i64 0, .int .i64 0, .int .i64 0, .string ⟨#[]⟩, .slice none 0 0, .slice none 0 0, .slice none 0 0, .slice none 0 0, .slice none 0 0] 33) := ⟨_, rfl⟩
 obtain ⟨hg0, hK0, hR0, hz0⟩ := wk_new fv ov gv w_ w0 hw0
 have hF := h.fr
 have hO := h.off
 obtain ⟨fa, fc, rfl⟩ := row_slice hF
 obtain ⟨oa, oc, rfl⟩ := row_slice hO
 obtain ⟨ga, gc, rfl⟩ := row_slice h.gone
 have HF := keep hF
 have HO := keep hO
 have HFl := keep hf
 have HOl := keep ho
 have HR0 := keep hR0
 have HG0 := keep hg0
 have k0 := hK0.cell 0 (by simp)
 have k1 := hK0.cell 1 (by simp)
 simp only [List.getElem_cons_zero, List.getElem_cons_succ] at k0 k1
 by_cases hE : k.fr = [] ∧ k.off = []
 ·rw [if_pos hE]
  have e1 : k.fr.length = 0 := by rw [hE.1]; rfl
  have e2 : k.off.length = 0 := by rw [hE.2]; rfl
  rw [e1] at k0 hw0 ⊢
  rw [e2] at k1 hw0 ⊢
  clear hF hO h hf ho hE e1 e2 hg0 hR0 hK0 HF HO HFl HOl
  go_enter Tryz.func21, Tryz.ntmps21
  go_upto_region 1 with fail
  rw [← hw0]
  clear hw0
  go_wp2_with ((refine wpList_store_rec rfl _ _ rfl (w_.heap.size + 1) [.int .i64 0, .int .i64 0, .int .i64 0, .int .u8 0, .int .i64 0, .int .i64 0, .int .i64 0, .int .i64 0, .int .i64 0, .int .i64 0, .string ⟨#[]⟩, .slice none 0 0, .slice none 0 0, .slice none 0 0, .slice none 0 0, .slice none 0 0] rfl rfl HR0.out rfl rfl rfl ?_); intro wz hset hbz; have Hset := keep hset; have Hbut := keep hbz; clear hset hbz)
  refine bodyPost_ret (v := .tuple #[recR 0 0 (.slice none 0 0) (.slice none 0 0), .bool false]) ?_ rfl ⟨_, _, rfl, RowS.nil _ _ _ _, RowS.nil _ _ _ _, But.below HG0.out Hbut.out (by omega) (by omega)⟩
  exact frz_res _ _ _ 0 0 _ _ false rfl rfl Hset.out
 ·rw [if_neg hE]
  have hs : ¬ (k.fr.length : Int) + (k.off.length : Int) = 0 := by
   intro h0
   exact hE ⟨List.eq_nil_of_length_eq_zero (by omega), List.eq_nil_of_length_eq_zero (by omega)⟩
  have q1 : ((k.fr.length : Int) + (k.off.length : Int) == 0) = false := by rw [beq_eq_false_iff_ne]; exact hs
  have HK0 := keep hK0
  clear hF hO h hg0 hR0 hK0 hE
  go_enter Tryz.func21, Tryz.ntmps21
  go_upto_region 1 with fail
  rw [← hw0]
  clear hw0
  go_upto_region 3 with fail
  clear k0 k1 q1 hs hf ho
  refine wp_region_grow_named (by kernel_rfl) 8 (by kernel_rfl) [(15, 0), (16, 1), (17, 2), (18, 3), (19, 4), (20, 5), (21, 6), (22, 7)] (by kernel_rfl) [(0, true), (1, true), (2, true), (3, true), (4, true), (5, true), (6, true), (7, true)] (by kernel_rfl) rfl rfl ?_
  intro a0 ha0
  have hsz : a0.tmps.size = 23 := (size_at ha0).trans rfl
  have s0 := slot_at ha0 0 rfl
  have s3 := slot_at ha0 3 rfl
  have HA0 := keep ha0
  clear ha0
  apply lq hsz [] [(16, 1), (17, 2), (18, 3), (19, 4), (20, 5), (21, 6)] none (by kernel_rfl) rfl
  ·intro xs w hw hp K hK
   go_simp
   exact hK _ (Grow.refl _)
  apply lq hsz [] [(15, 0), (18, 3), (19, 4), (20, 5), (21, 6), (22, 7)] none (by kernel_rfl) rfl
  ·intro xs w hw hp K hK
   go_simp
   exact hK _ (Grow.refl _)
  apply lq hsz [(1, true)] [(15, 0), (16, 1), (19, 4), (20, 5), (21, 6), (22, 7)] none (by kernel_rfl) rfl
  ·intro xs w hw hp K hK
   simp only [hz] at hp
   have hK1 := HK0.out.fits hw.undrew
   have k0 := hK1.cell 0 (by simp)
   have k1 := hK1.cell 1 (by simp)
   simp only [List.getElem_cons_zero, List.getElem_cons_succ] at k0 k1
   go_simp
   exact hK _ (Grow.refl _)
  refine lexf_says hsz (fun v u => RowS u 3 v k.fr.length (iCells k.fr)) (fun _ _ _ g h => RowS.fits h g) [(2, true)] [(15, 0), (16, 1), (17, 2), (19, 4), (20, 5)] none (by kernel_rfl) (by kernel_rfl) (by kernel_rfl) (by kernel_rfl) rfl ?_ ?_
  ·intro xs w hw hp K hK
   simp only [hz] at hp
   go_simp
   exact (clones_any k.fr _ w (HF.out.fits (Grow.trans HG0.out hw.undrew)) HFl.out).mono fun e w' ⟨v', h1, h2, h3⟩ => ⟨v', h1, hK _ _ h2 h3⟩
  apply lq hsz [] [(15, 0), (16, 1), (17, 2), (18, 3), (21, 6), (22, 7)] none (by kernel_rfl) rfl
  ·intro xs w hw hp K hK
   go_simp
   exact hK _ (Grow.refl _)
  apply lq hsz [(4, true)] [(15, 0), (16, 1), (17, 2), (18, 3), (19, 4), (22, 7)] none (by kernel_rfl) rfl
  ·intro xs w hw hp K hK
   simp only [hz] at hp
   have hK1 := HK0.out.fits hw.undrew
   have k0 := hK1.cell 0 (by simp)
   have k1 := hK1.cell 1 (by simp)
   simp only [List.getElem_cons_zero, List.getElem_cons_succ] at k0 k1
   go_simp
   exact hK _ (Grow.refl _)
  refine lexf_says hsz (fun v u => RowS u 3 v k.off.length (iCells k.off)) (fun _ _ _ g h => RowS.fits h g) [(5, true)] [(15, 0), (16, 1), (17, 2), (18, 3), (19, 4), (20, 5)] none (by kernel_rfl) (by kernel_rfl) (by kernel_rfl) (by kernel_rfl) rfl ?_ ?_
  ·intro xs w hw hp K hK
   simp only [hz] at hp
   go_simp
   exact (clones_any k.off _ w (HO.out.fits (Grow.trans HG0.out hw.undrew)) HOl.out).mono fun e w' ⟨v', h1, h2, h3⟩ => ⟨v', h1, hK _ _ h2 h3⟩
  refine lexf_says hsz (fun v u => ∃ (ba : Option Addr) (bc : Nat) (ca : Option Addr) (cc : Nat), v = .agg #[.int .i64 0, .int .i64 0, .int .i64 0, .int .u8 10, .int .i64 0, .int .i64 pg, .int .i64 0, .int .i64 0, .int .i64 0, .int .i64 0, .string ⟨#[]⟩, .slice ba k.fr.length bc, .slice ca k.off.length cc, .slice none 0 0, .slice none 0 0, .slice none 0 0] ∧ RowS u 3 (.slice ba k.fr.length bc) k.fr.length (iCells k.fr) ∧ RowS u 3 (.slice ca k.off.length cc) k.off.length (iCells k.off)) (fun _ _ _ g ⟨a1, a2, a3, a4, a5, a6, a7⟩ => ⟨a1, a2, a3, a4, a5, RowS.fits a6 g, RowS.fits a7 g⟩) [(0, true), (3, true), (6, true)] [(15, 0), (16, 1), (17, 2), (18, 3), (19, 4), (20, 5), (21, 6)] none (by kernel_rfl) (by kernel_rfl) (by kernel_rfl) (by kernel_rfl) rfl ?_ ?_
  ·intro xs w hw hp K hK
   simp only [hz] at hp
   obtain ⟨hpa, hpb, hpc⟩ := hp
   obtain ⟨ba, bc, e3⟩ := rows_slice hpb
   obtain ⟨ca, cc, e6⟩ := rows_slice hpc
   rw [e3] at hpb
   rw [e6] at hpc
   go_simp
   exact hK _ _ ⟨ba, bc, ca, cc, rfl, hpb, hpc⟩ (Grow.refl _)
  intro xs w hw hp
  have ha0 := HA0.out
  clear HA0 hsz s0 s3
  simp only [hz] at hp
  have h7 := hp.2.2.2.2.2.2.2
  clear hp
  subst ha0
  simp only [putAll]
  obtain ⟨ba, bc, ca, cc, e7, h3, h6⟩ := h7
  simp only [e7]
  have hG := Grow.trans HG0.out hw.undrew
  have HRx := keep (HR0.out.fits hw.undrew)
  have hzw : w0.heap.size ≤ w.heap.size := hw.undrew.size
  have H3 := keep h3
  have H6 := keep h6
  clear hw h3 h6 e7
  have hrx := HRx.out
  obtain ⟨⟨r0, r1, r2, r3, r4, r5, r6, r7, r8, r9, r10, r11, r12, r13, r14, r15⟩, fr⟩ := recres hrx
  have g0 := fr 0
  have g1 := fr 1
  have g2 := fr 2
  have g3 := fr 3
  have g4 := fr 4
  have g5 := fr 5
  have g6 := fr 6
  have g7 := fr 7
  have g8 := fr 8
  have g9 := fr 9
  have g10 := fr 10
  have g11 := fr 11
  have g12 := fr 12
  have g13 := fr 13
  have g14 := fr 14
  have g15 := fr 15
  have Hset := keep (set16 hrx (.int .i64 0) (.int .i64 0) (.int .i64 0) (.int .u8 10) (.int .i64 0) (.int .i64 pg) (.int .i64 0) (.int .i64 0) (.int .i64 0) (.int .i64 0) (.string ⟨#[]⟩) (.slice ba k.fr.length bc) (.slice ca k.off.length cc) (.slice none 0 0) (.slice none 0 0) (.slice none 0 0))
  have Hbut := keep (but16 w (w_.heap.size + 1) (.int .i64 0) (.int .i64 0) (.int .i64 0) (.int .u8 10) (.int .i64 0) (.int .i64 pg) (.int .i64 0) (.int .i64 0) (.int .i64 0) (.int .i64 0) (.string ⟨#[]⟩) (.slice ba k.fr.length bc) (.slice ca k.off.length cc) (.slice none 0 0) (.slice none 0 0) (.slice none 0 0))
  clear hrx fr
  go_wp2_with fail
  refine bodyPost_ret (v := .tuple #[recR 10 pg (.slice ba k.fr.length bc) (.slice ca k.off.length cc), .bool true]) ?_ rfl ⟨_, _, rfl, (rowS_rec H3.out HRx.out Hbut.out), (rowS_rec H6.out HRx.out Hbut.out), But.below hG Hbut.out (by omega) (by omega)⟩
  exact frz_res _ _ _ 10 pg _ _ true rfl rfl Hset.out
end Go.Proofs.YtmhepfehcakmjaaGreat.Vac
namespace Go.Proofs.YtmhepfehcakmjaaGreat.Vac
open Go.RowKit
def slotsOf (k : Wk) : List Int := k.gone.map (·.2.2)
set_option maxRecDepth 100000 in
set_option maxHeartbeats 4000000 in
theorem clean_any (pg : Int) (k : Wk) (fv ov gv : Value) (w_ : World) (h : WkIn w_ k fv ov gv) (hg : (k.gone.length : Int) ≤ 8796093022208) (hasc : (slotsOf k).Pairwise (· < ·)) :
  Calls Tryz.prog 22 #[.int .i64 pg, .agg #[fv, ov, gv]] w_ (if k.gone = [] then RecPost 0 0 false [] [] w_ else RecPost 9 pg true (slotsOf k) [] w_) := by
 obtain ⟨w0, hw0⟩ : ∃ w0, w0 = (w_.alloc (.cells #[fv, ov, gv] 72)).alloc (.cells #[.int .i64 0, .int .i64 0, .int .i64 0, .int .u8 0, .int .i64 0, .int .i64 0, .int .i64 0, .int .i64 0, .int .i64 0, .int .i64 0, .string ⟨#[]⟩, .slice none 0 0, .slice none 0 0, .slice none 0 0, .slice none 0 0, .slice none 0 0] 33) := ⟨_, rfl⟩
 obtain ⟨hg0, hK0, hR0, hz0⟩ := wk_new fv ov gv w_ w0 hw0
 have hGn := h.gone
 obtain ⟨fa, fc, rfl⟩ := row_slice h.fr
 obtain ⟨oa, oc, rfl⟩ := row_slice h.off
 obtain ⟨ga, gc, rfl⟩ := row_slice hGn
 have HGn := keep hGn
 have HGl := keep hg
 have HR0 := keep hR0
 have HG0 := keep hg0
 have k2 := hK0.cell 2 (by simp)
 simp only [List.getElem_cons_zero, List.getElem_cons_succ] at k2
 obtain ⟨S, hS⟩ : ∃ S, S = slotsOf k := ⟨_, rfl⟩
 have hSl : S.length = k.gone.length := by rw [hS]; simp [slotsOf]
 have hSn : ∀ j, j < k.gone.length → S.getD j 0 = (k.gone.getD j ([], 0, 0)).2.2 := by
  intro j hj; rw [hS]; simp [slotsOf, hj]
 rw [← hS] at hasc ⊢
 clear hS
 by_cases hE : k.gone = []
 ·rw [if_pos hE]
  have e1 : k.gone.length = 0 := by rw [hE]; rfl
  rw [e1] at k2 hw0 ⊢
  clear hGn h hg hE e1 hg0 hR0 hK0 HGn HGl hSl hSn hasc
  go_enter Tryz.func22, Tryz.ntmps22
  go_upto_region 1 with fail
  rw [← hw0]
  clear hw0
  go_wp2_with ((refine wpList_store_rec rfl _ _ rfl (w_.heap.size + 1) [.int .i64 0, .int .i64 0, .int .i64 0, .int .u8 0, .int .i64 0, .int .i64 0, .int .i64 0, .int .i64 0, .int .i64 0, .int .i64 0, .string ⟨#[]⟩, .slice none 0 0, .slice none 0 0, .slice none 0 0, .slice none 0 0, .slice none 0 0] rfl rfl HR0.out rfl rfl rfl ?_); intro wz hset hbz; have Hset := keep hset; have Hbut := keep hbz; clear hset hbz)
  refine bodyPost_ret (v := .tuple #[recR 0 0 (.slice none 0 0) (.slice none 0 0), .bool false]) ?_ rfl ⟨_, _, rfl, RowS.nil _ _ _ _, RowS.nil _ _ _ _, But.below HG0.out Hbut.out (by omega) (by omega)⟩
  exact cln_res _ _ _ 0 0 _ _ false rfl rfl Hset.out
 ·rw [if_neg hE]
  have hl0 : ¬ k.gone.length = 0 := fun h0 => hE (List.eq_nil_of_length_eq_zero h0)
  have q1 : ((k.gone.length : Int) == 0) = false := by rw [beq_eq_false_iff_ne]; omega
  have HK0 := keep hK0
  have HSl := keep hSl
  have HSn := keep hSn
  have HAsc := keep hasc
  obtain ⟨iI, hiI, hzI0, hzI1, hzI2⟩ := info_parts infoInt
  clear hGn h hg0 hR0 hK0 hE hSl hSn hasc hg
  go_enter Tryz.func22, Tryz.ntmps22
  go_upto_region 1 with fail
  rw [← hw0]
  clear hw0
  go_upto_region 5 with fail
  obtain ⟨wo, rfl⟩ : ∃ wo : World, wo = w0 := ⟨_, rfl⟩
  go_loopw [6, 17] (fun x i wr => ∃ (n : Nat) (a : Option Addr) (cp : Nat), n ≤ k.gone.length ∧ x = .slice a n cp ∧ i = .int .i64 n ∧ Kept (wr.ownsRow wo.heap.size 3 1 (.slice a n cp) n (iCells (S.take n))) ∧ Kept (Below wo.heap.size wo wr)) (fun _ i _ => k.gone.length - (intOf i).toNat)
  case atStart => exact ⟨0, none, 0, Nat.zero_le _, rfl, rfl, keep (World.ownsRow_nil _ _ _ _), keep (Below.refl _ _)⟩
  case round =>
   obtain ⟨n, a, cp, hn, rfl, rfl, HO, HG⟩ := hrel
   by_cases hlt : n < k.gone.length
   ·obtain ⟨_, _, e1, hx⟩ := gone_get (Row.fits HGn.out (Grow.trans HG0.out HG.out))
    simp only [Value.slice.injEq] at e1
    obtain ⟨rfl, _, rfl⟩ := e1
    obtain ⟨c, off, rfl, hx0, hx1, hx2⟩ := hx n hlt
    have hsn := HSn.out n hlt
    have hst : iCells (S.take (n + 1)) = iCells (S.take n) ++ [.int .i64 (S.getD n 0)] := by
     have hn2 : n < S.length := by rw [HSl.out]; exact hlt
     rw [List.take_succ_eq_append_getElem hn2, iCells_append]
     simp [iCells, hn2]
    rw [hsn] at hst
    generalize k.gone.getD n ([], 0, 0) = X at *
    obtain ⟨x0, x1, x2⟩ := X
    dsimp only at hx0 hx1 hx2 hst
    have HSt := keep hst
    have ho := HO.out
    have hsz := HG.out.size
    have hgl := HGl.out
    have hbe : Blk (wr.alloc (.cells #[.string (str x0), .int .i64 x1, .int .i64 x2] 102)) wr.heap.size 102 [.string (str x0), .int .i64 x1, .int .i64 x2] := Blk.new wr _ [_, _, _]
    have hoe := ho.alloc (.cells #[.string (str x0), .int .i64 x1, .int .i64 x2] 102)
    clear hst hx hsn
    go_wp2_with ((at_builtin; go_must (refine wpList_append_own _ rfl _ _ 28 rfl wo.heap.size 3 iI (.int .i64 0) 1 8 Tryz.underlying28 hiI hzI0 hzI1 hzI2 rfl (by decide) _ _ _ rfl (hoe.alloc _) ⟨wr.heap.size + 1, 0, none⟩ 1 1 [.int .i64 x2] rfl rfl (by have := cell_one_new (wr.alloc (.cells #[.string (str x0), .int .i64 x1, .int .i64 x2] 102)) (.int .i64 x2) 3; simpa using this) (ints_oneCell .i64 [x2]) (by unfold maxLen; omega) (by omega) (by simp; omega) ?_); intro v' w1' hown' hgrow _; obtain ⟨a', cap', rfl⟩ := own_form hown'))
    have hG2 := own_grown (by simp; omega) (HG.out.alloc hsz (.cells #[.string (str x0), .int .i64 x1, .int .i64 x2] 102)) hoe hgrow
    have HO2 := keep hown'
    have HG2 := keep hG2
    clear hown' hgrow hG2 ho hoe hbe
    go_roundw
    case rel => exact ⟨n + 1, a', cap', by omega, rfl, by go_num, keep (by rw [HSt.out]; exact HO2.out), HG2⟩
    case measure => simp [intOf]; omega
   ·have hne : n = k.gone.length := by omega
    have hnl : n = S.length := by rw [HSl.out]; exact hne
    have hown := HO.out
    rw [hnl, List.take_length, ← hnl] at hown
    have hS0 : S ≠ [] := by intro h0; rw [h0] at hnl; simp at hnl; omega
    have hOI : OwnI wo.heap.size wr (.slice a n cp) S := by unfold OwnI; rw [← hnl]; exact hown
    have hSb : (S.length : Int) < 4611686018427387904 := by have := HGl.out; omega
    have HO3 := keep hown
    have HOI := keep hOI
    have HS0 := keep hS0
    have HSb := keep hSb
    have HNl := keep hnl
    clear hown hOI hS0 hSb hnl hne HO
    go_wp2_with fail
    refine (sorts_any S HAsc.out HS0.out _ wo.heap.size wr HOI.out HSb.out).mono ?_
    rintro e x1 ⟨rfl, hb1⟩
    have HOI1 := keep (show OwnI wo.heap.size x1 (.slice a n cp) S from owns_fits HOI.out hb1)
    have HG1 := keep (Below.trans HG.out (Below.mono hb1 HG.out.size))
    clear hb1
    go_wp2_with fail
    refine (compacts_any S HAsc.out HS0.out _ wo.heap.size x1 HOI1.out HSb.out).mono ?_
    rintro e x2 ⟨rfl, hb2⟩
    have HOI2 := keep (show OwnI wo.heap.size x2 (.slice a n cp) S from owns_fits HOI1.out hb2)
    have HG2 := keep (Below.trans HG1.out (Below.mono hb2 HG1.out.size))
    clear hb2
    have HRx := keep (HR0.out.fits HG2.out)
    have hrx := HRx.out
    obtain ⟨⟨r0, r1, r2, r3, r4, r5, r6, r7, r8, r9, r10, r11, r12, r13, r14, r15⟩, fr⟩ := recres hrx
    have g0 := fr 0
    have g1 := fr 1
    have g2 := fr 2
    have g3 := fr 3
    have g4 := fr 4
    have g5 := fr 5
    have g6 := fr 6
    have g7 := fr 7
    have g8 := fr 8
    have g9 := fr 9
    have g10 := fr 10
    have g11 := fr 11
    have g12 := fr 12
    have g13 := fr 13
    have g14 := fr 14
    have g15 := fr 15
    have Hset := keep (set16 hrx (.int .i64 0) (.int .i64 0) (.int .i64 0) (.int .u8 9) (.int .i64 0) (.int .i64 pg) (.int .i64 0) (.int .i64 0) (.int .i64 0) (.int .i64 0) (.string ⟨#[]⟩) (.slice a n cp) (.slice none 0 0) (.slice none 0 0) (.slice none 0 0) (.slice none 0 0))
    have Hbut := keep (but16 x2 (w_.heap.size + 1) (.int .i64 0) (.int .i64 0) (.int .i64 0) (.int .u8 9) (.int .i64 0) (.int .i64 pg) (.int .i64 0) (.int .i64 0) (.int .i64 0) (.int .i64 0) (.string ⟨#[]⟩) (.slice a n cp) (.slice none 0 0) (.slice none 0 0) (.slice none 0 0) (.slice none 0 0))
    have hz2 := HG2.out.size
    clear hrx fr
    go_wp2_with fail
    refine bodyPost_ret (v := .tuple #[recR 9 pg (.slice a n cp) (.slice none 0 0), .bool true]) ?_ rfl ⟨_, _, rfl, ?_, RowS.nil _ _ _ _, But.below (Grow.trans HG0.out HG2.out) Hbut.out (by omega) (by omega)⟩
    ·exact cln_res _ _ _ 9 pg _ _ true rfl rfl Hset.out
    ·have hr := (rowS_rec (own_row HOI2.out) HRx.out Hbut.out)
     rw [← HNl.out] at hr
     rw [← HNl.out]
     exact hr
end Go.Proofs.YtmhepfehcakmjaaGreat.Vac
