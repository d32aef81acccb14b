
import Derived.Test.YtikmkimkhngihaaGreatKVr5
/- The program's record of what is freed. -/
namespace Go.Proofs.YtikmkimkhngihaaGreat
open Go.RowKit

/-- The slots of what is gone. -/
def slotsOf (k : Wk) : List Int := k.gone.map (·.2.2)
set_option maxRecDepth 100000 in
set_option maxHeartbeats 4000000 in
theorem clean_any (pg : Int) (k : Wk) (fv ov gv : Value) (w_ : World) (h : WkIn w_ k fv ov gv) (hg : (k.gone.length : Int) ≤ 8796093022208) (hasc : (slotsOf k).Pairwise (· < ·)) :
    Calls Tryz.prog 11 #[.int .i64 pg, .agg #[fv, ov, gv]] w_ (if k.gone = [] then RecPost 0 0 false [] [] w_ else RecPost 9 pg true (slotsOf k) [] w_) := by
  obtain ⟨w0, hw0⟩ : ∃ w0, w0 = (w_.alloc (.cells #[fv, ov, gv] 39)).alloc (.cells #[.int .i64 0, .int .i64 0, .int .i64 0, .int .u8 0, .int .i64 0, .int .i64 0, .int .i64 0, .int .i64 0, .int .i64 0, .int .i64 0, .string ⟨#[]⟩, .slice none 0 0, .slice none 0 0, .slice none 0 0, .slice none 0 0, .slice none 0 0] 47) := ⟨_, rfl⟩
  obtain ⟨hg0, hK0, hR0, hz0⟩ := wk_new fv ov gv w_ w0 hw0
  have hGn := h.gone
  obtain ⟨fa, fc, rfl⟩ := row_slice h.fr
  obtain ⟨oa, oc, rfl⟩ := row_slice h.off
  obtain ⟨ga, gc, rfl⟩ := row_slice hGn
  have HGn := keep hGn
  have HGl := keep hg
  have HR0 := keep hR0
  have HG0 := keep hg0
  have k2 := hK0.cell 2 (by simp)
  simp only [List.getElem_cons_zero, List.getElem_cons_succ] at k2
  obtain ⟨S, hS⟩ : ∃ S, S = slotsOf k := ⟨_, rfl⟩
  have hSl : S.length = k.gone.length := by rw [hS]; simp [slotsOf]
  have hSn : ∀ j, j < k.gone.length → S.getD j 0 = (k.gone.getD j ([], 0, 0)).2.2 := by
    intro j hj; rw [hS]; simp [slotsOf, hj]
  rw [← hS] at hasc ⊢
  clear hS
  by_cases hE : k.gone = []
  · rw [if_pos hE]
    have e1 : k.gone.length = 0 := by rw [hE]; rfl
    rw [e1] at k2 hw0 ⊢
    clear hGn h hg hE e1 hg0 hR0 hK0 HGn HGl hSl hSn hasc
    go_enter Tryz.func11, Tryz.ntmps11
    go_upto_region 1 with fail
    rw [← hw0]
    clear hw0
    go_wp2_with ((refine wpList_store_rec rfl _ _ rfl (w_.heap.size + 1) [.int .i64 0, .int .i64 0, .int .i64 0, .int .u8 0, .int .i64 0, .int .i64 0, .int .i64 0, .int .i64 0, .int .i64 0, .int .i64 0, .string ⟨#[]⟩, .slice none 0 0, .slice none 0 0, .slice none 0 0, .slice none 0 0, .slice none 0 0] rfl rfl HR0.out rfl rfl rfl ?_); intro wz hset hbz; have Hset := keep hset; have Hbut := keep hbz; clear hset hbz)
    refine bodyPost_ret (v := .tuple #[recR 0 0 (.slice none 0 0) (.slice none 0 0), .bool false]) ?_ rfl ⟨_, _, rfl, Row.nil _ _ _ _, Row.nil _ _ _ _, But.below HG0.out Hbut.out (by omega) (by omega)⟩
    exact cln_res _ _ _ 0 0 _ _ false rfl rfl Hset.out
  · rw [if_neg hE]
    have hl0 : ¬ k.gone.length = 0 := fun h0 => hE (List.eq_nil_of_length_eq_zero h0)
    have q1 : ((k.gone.length : Int) == 0) = false := by rw [beq_eq_false_iff_ne]; omega
    have HK0 := keep hK0
    have HSl := keep hSl
    have HSn := keep hSn
    have HAsc := keep hasc
    obtain ⟨iI, hiI, hzI0, hzI1, hzI2⟩ := info_parts infoInt
    clear hGn h hg0 hR0 hK0 hE hSl hSn hasc hg
    go_enter Tryz.func11, Tryz.ntmps11
    go_upto_region 1 with fail
    rw [← hw0]
    clear hw0
    go_upto_region 5 with fail
    obtain ⟨wo, rfl⟩ : ∃ wo : World, wo = w0 := ⟨_, rfl⟩
    go_loopw [6, 17] (fun x i wr => ∃ (n : Nat) (a : Option Addr) (cp : Nat), n ≤ k.gone.length ∧ x = .slice a n cp ∧ i = .int .i64 n ∧ Kept (wr.ownsRow wo.heap.size 3 1 (.slice a n cp) n (iCells (S.take n))) ∧ Kept (Below wo.heap.size wo wr)) (fun _ i _ => k.gone.length - (intOf i).toNat)
    case atStart => exact ⟨0, none, 0, Nat.zero_le _, rfl, rfl, keep (World.ownsRow_nil _ _ _ _), keep (Below.refl _ _)⟩
    case round =>
      obtain ⟨n, a, cp, hn, rfl, rfl, HO, HG⟩ := hrel
      by_cases hlt : n < k.gone.length
      · obtain ⟨_, _, e1, hx⟩ := gone_get (Row.fits HGn.out (Grow.trans HG0.out HG.out))
        simp only [Value.slice.injEq] at e1
        obtain ⟨rfl, _, rfl⟩ := e1
        obtain ⟨c, off, rfl, hx0, hx1, hx2⟩ := hx n hlt
        have hsn := HSn.out n hlt
        have hst : iCells (S.take (n + 1)) = iCells (S.take n) ++ [.int .i64 (S.getD n 0)] := by
          have hn2 : n < S.length := by rw [HSl.out]; exact hlt
          rw [List.take_succ_eq_append_getElem hn2, iCells_append]
          simp [iCells, hn2]
        rw [hsn] at hst
        generalize k.gone.getD n ([], 0, 0) = X at *
        obtain ⟨x0, x1, x2⟩ := X
        dsimp only at hx0 hx1 hx2 hst
        have HSt := keep hst
        have ho := HO.out
        have hsz := HG.out.size
        have hgl := HGl.out
        have hbe : Blk (wr.alloc (.cells #[.string (str x0), .int .i64 x1, .int .i64 x2] 73)) wr.heap.size 73 [.string (str x0), .int .i64 x1, .int .i64 x2] := Blk.new wr _ [_, _, _]
        have hoe := ho.alloc (.cells #[.string (str x0), .int .i64 x1, .int .i64 x2] 73)
        clear hst hx hsn
        go_wp2_with ((at_builtin; go_must (refine wpList_append_own _ rfl _ _ 25 rfl wo.heap.size 3 iI (.int .i64 0) 1 8 Tryz.underlying25 hiI hzI0 hzI1 hzI2 rfl (by decide) _ _ _ rfl (hoe.alloc _) ⟨wr.heap.size + 1, 0, none⟩ 1 1 [.int .i64 x2] rfl rfl (by have := cell_one_new (wr.alloc (.cells #[.string (str x0), .int .i64 x1, .int .i64 x2] 73)) (.int .i64 x2) 3; simpa using this) (ints_oneCell .i64 [x2]) (by unfold maxLen; omega) (by omega) (by simp; omega) ?_); intro v' w1' hown' hgrow _; obtain ⟨a', cap', rfl⟩ := own_form hown'))
        have hG2 := own_grown (by simp; omega) (HG.out.alloc hsz (.cells #[.string (str x0), .int .i64 x1, .int .i64 x2] 73)) hoe hgrow
        have HO2 := keep hown'
        have HG2 := keep hG2
        clear hown' hgrow hG2 ho hoe hbe
        go_roundw
        case rel => exact ⟨n + 1, a', cap', by omega, rfl, by go_num, keep (by rw [HSt.out]; exact HO2.out), HG2⟩
        case measure => simp [intOf]; omega
      · have hne : n = k.gone.length := by omega
        have hnl : n = S.length := by rw [HSl.out]; exact hne
        have hown := HO.out
        rw [hnl, List.take_length, ← hnl] at hown
        have hS0 : S ≠ [] := by intro h0; rw [h0] at hnl; simp at hnl; omega
        have hOI : OwnI wo.heap.size wr (.slice a n cp) S := by unfold OwnI; rw [← hnl]; exact hown
        have hSb : (S.length : Int) < 4611686018427387904 := by have := HGl.out; omega
        have HO3 := keep hown
        have HOI := keep hOI
        have HS0 := keep hS0
        have HSb := keep hSb
        have HNl := keep hnl
        clear hown hOI hS0 hSb hnl hne HO
        go_wp2_with fail
        refine (sorts_any S HAsc.out HS0.out _ wo.heap.size wr HOI.out HSb.out).mono ?_
        rintro e x1 ⟨rfl, hb1⟩
        have HOI1 := keep (show OwnI wo.heap.size x1 (.slice a n cp) S from owns_fits HOI.out hb1)
        have HG1 := keep (Below.trans HG.out (Below.mono hb1 HG.out.size))
        clear hb1
        go_wp2_with fail
        refine (compacts_any S HAsc.out HS0.out _ wo.heap.size x1 HOI1.out HSb.out).mono ?_
        rintro e x2 ⟨rfl, hb2⟩
        have HOI2 := keep (show OwnI wo.heap.size x2 (.slice a n cp) S from owns_fits HOI1.out hb2)
        have HG2 := keep (Below.trans HG1.out (Below.mono hb2 HG1.out.size))
        clear hb2
        have HRx := keep (HR0.out.fits HG2.out)
        have hrx := HRx.out
        obtain ⟨⟨r0, r1, r2, r3, r4, r5, r6, r7, r8, r9, r10, r11, r12, r13, r14, r15⟩, fr⟩ := recres hrx
        have g0 := fr 0
        have g1 := fr 1
        have g2 := fr 2
        have g3 := fr 3
        have g4 := fr 4
        have g5 := fr 5
        have g6 := fr 6
        have g7 := fr 7
        have g8 := fr 8
        have g9 := fr 9
        have g10 := fr 10
        have g11 := fr 11
        have g12 := fr 12
        have g13 := fr 13
        have g14 := fr 14
        have g15 := fr 15
        have Hset := keep (set16 hrx (.int .i64 0) (.int .i64 0) (.int .i64 0) (.int .u8 9) (.int .i64 0) (.int .i64 pg) (.int .i64 0) (.int .i64 0) (.int .i64 0) (.int .i64 0) (.string ⟨#[]⟩) (.slice a n cp) (.slice none 0 0) (.slice none 0 0) (.slice none 0 0) (.slice none 0 0))
        have Hbut := keep (but16 x2 (w_.heap.size + 1) (.int .i64 0) (.int .i64 0) (.int .i64 0) (.int .u8 9) (.int .i64 0) (.int .i64 pg) (.int .i64 0) (.int .i64 0) (.int .i64 0) (.int .i64 0) (.string ⟨#[]⟩) (.slice a n cp) (.slice none 0 0) (.slice none 0 0) (.slice none 0 0) (.slice none 0 0))
        have hz2 := HG2.out.size
        clear hrx fr
        go_wp2_with fail
        refine bodyPost_ret (v := .tuple #[recR 9 pg (.slice a n cp) (.slice none 0 0), .bool true]) ?_ rfl ⟨_, _, rfl, ?_, Row.nil _ _ _ _, But.below (Grow.trans HG0.out HG2.out) Hbut.out (by omega) (by omega)⟩
        · exact cln_res _ _ _ 9 pg _ _ true rfl rfl Hset.out
        · have hr := (rowS_rec (own_row HOI2.out) HRx.out Hbut.out).weak
          rw [← HNl.out] at hr
          unfold Ints
          rw [← HNl.out]
          exact hr

end Go.Proofs.YtikmkimkhngihaaGreat
