
import Derived.Test.YtikmkimkhngihaaGreatKVr6
/- The document's record of what is freed. -/
namespace Go.Proofs.YtikmkimkhngihaaGreat
open Go.RowKit

theorem own_cap {B n c : Nat} {w : World} {a : Option Addr} {xs : List Int} (h : OwnI B w (.slice a n c) xs) : xs.length ≤ c := by
  obtain ⟨h1, h2⟩ := h
  rcases h2 with ⟨e, h3⟩ | ⟨g, cap, cur, e, _, _, hc, _⟩
  · omega
  · simp only [Value.slice.injEq] at e
    obtain ⟨_, _, rfl⟩ := e
    exact hc
set_option maxRecDepth 100000 in
set_option maxHeartbeats 4000000 in
theorem rclean_any (pg : Int) (k : Wk) (fv ov gv : Value) (w_ : World) (h : WkIn w_ k fv ov gv) (hg : (k.gone.length : Int) ≤ 8796093022208) (hasc : (slotsOf k).Pairwise (· < ·)) :
    Calls Tryz.prog 12 #[.int .i64 pg, .agg #[fv, ov, gv]] w_ (if k.gone = [] then RecPost 0 0 false [] [] w_ else RecPost 9 pg true (slotsOf k) [] w_) := by
  obtain ⟨w0, hw0⟩ : ∃ w0, w0 = (w_.alloc (.cells #[fv, ov, gv] 39)).alloc (.cells #[.int .i64 0, .int .i64 0, .int .i64 0, .int .u8 0, .int .i64 0, .int .i64 0, .int .i64 0, .int .i64 0, .int .i64 0, .int .i64 0, .string ⟨#[]⟩, .slice none 0 0, .slice none 0 0, .slice none 0 0, .slice none 0 0, .slice none 0 0] 47) := ⟨_, rfl⟩
  obtain ⟨hg0, hK0, hR0, hz0⟩ := wk_new fv ov gv w_ w0 hw0
  have hGn := h.gone
  obtain ⟨fa, fc, rfl⟩ := row_slice h.fr
  obtain ⟨oa, oc, rfl⟩ := row_slice h.off
  obtain ⟨ga, gc, rfl⟩ := row_slice hGn
  have HGn := keep hGn
  have HGl := keep hg
  have HR0 := keep hR0
  have HG0 := keep hg0
  have k2 := hK0.cell 2 (by simp)
  simp only [List.getElem_cons_zero, List.getElem_cons_succ] at k2
  obtain ⟨S, hS⟩ : ∃ S, S = slotsOf k := ⟨_, rfl⟩
  have hSl : S.length = k.gone.length := by rw [hS]; simp [slotsOf]
  have hSn : ∀ j, j < k.gone.length → S.getD j 0 = (k.gone.getD j ([], 0, 0)).2.2 := by
    intro j hj; rw [hS]; simp [slotsOf, hj]
  rw [← hS] at hasc ⊢
  clear hS
  by_cases hE : k.gone = []
  · rw [if_pos hE]
    have e1 : k.gone.length = 0 := by rw [hE]; rfl
    rw [e1] at k2 hw0 ⊢
    clear hGn h hg hE e1 hg0 hR0 hK0 HGn HGl hSl hSn hasc
    go_enter Tryz.func12, Tryz.ntmps12
    go_upto_region 1 with fail
    rw [← hw0]
    clear hw0
    go_wp2_with ((refine wpList_store_rec rfl _ _ rfl (w_.heap.size + 1) [.int .i64 0, .int .i64 0, .int .i64 0, .int .u8 0, .int .i64 0, .int .i64 0, .int .i64 0, .int .i64 0, .int .i64 0, .int .i64 0, .string ⟨#[]⟩, .slice none 0 0, .slice none 0 0, .slice none 0 0, .slice none 0 0, .slice none 0 0] rfl rfl HR0.out rfl rfl rfl ?_); intro wz hset hbz; have Hset := keep hset; have Hbut := keep hbz; clear hset hbz)
    refine bodyPost_ret (v := .tuple #[recR 0 0 (.slice none 0 0) (.slice none 0 0), .bool false]) ?_ rfl ⟨_, _, rfl, Row.nil _ _ _ _, Row.nil _ _ _ _, But.below HG0.out Hbut.out (by omega) (by omega)⟩
    exact rcln_res _ _ _ 0 0 _ _ false rfl rfl Hset.out
  · rw [if_neg hE]
    have hl0 : ¬ k.gone.length = 0 := fun h0 => hE (List.eq_nil_of_length_eq_zero h0)
    have q1 : ((k.gone.length : Int) == 0) = false := by rw [beq_eq_false_iff_ne]; omega
    have HK0 := keep hK0
    have HSl := keep hSl
    have HSn := keep hSn
    have HAsc := keep hasc
    clear hGn h hg0 hR0 hK0 hE hSl hSn hasc hg
    obtain ⟨w1, hw1⟩ : ∃ w1, w1 = w0.alloc (.cells #[.int .i64 0, .int .i64 0, .int .i64 0, .int .u8 9, .int .i64 0, .int .i64 pg, .int .i64 0, .int .i64 0, .int .i64 0, .int .i64 0, .string ⟨#[]⟩, .slice none 0 0, .slice none 0 0, .slice none 0 0, .slice none 0 0, .slice none 0 0] 47) := ⟨_, rfl⟩
    have HT1 := keep (show Blk w1 (w_.heap.size + 2) 47 [.int .i64 0, .int .i64 0, .int .i64 0, .int .u8 9, .int .i64 0, .int .i64 pg, .int .i64 0, .int .i64 0, .int .i64 0, .int .i64 0, .string ⟨#[]⟩, .slice none 0 0, .slice none 0 0, .slice none 0 0, .slice none 0 0, .slice none 0 0] from by
      have := Blk.new w0 47 [.int .i64 0, .int .i64 0, .int .i64 0, .int .u8 9, .int .i64 0, .int .i64 pg, .int .i64 0, .int .i64 0, .int .i64 0, .int .i64 0, .string ⟨#[]⟩, .slice none 0 0, .slice none 0 0, .slice none 0 0, .slice none 0 0, .slice none 0 0]
      rw [hz0] at this
      subst hw1; exact this)
    have HG1 := keep (show Grow w0 w1 from by subst hw1; exact (Grow.refl w0).alloc _)
    have hz1 : w1.heap.size = w_.heap.size + 3 := by subst hw1; simp [hz0]
    go_enter Tryz.func12, Tryz.ntmps12
    go_upto_region 1 with fail
    rw [← hw0]
    clear hw0
    go_upto_region 4 with fail
    rw [← hw1]
    clear hw1
    go_wp2_with fail
    go_loopw [7] (fun i wr => ∃ (n : Nat) (a : Option Addr) (cp : Nat), n ≤ k.gone.length ∧ n ≤ cp ∧ i = .int .i64 n ∧ Kept (Blk wr (w_.heap.size + 2) 47 [.int .i64 0, .int .i64 0, .int .i64 0, .int .u8 9, .int .i64 0, .int .i64 pg, .int .i64 0, .int .i64 0, .int .i64 0, .int .i64 0, .string ⟨#[]⟩, .slice a n cp, .slice none 0 0, .slice none 0 0, .slice none 0 0, .slice none 0 0]) ∧ Kept (RowS wr 3 (.slice a n cp) n (iCells (S.take n))) ∧ Kept (Below w0.heap.size w0 wr) ∧ Kept (w1.heap.size ≤ wr.heap.size)) (fun i _ => k.gone.length - (intOf i).toNat)
    case atStart => exact ⟨0, none, 0, Nat.zero_le _, Nat.zero_le _, rfl, HT1, keep (RowS.nil _ _ _ _), HG1, keep (Nat.le_refl _)⟩
    case round =>
      obtain ⟨n, a, cp, hn, hcp, rfl, HT, HRW, HG, HZ⟩ := hrel
      have hKr := HK0.out.fits HG.out
      have k2 := hKr.cell 2 (by simp)
      simp only [List.getElem_cons_zero, List.getElem_cons_succ] at k2
      obtain ⟨⟨t0, t1, t2, t3, t4, t5, t6, t7, t8, t9, t10, t11, t12, t13, t14, t15⟩, ft⟩ := recres HT.out
      by_cases hlt : n < k.gone.length
      · obtain ⟨_, _, e1, hx⟩ := gone_get (Row.fits HGn.out (Grow.trans HG0.out HG.out))
        simp only [Value.slice.injEq] at e1
        obtain ⟨rfl, _, rfl⟩ := e1
        obtain ⟨c, off, rfl, hx0, hx1, hx2⟩ := hx n hlt
        have hsn := HSn.out n hlt
        have hn2 : n < S.length := by rw [HSl.out]; exact hlt
        have hst : S.take (n + 1) = S.take n ++ [S.getD n 0] := by
          rw [List.take_succ_eq_append_getElem hn2]
          simp [hn2]
        have htl : (S.take n).length = n := by rw [List.length_take]; omega
        have hasc := fun q (hq : q < n) => List.pairwise_iff_getElem.1 HAsc.out q n (by omega) hn2 hq
        have hq2 : ∀ q, q < n → (S.take n).getD q 0 < S.getD n 0 := by
          intro q hq
          have := hasc q hq
          simp [hn2, hq, show q < S.length by omega]
          exact this
        have hrow : Ints wr (.slice a n cp) (S.take n) := by unfold Ints; rw [htl]; exact HRW.out.weak
        obtain ⟨_, _, e2, hcs⟩ := ints_form hrow
        rw [htl] at e2 hcs
        simp only [Value.slice.injEq] at e2
        obtain ⟨rfl, _, rfl⟩ := e2
        have hcell : ∀ q, q < n → ∃ d o, a = some ⟨d, o, none⟩ ∧ wr.cell? ⟨d, o + q, none⟩ = some (.int .i64 ((S.take n).getD q 0)) := hcs
        rw [hsn] at hst hq2
        generalize k.gone.getD n ([], 0, 0) = X at *
        obtain ⟨x0, x1, x2⟩ := X
        dsimp only at hx0 hx1 hx2 hst hq2
        have HSt := keep hst
        have HQ2 := keep hq2
        have HCell := keep hcell
        have HRow := keep hrow
        have HTl := keep htl
        have hgl := HGl.out
        clear hst hx hsn hq2 hcell hcs hrow hasc htl
        go_wp2_with fail
        go_loop [9] (fun i => ∃ q : Nat, q ≤ n ∧ i = .int .i64 q) (fun i => n - (intOf i).toNat)
        case atStart => exact ⟨0, Nat.zero_le _, rfl⟩
        case round =>
          obtain ⟨q, hq, rfl⟩ := hrel
          by_cases hqn : q < n
          · obtain ⟨d, o, rfl, hc1⟩ := HCell.out q hqn
            have hlq := HQ2.out q hqn
            generalize (S.take n).getD q 0 = y at *
            go_wp2_with fail
            go_round
            case rel => exact ⟨q + 1, by omega, by go_num⟩
            case measure => simp [intOf]; omega
          · have hqe : q = n := by omega
            subst hqe
            have HZ0 := HZ.out
            generalize S.take q = P at *
            have hPl := HTl.out
            have hqq : q ≤ 8796093022208 := by omega
            go_upto_region 14 with ((at_builtin; go_must (refine wpList_iapp rfl _ _ rfl wr.heap.size [] P _ _ rfl rfl (World.ownsRow_nil _ _ _ _) HRow.out (by simp; omega) (Nat.le_refl _) ?_); intro b1 e1 wA ho1 hb1; have HO1 := keep (show OwnI wr.heap.size wA (.slice b1 q e1) P from by have h := ho1; simp only [List.nil_append, hPl] at h; exact h); have HB1 := keep hb1; clear ho1 hb1))
            go_upto_region 15 with ((at_builtin; go_must (refine wpList_iapp rfl _ _ rfl wr.heap.size P [x2] _ _ rfl rfl (HO1.out.alloc _) (one_ints wA x2).weak (by simp; omega) (by have := HB1.out.size; simp; omega) ?_); intro b2 e2 wB ho2 hb2; have HO2 := keep (show OwnI wr.heap.size wB (.slice b2 (q + 1) e2) (P ++ [x2]) from by have h := ho2; simp only [List.length_append, hPl] at h; exact h); have HB2 := keep (Below.trans (HB1.out.alloc (by exact HB1.out.size) (.cells #[.int .i64 x2] 3)) hb2); clear ho2 hb2))
            clear t0 t1 t2 t3 t4 t5 t6 t7 t8 t9 t10 t11 t12 t13 t14 t15 ft k2 hKr
            have HTB := keep (HT.out.fits HB2.out)
            obtain ⟨⟨t0, t1, t2, t3, t4, t5, t6, t7, t8, t9, t10, t11, t12, t13, t14, t15⟩, ft⟩ := recres HTB.out
            go_upto_region 6 with ((at_builtin; go_must (refine wpList_iapp rfl _ _ rfl wr.heap.size (P ++ [x2]) [] _ _ rfl rfl HO2.out (Row.nil _ _ _ _) (by simp; omega) HB2.out.size ?_); intro b3 e3 wC ho3 hb3; have HO3 := keep (show OwnI wr.heap.size wC (.slice b3 (q + 1) e3) (P ++ [x2]) from by have h := ho3; simp only [List.append_nil, List.length_append, hPl] at h; exact h); have HB3 := keep (Below.trans HB2.out hb3); have hTC := HT.out.fits HB3.out; have HTC := keep hTC; obtain ⟨⟨v0, v1, v2, v3, v4, v5, v6, v7, v8, v9, v10, v11, v12, v13, v14, v15⟩, fv⟩ := recres hTC; clear ho3 hb3 hTC))
            clear t0 t1 t2 t3 t4 t5 t6 t7 t8 t9 t10 t11 t12 t13 t14 t15 ft v0 v1 v2 v3 v4 v5 v6 v7 v8 v9 v10 v11 v12 v13 v14 v15 fv
            have hT3 := HTC.out.set 11 (.slice b3 (q + 1) e3)
            have hU3 := (But.refl (w_.heap.size + 2) wC).setCell 11 (.slice b3 (q + 1) e3)
            have hzC := HB3.out.size
            have hzr := HG.out.size
            have hcap := own_cap HO3.out
            simp only [List.length_append, List.length_singleton, hPl] at hcap
            have HG3 := keep (But.below (Below.trans HG.out (Below.mono HB3.out (by omega))) hU3 (by omega) (by omega))
            have HR3 := keep (rowS_rec (own_row HO3.out) HTC.out hU3)
            have HZ3 := keep (show w1.heap.size ≤ (wC.setCell ⟨(w_.heap.size + 2), 11, none⟩ (.slice b3 (q + 1) e3)).heap.size from Nat.le_trans (by omega) hU3.size)
            generalize wC.setCell ⟨(w_.heap.size + 2), 11, none⟩ (.slice b3 (q + 1) e3) = w3 at *
            have HT3 := keep (show Blk w3 (w_.heap.size + 2) 47 [.int .i64 0, .int .i64 0, .int .i64 0, .int .u8 9, .int .i64 0, .int .i64 pg, .int .i64 0, .int .i64 0, .int .i64 0, .int .i64 0, .string ⟨#[]⟩, .slice b3 (q + 1) e3, .slice none 0 0, .slice none 0 0, .slice none 0 0, .slice none 0 0] from hT3)
            clear hT3 hU3 HTC
            go_wp2_with fail
            go_roundw
            case rel => exact ⟨q + 1, b3, e3, by omega, hcap, by go_num, HT3, keep (by have h := HR3.out; rw [HSt.out]; simpa [hPl] using h), HG3, HZ3⟩
            case measure => simp [intOf]; omega
      · have hne : n = k.gone.length := by omega
        have hnl : n = S.length := by rw [HSl.out]; exact hne
        have hrow := HRW.out
        rw [hnl, List.take_length, ← hnl] at hrow
        have HRow := keep hrow
        have HNl := keep hnl
        have HRx := keep (HR0.out.fits HG.out)
        have hzr := HG.out.size
        clear hrow hnl hne HRW
        go_wp2_with (first | (refine wpList_load_rec rfl _ rfl (w_.heap.size + 2) rfl HT.out rfl ?_) | ((refine wpList_store_rec rfl _ _ rfl (w_.heap.size + 1) [.int .i64 0, .int .i64 0, .int .i64 0, .int .u8 9, .int .i64 0, .int .i64 pg, .int .i64 0, .int .i64 0, .int .i64 0, .int .i64 0, .string ⟨#[]⟩, .slice a n cp, .slice none 0 0, .slice none 0 0, .slice none 0 0, .slice none 0 0] rfl rfl HRx.out rfl rfl rfl ?_); intro wz hset hbz; have Hset := keep hset; have Hbut := keep hbz; clear hset hbz))
        refine bodyPost_ret (v := .tuple #[recR 9 pg (.slice a n cp) (.slice none 0 0), .bool true]) ?_ rfl ⟨_, _, rfl, ?_, Row.nil _ _ _ _, But.below (Grow.trans HG0.out HG.out) Hbut.out (by omega) (by omega)⟩
        · exact rcln_res _ _ _ 9 pg _ _ true rfl rfl Hset.out
        · have hr := (rowS_rec HRow.out HRx.out Hbut.out).weak
          unfold Ints
          rw [← HNl.out]
          exact hr

end Go.Proofs.YtikmkimkhngihaaGreat
