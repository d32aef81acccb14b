
/- TxnOldest's walk. -/
import Derived.Test.YtgijmlienolhpaaTla
import Derived.Test.YtgijmlienolhpaaLexf
import Derived.Deep.CutRange
namespace Go.Proofs.Ytgijmlienolhpaa
open Go.RowKit Go.Maps
attribute [local go_sem] givesF_none givesF_some evalF_tmp evalF_const evalF_global evalF_func lookL isB_bool isB_undef givesUpon_value givesUpon_skip givesUpon_enter

/-- The state in the walk along the ids. -/
def UpRel (n : Nat) (w0 : World) (i : Value) (wr : World) : Prop := ∃ k : Nat, 1 ≤ k ∧ i = .int .i64 k ∧ (k ≤ n ∨ k = 1) ∧ Kept (Grow w0 wr)
theorem up_at {l : List Int} (h : l.Pairwise (· < ·)) {k : Nat} (h1 : 1 ≤ k) (hk : k < l.length) : l[k - 1]'(by omega) < l[k] := List.pairwise_iff_getElem.1 h (k - 1) k (by omega) hk (by omega)

set_option maxRecDepth 100000 in
set_option maxHeartbeats 8000000 in
theorem oldest_law (v : Value) (ps : List (Cl × Value)) (w_ : World) (hin : OpsIn w_ v ps) (hn : ps.length ≤ 4398046511104) :
    Calls Try.prog 3 #[v] w_ fun e w' => e = .returned (.bool true) ∧ Below w_.heap.size w_ w' := by
  obtain ⟨va, vc, rfl⟩ := row_sl hin.row
  have HIn := keep hin
  have HN := keep hn
  have HGd := keep (fun k hk => stA_good ps (fun p hp => (hin.each p hp).2.1) k hk)
  clear hin
  go_enter Try.func3, Try.ntmps3
  go_wp2_with (go_at_call 8; refine (new_any w_).mono ?_; rintro e w1 ⟨tb, rfl, hT1, hB1⟩; have HT1 := keep hT1; have HB1 := keep hB1; clear hT1 hB1)
  go_loopw [4] (fun i wr => DoRel ps tb w_ i wr) (fun i _ => ps.length - (intOf i).toNat)
  case atStart => exact show DoRel ps tb w_ _ _ from ⟨0, [], Nat.zero_le _, rfl, HT1, keep rfl, HB1⟩
  case round =>
    obtain ⟨k, T, hkl, rfl, HT, HS, HB⟩ := hrel
    by_cases hlt : k < ps.length
    · obtain ⟨c, off, cap2, e, b0, b1, b2, b3, b4, b5⟩ := HIn.out.at_ hlt
      simp only [Value.slice.injEq] at e
      obtain ⟨rfl, _, rfl⟩ := e
      have hea := (HIn.out.fits HB.out).each ps[k] (List.getElem_mem hlt)
      have hdo := does_any (fun k => w_.heap.size ≤ k) tb T ps[k].1 ps[k].2 hea.2.2 wr HT.out (fun k hk => Nat.le_trans HB.out.size hk) hea.1 hea.2.1 k (by have := HN.out; omega) (by rw [HS.out]; exact HGd.out k hkl)
      rw [HS.out, ← stA_succ ps k hlt] at hdo
      unfold opC at hdo
      have hG2 := HGd.out (k + 1) hlt
      have hnn := HN.out
      generalize ps[k] = p at *
      obtain ⟨⟨ask, who, n, flag, next, act⟩, sv⟩ := p
      dsimp only at b0 b1 b2 b3 b4 b5 hdo hea
      have c0 := (HB.out.cell (World.block_lt_of_cell? w_ _ b0)).trans b0
      have c1 := (HB.out.cell (World.block_lt_of_cell? w_ _ b1)).trans b1
      have c2 := (HB.out.cell (World.block_lt_of_cell? w_ _ b2)).trans b2
      have c3 := (HB.out.cell (World.block_lt_of_cell? w_ _ b3)).trans b3
      have c4 := (HB.out.cell (World.block_lt_of_cell? w_ _ b4)).trans b4
      have c5 := (HB.out.cell (World.block_lt_of_cell? w_ _ b5)).trans b5
      have HC1 := keep (fun u (hu : Below w_.heap.size w_ u) => (hu.cell (World.block_lt_of_cell? w_ _ b1)).trans b1)
      have HDo := keep hdo
      have HW := keep hea.2.2
      have HG2 := keep hG2
      have HS9 := keep HB.out.size
      clear hea hdo hG2 b0 b1 b2 b3 b4 b5
      go_upto_region 8 with (go_at_call 9; refine HDo.out.mono ?_; rintro e w2 ⟨rfl, ⟨T2, hT2, hS2⟩, ho2⟩; have HT2 := keep hT2; have HS2 := keep hS2; have HB2 := keep (HB.out.trans (ho2.below HS9.out)); have HR2 := keep (rd_calls hT2 hS2 HG2.out (by omega)); clear hT2 hS2 ho2)
      clear c0 c1 c2 c3 c4 c5 HDo HT HS HB HS9
      have c1 := HC1.out w2 HB2.out
      have hof := HR2.out.of who HW.out w2 (Below.refl _ _)
      unfold OfS at hof
      have hold := HR2.out.old
      have hrun := HR2.out.run
      unfold RunS runT at hrun
      have hup : ((begunT (stA ps (k + 1))).map (·.1)).Pairwise (· < ·) := runT_up HG2.out.fit
      have hll : (begunT (stA ps (k + 1))).length ≤ 4398046511104 := Nat.le_trans (begunT_len _) (Nat.le_trans HG2.out.len (by omega))
      have hI3 : ∀ t, findT who (stA ps (k + 1)) = some t → t.first ≤ t.last ∧ (t.first ≠ 0 → oldT (stA ps (k + 1)) ≤ t.first) ∧ (t.first = 0 ↔ t.last = 0) ∧ 0 ≤ t.undoes := by
        intro t ht
        have hm := findT_mem ht
        obtain ⟨_, _, h3, h4, h5, _⟩ := HG2.out.fit.pos _ hm
        exact ⟨h3, fun h0 => old_le HG2.out.fit hm h0, h4, h5⟩
      generalize findT who (stA ps (k + 1)) = o at *
      generalize oldT (stA ps (k + 1)) = od at *
      generalize begunT (stA ps (k + 1)) = bs at *
      have HOfk := keep hof
      have HOl2 := keep hold
      have HRu2 := keep hrun
      have HUp := keep hup
      have HI2 := keep hI3
      have HTend := keep (fun u (hu : Grow w2 u) => (show DoRel ps tb w_ (.int .i64 ((k + 1 : Nat) : Int)) u from ⟨k + 1, T2, hlt, rfl, keep (HT2.out.fits hu), HS2, keep (HB2.out.trans (hu.mono HB2.out.size))⟩))
      clear hof hold hrun hup hI3 HR2 HT2 HS2 HG2 HC1
      go_upto_region 9 with (go_at_call 10; refine HOfk.out.mono ?_; rintro e w5 ⟨av, rfl, hrow5, hb5⟩; obtain ⟨a5, c5, rfl⟩ := row_sl hrow5.1.weak; have HG5 := keep hb5; clear hrow5 hb5; unfold tnV)
      have hI3 : o.isSome = true → (o.getD tnZ).first ≤ (o.getD tnZ).last ∧ ((o.getD tnZ).first ≠ 0 → od ≤ (o.getD tnZ).first) ∧ ((o.getD tnZ).first = 0 ↔ (o.getD tnZ).last = 0) ∧ 0 ≤ (o.getD tnZ).undoes := by
        cases o with
        | none => simp
        | some t => intro _; exact HI2.out t rfl
      generalize o.isSome = ok at *
      generalize o.getD tnZ = t at *
      clear HI2 HOfk
      obtain ⟨w6, hw6⟩ : ∃ w6, w6 = w5.alloc (.cells #[.int .i64 t.next, .slice a5 t.act.length c5, .int .i64 t.xid, .int .i64 t.first, .int .i64 t.last, .int .i64 t.undoes] 32) := ⟨_, rfl⟩
      have hg6 : Grow w5 w6 := by subst hw6; exact (Grow.refl w5).alloc _
      have hx6 : Blk w6 w5.heap.size 32 [.int .i64 t.next, .slice a5 t.act.length c5, .int .i64 t.xid, .int .i64 t.first, .int .i64 t.last, .int .i64 t.undoes] := by subst hw6; exact Blk.new w5 _ [_, _, _, _, _, _]
      rw [← hw6]
      have HX := keep (fun (u : World) (hu : Grow w6 u) => six_of (hx6.fits hu))
      have HG6 := keep (Grow.trans HG5.out hg6)
      have HOld := keep (fun (u : World) (hu : Grow w6 u) => HOl2.out u (Grow.trans HG6.out hu))
      clear hw6 hg6 hx6 HG5
      cases ok with
      | false =>
        clear hI3
        go_wp2_with fail
        go_roundw
        case rel => exact (show (Value.int .i64 ((k : Int) + 1)) = .int .i64 ((k + 1 : Nat) : Int) by first | rfl | simp) ▸ HTend.out _ HG6.out
        case measure => simp [intOf]; omega
      | true =>
        obtain ⟨i1, i2, i3, i4⟩ := hI3 rfl
        have eA : decide (t.last < t.first) = false := decide_eq_false (by omega)
        have eE : decide (t.undoes < 0) = false := decide_eq_false (by omega)
        by_cases h0 : t.first = 0
        · have eB : (t.first != 0) = false := by simp [h0]
          have eC : (t.first == 0) = true := by simp [h0]
          have eD : (t.last == 0) = true := by simp [i3.1 h0]
          clear hI3 i1 i2 i3 i4 h0
          go_upto_region 10 with fail
          refine wp_region_grow_named (by kernel_rfl) 30 (by kernel_rfl) [(36, 0), (37, 1), (38, 2), (39, 3), (40, 4), (41, 5), (42, 6), (43, 7), (44, 8), (45, 9), (46, 10), (47, 11), (48, 12), (49, 13), (50, 14), (51, 15), (52, 16), (53, 17), (54, 18), (55, 19), (56, 20), (57, 21), (58, 22), (59, 23), (60, 24), (61, 25), (62, 26), (63, 27), (64, 28), (65, 29)] (by kernel_rfl) [(0, true), (1, true), (2, true), (3, true), (4, true), (5, true), (6, true), (7, true), (8, true), (9, true), (10, true), (11, true), (12, true), (13, true), (14, true), (15, true), (16, true), (17, true), (18, true), (19, true), (20, true), (21, true), (22, true), (23, true), (24, true), (25, true), (26, true), (27, true), (28, true), (29, true)] (by kernel_rfl) rfl rfl ?_
          intro a0 ha0
          have hsz : a0.tmps.size = 86 := (size_at ha0).trans rfl
          have s3 := slot_at ha0 3 rfl
          have s5 := slot_at ha0 5 rfl
          have HA0 := keep ha0
          clear ha0
          -- operation 0
          apply lexf_eq hsz [] [(38, 2), (39, 3), (40, 4), (41, 5), (42, 6), (43, 7), (44, 8), (45, 9), (46, 10), (47, 11), (48, 12), (49, 13), (50, 14), (51, 15), (52, 16), (53, 17), (54, 18), (55, 19), (56, 20), (57, 21), (58, 22), (59, 23), (60, 24), (61, 25), (62, 26), (63, 27), (64, 28), (65, 29), (66, 30)] none (by kernel_rfl) (by kernel_rfl) (by kernel_rfl) (by kernel_rfl) rfl
          · intro xs w hw hp K hK
            go_simp
            exact hK _ (Grow.refl _)
          -- operation 1
          apply lexf_eq hsz [(0, true)] [(36, 0), (38, 2), (39, 3), (41, 5), (42, 6), (43, 7), (44, 8), (45, 9), (46, 10), (47, 11), (48, 12), (49, 13), (50, 14), (51, 15), (52, 16), (53, 17), (54, 18), (55, 19), (56, 20), (57, 21), (58, 22), (59, 23), (60, 24), (61, 25), (62, 26), (63, 27), (64, 28), (65, 29), (66, 30)] none (by kernel_rfl) (by kernel_rfl) (by kernel_rfl) (by kernel_rfl) rfl
          · intro xs w hw hp K hK
            simp only [holdsL, List.nil_append, List.getD_cons_zero, if_true, and_true] at hp
            obtain ⟨-, -, -, x3, x4, x5, -⟩ := HX.out w (Grow.undrew hw)
            go_simp
            exact hK _ (Grow.refl _)
          -- operation 2
          apply lexf_eq hsz [] [(36, 0), (37, 1), (40, 4), (41, 5), (42, 6), (43, 7), (44, 8), (45, 9), (46, 10), (47, 11), (48, 12), (49, 13), (50, 14), (51, 15), (52, 16), (53, 17), (54, 18), (55, 19), (56, 20), (57, 21), (58, 22), (59, 23), (60, 24), (61, 25), (62, 26), (63, 27), (64, 28), (65, 29), (66, 30)] none (by kernel_rfl) (by kernel_rfl) (by kernel_rfl) (by kernel_rfl) rfl
          · intro xs w hw hp K hK
            go_simp
            exact hK _ (Grow.refl _)
          -- operation 3
          apply lexf_eq hsz [(2, true)] [(36, 0), (37, 1), (38, 2), (41, 5), (42, 6), (43, 7), (44, 8), (45, 9), (46, 10), (47, 11), (48, 12), (49, 13), (50, 14), (51, 15), (52, 16), (53, 17), (54, 18), (55, 19), (56, 20), (57, 21), (58, 22), (59, 23), (60, 24), (61, 25), (62, 26), (63, 27), (64, 28), (65, 29), (66, 30)] none (by kernel_rfl) (by kernel_rfl) (by kernel_rfl) (by kernel_rfl) rfl
          · intro xs w hw hp K hK
            simp only [holdsL, List.nil_append, List.cons_append, List.getD_cons_succ, List.getD_cons_zero, if_true, and_true] at hp
            obtain ⟨-, -, -, x3, x4, x5, -⟩ := HX.out w (Grow.undrew hw)
            go_simp
            exact hK _ (Grow.refl _)
          -- operation 4
          apply lexf_eq hsz [(1, true), (3, true)] [(36, 0), (37, 1), (38, 2), (39, 3), (42, 6), (43, 7), (44, 8), (45, 9), (46, 10), (47, 11), (48, 12), (49, 13), (50, 14), (51, 15), (52, 16), (53, 17), (54, 18), (55, 19), (56, 20), (57, 21), (58, 22), (59, 23), (60, 24), (61, 25), (62, 26), (63, 27), (64, 28), (65, 29), (66, 30)] none (by kernel_rfl) (by kernel_rfl) (by kernel_rfl) (by kernel_rfl) rfl
          · intro xs w hw hp K hK
            simp only [holdsL, List.nil_append, List.cons_append, List.getD_cons_succ, List.getD_cons_zero, if_true, and_true] at hp
            go_simp
            exact hK _ (Grow.refl _)
          -- operation 5
          apply lexf_eq hsz [(4, true)] [(36, 0), (37, 1), (38, 2), (39, 3), (40, 4), (46, 10), (47, 11), (48, 12), (49, 13), (50, 14), (53, 17), (54, 18), (55, 19), (56, 20), (57, 21), (58, 22), (59, 23), (60, 24), (61, 25), (62, 26), (63, 27), (64, 28), (65, 29), (66, 30)] none (by kernel_rfl) (by kernel_rfl) (by kernel_rfl) (by kernel_rfl) rfl
          · intro xs w hw hp K hK
            simp only [holdsL, List.nil_append, List.cons_append, List.getD_cons_succ, List.getD_cons_zero, if_true, and_true] at hp
            go_simp
            exact hK _ (Grow.refl _)
          -- operation 6
          apply lexf_eq hsz [(5, true)] [(36, 0), (37, 1), (38, 2), (39, 3), (40, 4), (41, 5), (44, 8), (45, 9), (46, 10), (47, 11), (48, 12), (49, 13), (50, 14), (51, 15), (52, 16), (53, 17), (54, 18), (55, 19), (56, 20), (57, 21), (58, 22), (59, 23), (60, 24), (61, 25), (62, 26), (63, 27), (64, 28), (65, 29), (66, 30)] (some (41, false)) (by kernel_rfl) (by kernel_rfl) (by kernel_rfl) (by kernel_rfl) rfl
          · intro xs w hw hp K hK
            simp only [holdsL, List.nil_append, List.cons_append, List.getD_cons_succ, List.getD_cons_zero, if_true, and_true] at hp
            go_simp
            exact hK _ (Grow.refl _)
          -- operation 7
          apply lexf_eq hsz [(5, true), (6, true)] [(36, 0), (37, 1), (38, 2), (39, 3), (40, 4), (41, 5), (42, 6), (45, 9), (46, 10), (47, 11), (48, 12), (49, 13), (50, 14), (51, 15), (52, 16), (53, 17), (54, 18), (55, 19), (56, 20), (57, 21), (58, 22), (59, 23), (60, 24), (61, 25), (62, 26), (63, 27), (64, 28), (65, 29), (66, 30)] (some (41, false)) (by kernel_rfl) (by kernel_rfl) (by kernel_rfl) (by kernel_rfl) rfl
          · intro xs w hw hp K hK
            simp only [holdsL, List.nil_append, List.cons_append, List.getD_cons_succ, List.getD_cons_zero, if_true, and_true] at hp
            obtain ⟨-, -, -, x3, x4, x5, -⟩ := HX.out w (Grow.undrew hw)
            go_simp
            exact hK _ (Grow.refl _)
          -- operation 8
          apply lexf_eq hsz [(5, true), (7, true)] [(36, 0), (37, 1), (38, 2), (39, 3), (40, 4), (41, 5), (42, 6), (43, 7), (46, 10), (47, 11), (48, 12), (49, 13), (50, 14), (51, 15), (52, 16), (53, 17), (54, 18), (55, 19), (56, 20), (57, 21), (58, 22), (59, 23), (60, 24), (61, 25), (62, 26), (63, 27), (64, 28), (65, 29), (66, 30)] (some (41, false)) (by kernel_rfl) (by kernel_rfl) (by kernel_rfl) (by kernel_rfl) rfl
          · intro xs w hw hp K hK
            simp only [holdsL, List.nil_append, List.cons_append, List.getD_cons_succ, List.getD_cons_zero, if_true, and_true] at hp
            go_simp
            exact hK _ (Grow.refl _)
          -- operation 9
          apply lexf_eq hsz [(5, true), (8, true)] [(36, 0), (37, 1), (38, 2), (39, 3), (40, 4), (41, 5), (42, 6), (43, 7), (44, 8), (52, 16), (53, 17), (54, 18), (55, 19), (56, 20), (57, 21), (58, 22), (59, 23), (60, 24), (61, 25), (62, 26), (63, 27), (64, 28), (65, 29), (66, 30)] (some (41, false)) (by kernel_rfl) (by kernel_rfl) (by kernel_rfl) (by kernel_rfl) rfl
          · intro xs w hw hp K hK
            simp only [holdsL, List.nil_append, List.cons_append, List.getD_cons_succ, List.getD_cons_zero, if_true, and_true] at hp
            go_simp
            exact hK _ (Grow.refl _)
          -- operation 10
          apply lexf_eq hsz [(9, true)] [(36, 0), (37, 1), (38, 2), (39, 3), (40, 4), (41, 5), (42, 6), (43, 7), (44, 8), (45, 9), (48, 12), (49, 13), (50, 14), (51, 15), (52, 16), (53, 17), (54, 18), (55, 19), (56, 20), (57, 21), (58, 22), (59, 23), (60, 24), (61, 25), (62, 26), (63, 27), (64, 28), (65, 29), (66, 30)] (some (45, true)) (by kernel_rfl) (by kernel_rfl) (by kernel_rfl) (by kernel_rfl) rfl
          · intro xs w hw hp K hK
            simp only [holdsL, List.nil_append, List.cons_append, List.getD_cons_succ, List.getD_cons_zero, if_true, and_true] at hp
            go_simp
            exact hK _ (Grow.refl _)
          -- operation 11
          apply lexf_eq hsz [(9, true), (10, true)] [(36, 0), (37, 1), (38, 2), (39, 3), (40, 4), (41, 5), (42, 6), (43, 7), (44, 8), (45, 9), (46, 10), (48, 12), (49, 13), (51, 15), (52, 16), (53, 17), (54, 18), (55, 19), (56, 20), (57, 21), (58, 22), (59, 23), (60, 24), (61, 25), (62, 26), (63, 27), (64, 28), (65, 29), (66, 30)] (some (45, true)) (by kernel_rfl) (by kernel_rfl) (by kernel_rfl) (by kernel_rfl) rfl
          · intro xs w hw hp K hK
            simp only [holdsL, List.nil_append, List.cons_append, List.getD_cons_succ, List.getD_cons_zero, if_true, and_true] at hp
            obtain ⟨-, -, -, x3, x4, x5, -⟩ := HX.out w (Grow.undrew hw)
            go_simp
            exact hK _ (Grow.refl _)
          -- operation 12
          apply lexf_eq hsz [(9, true)] [(36, 0), (37, 1), (38, 2), (39, 3), (40, 4), (41, 5), (42, 6), (43, 7), (44, 8), (45, 9), (46, 10), (47, 11), (50, 14), (51, 15), (52, 16), (53, 17), (54, 18), (55, 19), (56, 20), (57, 21), (58, 22), (59, 23), (60, 24), (61, 25), (62, 26), (63, 27), (64, 28), (65, 29), (66, 30)] (some (45, true)) (by kernel_rfl) (by kernel_rfl) (by kernel_rfl) (by kernel_rfl) rfl
          · intro xs w hw hp K hK
            simp only [holdsL, List.nil_append, List.cons_append, List.getD_cons_succ, List.getD_cons_zero, if_true, and_true] at hp
            go_simp
            exact hK _ (Grow.refl _)
          -- operation 13
          apply lexf_eq hsz [(9, true), (12, true)] [(36, 0), (37, 1), (38, 2), (39, 3), (40, 4), (41, 5), (42, 6), (43, 7), (44, 8), (45, 9), (46, 10), (47, 11), (48, 12), (51, 15), (52, 16), (54, 18), (55, 19), (56, 20), (57, 21), (58, 22), (59, 23), (60, 24), (61, 25), (62, 26), (63, 27), (64, 28), (65, 29), (66, 30)] (some (45, true)) (by kernel_rfl) (by kernel_rfl) (by kernel_rfl) (by kernel_rfl) rfl
          · intro xs w hw hp K hK
            simp only [holdsL, List.nil_append, List.cons_append, List.getD_cons_succ, List.getD_cons_zero, if_true, and_true] at hp
            go_simp
            first | (refine (HOld.out w (Grow.undrew hw)).mono ?_; rintro e w' ⟨rfl, hb⟩; exact ⟨_, rfl, hK _ hb⟩) | exact hK _ (Grow.refl _)
          -- operation 14
          apply lexf_eq hsz [(9, true), (11, true), (13, true)] [(36, 0), (37, 1), (38, 2), (39, 3), (40, 4), (41, 5), (42, 6), (43, 7), (44, 8), (45, 9), (46, 10), (47, 11), (48, 12), (49, 13), (52, 16), (53, 17), (54, 18), (55, 19), (56, 20), (57, 21), (58, 22), (59, 23), (60, 24), (61, 25), (62, 26), (63, 27), (64, 28), (65, 29), (66, 30)] (some (45, true)) (by kernel_rfl) (by kernel_rfl) (by kernel_rfl) (by kernel_rfl) rfl
          · intro xs w hw hp K hK
            simp only [holdsL, List.nil_append, List.cons_append, List.getD_cons_succ, List.getD_cons_zero, if_true, and_true] at hp
            go_simp
            exact hK _ (Grow.refl _)
          -- operation 15
          apply lexf_eq hsz [(5, true), (9, true), (14, true)] [(36, 0), (37, 1), (38, 2), (39, 3), (40, 4), (41, 5), (42, 6), (43, 7), (44, 8), (45, 9), (46, 10), (47, 11), (48, 12), (49, 13), (50, 14), (53, 17), (54, 18), (55, 19), (56, 20), (57, 21), (58, 22), (59, 23), (60, 24), (61, 25), (62, 26), (63, 27), (64, 28), (65, 29), (66, 30)] (some (41, false)) (by kernel_rfl) (by kernel_rfl) (by kernel_rfl) (by kernel_rfl) rfl
          · intro xs w hw hp K hK
            simp only [holdsL, List.nil_append, List.cons_append, List.getD_cons_succ, List.getD_cons_zero, if_true, and_true] at hp
            go_simp
            exact hK _ (Grow.refl _)
          -- operation 16
          apply lexf_eq hsz [(5, true), (15, true)] [(36, 0), (37, 1), (38, 2), (39, 3), (40, 4), (41, 5), (42, 6), (43, 7), (44, 8), (45, 9), (46, 10), (47, 11), (48, 12), (49, 13), (50, 14), (51, 15), (54, 18), (55, 19), (56, 20), (57, 21), (58, 22), (59, 23), (60, 24), (61, 25), (62, 26), (63, 27), (64, 28), (65, 29), (66, 30)] none (by kernel_rfl) (by kernel_rfl) (by kernel_rfl) (by kernel_rfl) rfl
          · intro xs w hw hp K hK
            simp only [holdsL, List.nil_append, List.cons_append, List.getD_cons_succ, List.getD_cons_zero, if_true, and_true] at hp
            go_simp
            exact hK _ (Grow.refl _)
          -- operation 17
          apply lexf_eq hsz [(16, true)] [(36, 0), (37, 1), (38, 2), (39, 3), (40, 4), (41, 5), (42, 6), (43, 7), (44, 8), (45, 9), (46, 10), (47, 11), (48, 12), (49, 13), (50, 14), (51, 15), (52, 16), (63, 27), (64, 28), (65, 29), (66, 30)] none (by kernel_rfl) (by kernel_rfl) (by kernel_rfl) (by kernel_rfl) rfl
          · intro xs w hw hp K hK
            simp only [holdsL, List.nil_append, List.cons_append, List.getD_cons_succ, List.getD_cons_zero, if_true, and_true] at hp
            go_simp
            exact hK _ (Grow.refl _)
          -- operation 18
          apply lexf_eq hsz [(17, true)] [(36, 0), (37, 1), (38, 2), (39, 3), (40, 4), (41, 5), (42, 6), (43, 7), (44, 8), (45, 9), (46, 10), (47, 11), (48, 12), (49, 13), (50, 14), (51, 15), (52, 16), (53, 17), (56, 20), (57, 21), (58, 22), (59, 23), (60, 24), (61, 25), (62, 26), (63, 27), (64, 28), (65, 29), (66, 30)] (some (53, false)) (by kernel_rfl) (by kernel_rfl) (by kernel_rfl) (by kernel_rfl) rfl
          · intro xs w hw hp K hK
            simp only [holdsL, List.nil_append, List.cons_append, List.getD_cons_succ, List.getD_cons_zero, if_true, and_true] at hp
            go_simp
            exact hK _ (Grow.refl _)
          -- operation 19
          apply lexf_eq hsz [(17, true), (18, true)] [(36, 0), (37, 1), (38, 2), (39, 3), (40, 4), (41, 5), (42, 6), (43, 7), (44, 8), (45, 9), (46, 10), (47, 11), (48, 12), (49, 13), (50, 14), (51, 15), (52, 16), (53, 17), (54, 18), (57, 21), (58, 22), (59, 23), (60, 24), (61, 25), (62, 26), (63, 27), (64, 28), (65, 29), (66, 30)] (some (53, false)) (by kernel_rfl) (by kernel_rfl) (by kernel_rfl) (by kernel_rfl) rfl
          · intro xs w hw hp K hK
            simp only [holdsL, List.nil_append, List.cons_append, List.getD_cons_succ, List.getD_cons_zero, if_true, and_true] at hp
            obtain ⟨-, -, -, x3, x4, x5, -⟩ := HX.out w (Grow.undrew hw)
            go_simp
            exact hK _ (Grow.refl _)
          -- operation 20
          apply lexf_eq hsz [(17, true), (19, true)] [(36, 0), (37, 1), (38, 2), (39, 3), (40, 4), (41, 5), (42, 6), (43, 7), (44, 8), (45, 9), (46, 10), (47, 11), (48, 12), (49, 13), (50, 14), (51, 15), (52, 16), (53, 17), (54, 18), (55, 19), (57, 21), (58, 22), (59, 23), (61, 25), (62, 26), (63, 27), (64, 28), (65, 29), (66, 30)] (some (53, false)) (by kernel_rfl) (by kernel_rfl) (by kernel_rfl) (by kernel_rfl) rfl
          · intro xs w hw hp K hK
            simp only [holdsL, List.nil_append, List.cons_append, List.getD_cons_succ, List.getD_cons_zero, if_true, and_true] at hp
            go_simp
            exact hK _ (Grow.refl _)
          -- operation 21
          apply lexf_eq hsz [(17, true)] [(36, 0), (37, 1), (38, 2), (39, 3), (40, 4), (41, 5), (42, 6), (43, 7), (44, 8), (45, 9), (46, 10), (47, 11), (48, 12), (49, 13), (50, 14), (51, 15), (52, 16), (53, 17), (54, 18), (55, 19), (56, 20), (59, 23), (60, 24), (61, 25), (62, 26), (63, 27), (64, 28), (65, 29), (66, 30)] (some (53, false)) (by kernel_rfl) (by kernel_rfl) (by kernel_rfl) (by kernel_rfl) rfl
          · intro xs w hw hp K hK
            simp only [holdsL, List.nil_append, List.cons_append, List.getD_cons_succ, List.getD_cons_zero, if_true, and_true] at hp
            go_simp
            exact hK _ (Grow.refl _)
          -- operation 22
          apply lexf_eq hsz [(17, true), (21, true)] [(36, 0), (37, 1), (38, 2), (39, 3), (40, 4), (41, 5), (42, 6), (43, 7), (44, 8), (45, 9), (46, 10), (47, 11), (48, 12), (49, 13), (50, 14), (51, 15), (52, 16), (53, 17), (54, 18), (55, 19), (56, 20), (57, 21), (60, 24), (61, 25), (62, 26), (63, 27), (64, 28), (65, 29), (66, 30)] (some (53, false)) (by kernel_rfl) (by kernel_rfl) (by kernel_rfl) (by kernel_rfl) rfl
          · intro xs w hw hp K hK
            simp only [holdsL, List.nil_append, List.cons_append, List.getD_cons_succ, List.getD_cons_zero, if_true, and_true] at hp
            obtain ⟨-, -, -, x3, x4, x5, -⟩ := HX.out w (Grow.undrew hw)
            go_simp
            exact hK _ (Grow.refl _)
          -- operation 23
          apply lexf_eq hsz [(17, true), (22, true)] [(36, 0), (37, 1), (38, 2), (39, 3), (40, 4), (41, 5), (42, 6), (43, 7), (44, 8), (45, 9), (46, 10), (47, 11), (48, 12), (49, 13), (50, 14), (51, 15), (52, 16), (53, 17), (54, 18), (55, 19), (56, 20), (57, 21), (58, 22), (61, 25), (62, 26), (63, 27), (64, 28), (65, 29), (66, 30)] (some (53, false)) (by kernel_rfl) (by kernel_rfl) (by kernel_rfl) (by kernel_rfl) rfl
          · intro xs w hw hp K hK
            simp only [holdsL, List.nil_append, List.cons_append, List.getD_cons_succ, List.getD_cons_zero, if_true, and_true] at hp
            go_simp
            exact hK _ (Grow.refl _)
          -- operation 24
          apply lexf_eq hsz [(17, true), (20, true), (23, true)] [(36, 0), (37, 1), (38, 2), (39, 3), (40, 4), (41, 5), (42, 6), (43, 7), (44, 8), (45, 9), (46, 10), (47, 11), (48, 12), (49, 13), (50, 14), (51, 15), (52, 16), (53, 17), (54, 18), (55, 19), (56, 20), (57, 21), (58, 22), (59, 23), (62, 26), (63, 27), (64, 28), (65, 29), (66, 30)] (some (53, false)) (by kernel_rfl) (by kernel_rfl) (by kernel_rfl) (by kernel_rfl) rfl
          · intro xs w hw hp K hK
            simp only [holdsL, List.nil_append, List.cons_append, List.getD_cons_succ, List.getD_cons_zero, if_true, and_true] at hp
            go_simp
            exact hK _ (Grow.refl _)
          -- operation 25
          apply lexf_eq hsz [(17, true), (24, true)] [(36, 0), (37, 1), (38, 2), (39, 3), (40, 4), (41, 5), (42, 6), (43, 7), (44, 8), (45, 9), (46, 10), (47, 11), (48, 12), (49, 13), (50, 14), (51, 15), (52, 16), (53, 17), (54, 18), (55, 19), (56, 20), (57, 21), (58, 22), (59, 23), (60, 24), (63, 27), (64, 28), (65, 29), (66, 30)] none (by kernel_rfl) (by kernel_rfl) (by kernel_rfl) (by kernel_rfl) rfl
          · intro xs w hw hp K hK
            simp only [holdsL, List.nil_append, List.cons_append, List.getD_cons_succ, List.getD_cons_zero, if_true, and_true] at hp
            go_simp
            exact hK _ (Grow.refl _)
          -- operation 26
          apply lexf_eq hsz [(25, true)] [(36, 0), (37, 1), (38, 2), (39, 3), (40, 4), (41, 5), (42, 6), (43, 7), (44, 8), (45, 9), (46, 10), (47, 11), (48, 12), (49, 13), (50, 14), (51, 15), (52, 16), (53, 17), (54, 18), (55, 19), (56, 20), (57, 21), (58, 22), (59, 23), (60, 24), (61, 25)] none (by kernel_rfl) (by kernel_rfl) (by kernel_rfl) (by kernel_rfl) rfl
          · intro xs w hw hp K hK
            simp only [holdsL, List.nil_append, List.cons_append, List.getD_cons_succ, List.getD_cons_zero, if_true, and_true] at hp
            go_simp
            exact hK _ (Grow.refl _)
          -- operation 27
          apply lexf_eq hsz [(26, true)] [(36, 0), (37, 1), (38, 2), (39, 3), (40, 4), (41, 5), (42, 6), (43, 7), (44, 8), (45, 9), (46, 10), (47, 11), (48, 12), (49, 13), (50, 14), (51, 15), (52, 16), (53, 17), (54, 18), (55, 19), (56, 20), (57, 21), (58, 22), (59, 23), (60, 24), (61, 25), (62, 26), (65, 29), (66, 30)] (some (62, false)) (by kernel_rfl) (by kernel_rfl) (by kernel_rfl) (by kernel_rfl) rfl
          · intro xs w hw hp K hK
            simp only [holdsL, List.nil_append, List.cons_append, List.getD_cons_succ, List.getD_cons_zero, if_true, and_true] at hp
            go_simp
            exact hK _ (Grow.refl _)
          -- operation 28
          apply lexf_eq hsz [(26, true), (27, true)] [(36, 0), (37, 1), (38, 2), (39, 3), (40, 4), (41, 5), (42, 6), (43, 7), (44, 8), (45, 9), (46, 10), (47, 11), (48, 12), (49, 13), (50, 14), (51, 15), (52, 16), (53, 17), (54, 18), (55, 19), (56, 20), (57, 21), (58, 22), (59, 23), (60, 24), (61, 25), (62, 26), (63, 27), (66, 30)] (some (62, false)) (by kernel_rfl) (by kernel_rfl) (by kernel_rfl) (by kernel_rfl) rfl
          · intro xs w hw hp K hK
            simp only [holdsL, List.nil_append, List.cons_append, List.getD_cons_succ, List.getD_cons_zero, if_true, and_true] at hp
            obtain ⟨-, -, -, x3, x4, x5, -⟩ := HX.out w (Grow.undrew hw)
            go_simp
            exact hK _ (Grow.refl _)
          -- operation 29
          apply lexf_eq hsz [(26, true), (28, true)] [(36, 0), (37, 1), (38, 2), (39, 3), (40, 4), (41, 5), (42, 6), (43, 7), (44, 8), (45, 9), (46, 10), (47, 11), (48, 12), (49, 13), (50, 14), (51, 15), (52, 16), (53, 17), (54, 18), (55, 19), (56, 20), (57, 21), (58, 22), (59, 23), (60, 24), (61, 25), (62, 26), (63, 27), (64, 28)] (some (62, false)) (by kernel_rfl) (by kernel_rfl) (by kernel_rfl) (by kernel_rfl) rfl
          · intro xs w hw hp K hK
            simp only [holdsL, List.nil_append, List.cons_append, List.getD_cons_succ, List.getD_cons_zero, if_true, and_true] at hp
            go_simp
            exact hK _ (Grow.refl _)
          intro xs w hw hp
          have ha0 := HA0.out
          clear HA0 hsz s3 s5
          simp only [holdsL, List.nil_append, List.cons_append, List.getD_cons_succ, List.getD_cons_zero, if_true, and_true] at hp
          have h26 := hp.2.2.2.2.2.2.2.2.2.2.2.2.2.2.2.2.2.2.2.2.2.2.2.2.2.2.1
          have h29 := hp.2.2.2.2.2.2.2.2.2.2.2.2.2.2.2.2.2.2.2.2.2.2.2.2.2.2.2.2.2
          clear hp
          subst ha0
          simp only [putAll, h26, h29]
          have HG9 := keep (Grow.trans HG6.out hw.undrew)
          clear hw
          go_frame
          go_wp2_with (go_at_call 12; refine (HRu2.out _ HG9.out).mono ?_; rintro e w11 ⟨la, lc, rfl, hrow, hb, -⟩; have HL11 := keep hrow; have HG11 := keep (Grow.trans HG9.out hb); clear hrow hb)
          go_loopw [8] (fun i wr => UpRel bs.length w11 i wr) (fun i _ => bs.length - (intOf i).toNat)
          case atStart => exact show UpRel bs.length w11 _ _ from ⟨1, Nat.le_refl _, rfl, .inr rfl, keep (Below.refl _ _)⟩
          case round =>
            obtain ⟨j, hj1, rfl, hjl, HGj⟩ := hrel
            by_cases hltj : j < bs.length
            · have hup := up_at HUp.out hj1 (by simpa using hltj)
              obtain ⟨c', off', cap', e, d0⟩ := ints_at (Row.fits HL11.out HGj.out) (by simp) (k := j) (by simpa using hltj)
              simp only [Value.slice.injEq] at e
              obtain ⟨rfl, -, rfl⟩ := e
              obtain ⟨c2, off2, cap2, e, d1⟩ := ints_at (Row.fits HL11.out HGj.out) (by simp) (k := j - 1) (by simp; omega)
              simp only [Value.slice.injEq, Option.some.injEq, Addr.mk.injEq] at e
              obtain ⟨⟨rfl, rfl, -⟩, -, -⟩ := e
              simp only [List.getElem_map] at d0 d1 hup
              generalize bs[j] = y at *
              generalize bs[j - 1] = z at *
              have e3 : decide (y.1 ≤ z.1) = false := decide_eq_false (by omega)
              have e4 : wrap64 ((j : Int) - 1) = ((j - 1 : Nat) : Int) := by
                rw [show (j : Int) - 1 = ((j - 1 : Nat) : Int) by omega]
                unfold wrap64
                omega
              clear hup
              go_upto_region 16 with fail
              go_quiet (fail)
              go_wp2_with fail
              go_roundw
              case rel => exact show UpRel bs.length w11 _ _ from ⟨j + 1, by omega, by first | go_num | simp, by omega, keep (grow_drewN HGj.out _)⟩
              case measure => simp [intOf]; omega
            · go_wp2_with fail
              go_roundw
              case rel => exact (show (Value.int .i64 ((k : Int) + 1)) = .int .i64 ((k + 1 : Nat) : Int) by first | rfl | simp) ▸ HTend.out _ (Grow.trans HG11.out HGj.out)
              case measure => simp [intOf]; omega
        · have eB : (t.first != 0) = true := by simp [h0]
          have eC : (t.first == 0) = false := by simp [h0]
          have eD : (t.last == 0) = false := by simp; omega
          have eF : decide (t.first < od) = false := decide_eq_false (by have := i2 h0; omega)
          clear hI3 i1 i2 i3 i4 h0
          go_upto_region 10 with fail
          refine wp_region_grow_named (by kernel_rfl) 30 (by kernel_rfl) [(36, 0), (37, 1), (38, 2), (39, 3), (40, 4), (41, 5), (42, 6), (43, 7), (44, 8), (45, 9), (46, 10), (47, 11), (48, 12), (49, 13), (50, 14), (51, 15), (52, 16), (53, 17), (54, 18), (55, 19), (56, 20), (57, 21), (58, 22), (59, 23), (60, 24), (61, 25), (62, 26), (63, 27), (64, 28), (65, 29)] (by kernel_rfl) [(0, true), (1, true), (2, true), (3, true), (4, true), (5, true), (6, true), (7, true), (8, true), (9, true), (10, true), (11, true), (12, true), (13, true), (14, true), (15, true), (16, true), (17, true), (18, true), (19, true), (20, true), (21, true), (22, true), (23, true), (24, true), (25, true), (26, true), (27, true), (28, true), (29, true)] (by kernel_rfl) rfl rfl ?_
          intro a0 ha0
          have hsz : a0.tmps.size = 86 := (size_at ha0).trans rfl
          have s3 := slot_at ha0 3 rfl
          have s5 := slot_at ha0 5 rfl
          have HA0 := keep ha0
          clear ha0
          -- operation 0
          apply lexf_eq hsz [] [(38, 2), (39, 3), (40, 4), (41, 5), (42, 6), (43, 7), (44, 8), (45, 9), (46, 10), (47, 11), (48, 12), (49, 13), (50, 14), (51, 15), (52, 16), (53, 17), (54, 18), (55, 19), (56, 20), (57, 21), (58, 22), (59, 23), (60, 24), (61, 25), (62, 26), (63, 27), (64, 28), (65, 29), (66, 30)] none (by kernel_rfl) (by kernel_rfl) (by kernel_rfl) (by kernel_rfl) rfl
          · intro xs w hw hp K hK
            go_simp
            exact hK _ (Grow.refl _)
          -- operation 1
          apply lexf_eq hsz [(0, true)] [(36, 0), (38, 2), (39, 3), (41, 5), (42, 6), (43, 7), (44, 8), (45, 9), (46, 10), (47, 11), (48, 12), (49, 13), (50, 14), (51, 15), (52, 16), (53, 17), (54, 18), (55, 19), (56, 20), (57, 21), (58, 22), (59, 23), (60, 24), (61, 25), (62, 26), (63, 27), (64, 28), (65, 29), (66, 30)] none (by kernel_rfl) (by kernel_rfl) (by kernel_rfl) (by kernel_rfl) rfl
          · intro xs w hw hp K hK
            simp only [holdsL, List.nil_append, List.getD_cons_zero, if_true, and_true] at hp
            obtain ⟨-, -, -, x3, x4, x5, -⟩ := HX.out w (Grow.undrew hw)
            go_simp
            exact hK _ (Grow.refl _)
          -- operation 2
          apply lexf_eq hsz [] [(36, 0), (37, 1), (40, 4), (41, 5), (42, 6), (43, 7), (44, 8), (45, 9), (46, 10), (47, 11), (48, 12), (49, 13), (50, 14), (51, 15), (52, 16), (53, 17), (54, 18), (55, 19), (56, 20), (57, 21), (58, 22), (59, 23), (60, 24), (61, 25), (62, 26), (63, 27), (64, 28), (65, 29), (66, 30)] none (by kernel_rfl) (by kernel_rfl) (by kernel_rfl) (by kernel_rfl) rfl
          · intro xs w hw hp K hK
            go_simp
            exact hK _ (Grow.refl _)
          -- operation 3
          apply lexf_eq hsz [(2, true)] [(36, 0), (37, 1), (38, 2), (41, 5), (42, 6), (43, 7), (44, 8), (45, 9), (46, 10), (47, 11), (48, 12), (49, 13), (50, 14), (51, 15), (52, 16), (53, 17), (54, 18), (55, 19), (56, 20), (57, 21), (58, 22), (59, 23), (60, 24), (61, 25), (62, 26), (63, 27), (64, 28), (65, 29), (66, 30)] none (by kernel_rfl) (by kernel_rfl) (by kernel_rfl) (by kernel_rfl) rfl
          · intro xs w hw hp K hK
            simp only [holdsL, List.nil_append, List.cons_append, List.getD_cons_succ, List.getD_cons_zero, if_true, and_true] at hp
            obtain ⟨-, -, -, x3, x4, x5, -⟩ := HX.out w (Grow.undrew hw)
            go_simp
            exact hK _ (Grow.refl _)
          -- operation 4
          apply lexf_eq hsz [(1, true), (3, true)] [(36, 0), (37, 1), (38, 2), (39, 3), (42, 6), (43, 7), (44, 8), (45, 9), (46, 10), (47, 11), (48, 12), (49, 13), (50, 14), (51, 15), (52, 16), (53, 17), (54, 18), (55, 19), (56, 20), (57, 21), (58, 22), (59, 23), (60, 24), (61, 25), (62, 26), (63, 27), (64, 28), (65, 29), (66, 30)] none (by kernel_rfl) (by kernel_rfl) (by kernel_rfl) (by kernel_rfl) rfl
          · intro xs w hw hp K hK
            simp only [holdsL, List.nil_append, List.cons_append, List.getD_cons_succ, List.getD_cons_zero, if_true, and_true] at hp
            go_simp
            exact hK _ (Grow.refl _)
          -- operation 5
          apply lexf_eq hsz [(4, true)] [(36, 0), (37, 1), (38, 2), (39, 3), (40, 4), (46, 10), (47, 11), (48, 12), (49, 13), (50, 14), (53, 17), (54, 18), (55, 19), (56, 20), (57, 21), (58, 22), (59, 23), (60, 24), (61, 25), (62, 26), (63, 27), (64, 28), (65, 29), (66, 30)] none (by kernel_rfl) (by kernel_rfl) (by kernel_rfl) (by kernel_rfl) rfl
          · intro xs w hw hp K hK
            simp only [holdsL, List.nil_append, List.cons_append, List.getD_cons_succ, List.getD_cons_zero, if_true, and_true] at hp
            go_simp
            exact hK _ (Grow.refl _)
          -- operation 6
          apply lexf_eq hsz [(5, true)] [(36, 0), (37, 1), (38, 2), (39, 3), (40, 4), (41, 5), (44, 8), (45, 9), (46, 10), (47, 11), (48, 12), (49, 13), (50, 14), (51, 15), (52, 16), (53, 17), (54, 18), (55, 19), (56, 20), (57, 21), (58, 22), (59, 23), (60, 24), (61, 25), (62, 26), (63, 27), (64, 28), (65, 29), (66, 30)] (some (41, false)) (by kernel_rfl) (by kernel_rfl) (by kernel_rfl) (by kernel_rfl) rfl
          · intro xs w hw hp K hK
            simp only [holdsL, List.nil_append, List.cons_append, List.getD_cons_succ, List.getD_cons_zero, if_true, and_true] at hp
            go_simp
            exact hK _ (Grow.refl _)
          -- operation 7
          apply lexf_eq hsz [(5, true), (6, true)] [(36, 0), (37, 1), (38, 2), (39, 3), (40, 4), (41, 5), (42, 6), (45, 9), (46, 10), (47, 11), (48, 12), (49, 13), (50, 14), (51, 15), (52, 16), (53, 17), (54, 18), (55, 19), (56, 20), (57, 21), (58, 22), (59, 23), (60, 24), (61, 25), (62, 26), (63, 27), (64, 28), (65, 29), (66, 30)] (some (41, false)) (by kernel_rfl) (by kernel_rfl) (by kernel_rfl) (by kernel_rfl) rfl
          · intro xs w hw hp K hK
            simp only [holdsL, List.nil_append, List.cons_append, List.getD_cons_succ, List.getD_cons_zero, if_true, and_true] at hp
            obtain ⟨-, -, -, x3, x4, x5, -⟩ := HX.out w (Grow.undrew hw)
            go_simp
            exact hK _ (Grow.refl _)
          -- operation 8
          apply lexf_eq hsz [(5, true), (7, true)] [(36, 0), (37, 1), (38, 2), (39, 3), (40, 4), (41, 5), (42, 6), (43, 7), (46, 10), (47, 11), (48, 12), (49, 13), (50, 14), (51, 15), (52, 16), (53, 17), (54, 18), (55, 19), (56, 20), (57, 21), (58, 22), (59, 23), (60, 24), (61, 25), (62, 26), (63, 27), (64, 28), (65, 29), (66, 30)] (some (41, false)) (by kernel_rfl) (by kernel_rfl) (by kernel_rfl) (by kernel_rfl) rfl
          · intro xs w hw hp K hK
            simp only [holdsL, List.nil_append, List.cons_append, List.getD_cons_succ, List.getD_cons_zero, if_true, and_true] at hp
            go_simp
            exact hK _ (Grow.refl _)
          -- operation 9
          apply lexf_eq hsz [(5, true), (8, true)] [(36, 0), (37, 1), (38, 2), (39, 3), (40, 4), (41, 5), (42, 6), (43, 7), (44, 8), (52, 16), (53, 17), (54, 18), (55, 19), (56, 20), (57, 21), (58, 22), (59, 23), (60, 24), (61, 25), (62, 26), (63, 27), (64, 28), (65, 29), (66, 30)] (some (41, false)) (by kernel_rfl) (by kernel_rfl) (by kernel_rfl) (by kernel_rfl) rfl
          · intro xs w hw hp K hK
            simp only [holdsL, List.nil_append, List.cons_append, List.getD_cons_succ, List.getD_cons_zero, if_true, and_true] at hp
            go_simp
            exact hK _ (Grow.refl _)
          -- operation 10
          apply lexf_eq hsz [(9, true)] [(36, 0), (37, 1), (38, 2), (39, 3), (40, 4), (41, 5), (42, 6), (43, 7), (44, 8), (45, 9), (48, 12), (49, 13), (50, 14), (51, 15), (52, 16), (53, 17), (54, 18), (55, 19), (56, 20), (57, 21), (58, 22), (59, 23), (60, 24), (61, 25), (62, 26), (63, 27), (64, 28), (65, 29), (66, 30)] (some (45, true)) (by kernel_rfl) (by kernel_rfl) (by kernel_rfl) (by kernel_rfl) rfl
          · intro xs w hw hp K hK
            simp only [holdsL, List.nil_append, List.cons_append, List.getD_cons_succ, List.getD_cons_zero, if_true, and_true] at hp
            go_simp
            exact hK _ (Grow.refl _)
          -- operation 11
          apply lexf_eq hsz [(9, true), (10, true)] [(36, 0), (37, 1), (38, 2), (39, 3), (40, 4), (41, 5), (42, 6), (43, 7), (44, 8), (45, 9), (46, 10), (48, 12), (49, 13), (51, 15), (52, 16), (53, 17), (54, 18), (55, 19), (56, 20), (57, 21), (58, 22), (59, 23), (60, 24), (61, 25), (62, 26), (63, 27), (64, 28), (65, 29), (66, 30)] (some (45, true)) (by kernel_rfl) (by kernel_rfl) (by kernel_rfl) (by kernel_rfl) rfl
          · intro xs w hw hp K hK
            simp only [holdsL, List.nil_append, List.cons_append, List.getD_cons_succ, List.getD_cons_zero, if_true, and_true] at hp
            obtain ⟨-, -, -, x3, x4, x5, -⟩ := HX.out w (Grow.undrew hw)
            go_simp
            exact hK _ (Grow.refl _)
          -- operation 12
          apply lexf_eq hsz [(9, true)] [(36, 0), (37, 1), (38, 2), (39, 3), (40, 4), (41, 5), (42, 6), (43, 7), (44, 8), (45, 9), (46, 10), (47, 11), (50, 14), (51, 15), (52, 16), (53, 17), (54, 18), (55, 19), (56, 20), (57, 21), (58, 22), (59, 23), (60, 24), (61, 25), (62, 26), (63, 27), (64, 28), (65, 29), (66, 30)] (some (45, true)) (by kernel_rfl) (by kernel_rfl) (by kernel_rfl) (by kernel_rfl) rfl
          · intro xs w hw hp K hK
            simp only [holdsL, List.nil_append, List.cons_append, List.getD_cons_succ, List.getD_cons_zero, if_true, and_true] at hp
            go_simp
            exact hK _ (Grow.refl _)
          -- operation 13
          apply lexf_eq hsz [(9, true), (12, true)] [(36, 0), (37, 1), (38, 2), (39, 3), (40, 4), (41, 5), (42, 6), (43, 7), (44, 8), (45, 9), (46, 10), (47, 11), (48, 12), (51, 15), (52, 16), (54, 18), (55, 19), (56, 20), (57, 21), (58, 22), (59, 23), (60, 24), (61, 25), (62, 26), (63, 27), (64, 28), (65, 29), (66, 30)] (some (45, true)) (by kernel_rfl) (by kernel_rfl) (by kernel_rfl) (by kernel_rfl) rfl
          · intro xs w hw hp K hK
            simp only [holdsL, List.nil_append, List.cons_append, List.getD_cons_succ, List.getD_cons_zero, if_true, and_true] at hp
            go_simp
            first | (refine (HOld.out w (Grow.undrew hw)).mono ?_; rintro e w' ⟨rfl, hb⟩; exact ⟨_, rfl, hK _ hb⟩) | exact hK _ (Grow.refl _)
          -- operation 14
          apply lexf_eq hsz [(9, true), (11, true), (13, true)] [(36, 0), (37, 1), (38, 2), (39, 3), (40, 4), (41, 5), (42, 6), (43, 7), (44, 8), (45, 9), (46, 10), (47, 11), (48, 12), (49, 13), (52, 16), (53, 17), (54, 18), (55, 19), (56, 20), (57, 21), (58, 22), (59, 23), (60, 24), (61, 25), (62, 26), (63, 27), (64, 28), (65, 29), (66, 30)] (some (45, true)) (by kernel_rfl) (by kernel_rfl) (by kernel_rfl) (by kernel_rfl) rfl
          · intro xs w hw hp K hK
            simp only [holdsL, List.nil_append, List.cons_append, List.getD_cons_succ, List.getD_cons_zero, if_true, and_true] at hp
            go_simp
            exact hK _ (Grow.refl _)
          -- operation 15
          apply lexf_eq hsz [(5, true), (9, true), (14, true)] [(36, 0), (37, 1), (38, 2), (39, 3), (40, 4), (41, 5), (42, 6), (43, 7), (44, 8), (45, 9), (46, 10), (47, 11), (48, 12), (49, 13), (50, 14), (53, 17), (54, 18), (55, 19), (56, 20), (57, 21), (58, 22), (59, 23), (60, 24), (61, 25), (62, 26), (63, 27), (64, 28), (65, 29), (66, 30)] (some (41, false)) (by kernel_rfl) (by kernel_rfl) (by kernel_rfl) (by kernel_rfl) rfl
          · intro xs w hw hp K hK
            simp only [holdsL, List.nil_append, List.cons_append, List.getD_cons_succ, List.getD_cons_zero, if_true, and_true] at hp
            go_simp
            exact hK _ (Grow.refl _)
          -- operation 16
          apply lexf_eq hsz [(5, true), (15, true)] [(36, 0), (37, 1), (38, 2), (39, 3), (40, 4), (41, 5), (42, 6), (43, 7), (44, 8), (45, 9), (46, 10), (47, 11), (48, 12), (49, 13), (50, 14), (51, 15), (54, 18), (55, 19), (56, 20), (57, 21), (58, 22), (59, 23), (60, 24), (61, 25), (62, 26), (63, 27), (64, 28), (65, 29), (66, 30)] none (by kernel_rfl) (by kernel_rfl) (by kernel_rfl) (by kernel_rfl) rfl
          · intro xs w hw hp K hK
            simp only [holdsL, List.nil_append, List.cons_append, List.getD_cons_succ, List.getD_cons_zero, if_true, and_true] at hp
            go_simp
            exact hK _ (Grow.refl _)
          -- operation 17
          apply lexf_eq hsz [(16, true)] [(36, 0), (37, 1), (38, 2), (39, 3), (40, 4), (41, 5), (42, 6), (43, 7), (44, 8), (45, 9), (46, 10), (47, 11), (48, 12), (49, 13), (50, 14), (51, 15), (52, 16), (63, 27), (64, 28), (65, 29), (66, 30)] none (by kernel_rfl) (by kernel_rfl) (by kernel_rfl) (by kernel_rfl) rfl
          · intro xs w hw hp K hK
            simp only [holdsL, List.nil_append, List.cons_append, List.getD_cons_succ, List.getD_cons_zero, if_true, and_true] at hp
            go_simp
            exact hK _ (Grow.refl _)
          -- operation 18
          apply lexf_eq hsz [(17, true)] [(36, 0), (37, 1), (38, 2), (39, 3), (40, 4), (41, 5), (42, 6), (43, 7), (44, 8), (45, 9), (46, 10), (47, 11), (48, 12), (49, 13), (50, 14), (51, 15), (52, 16), (53, 17), (56, 20), (57, 21), (58, 22), (59, 23), (60, 24), (61, 25), (62, 26), (63, 27), (64, 28), (65, 29), (66, 30)] (some (53, false)) (by kernel_rfl) (by kernel_rfl) (by kernel_rfl) (by kernel_rfl) rfl
          · intro xs w hw hp K hK
            simp only [holdsL, List.nil_append, List.cons_append, List.getD_cons_succ, List.getD_cons_zero, if_true, and_true] at hp
            go_simp
            exact hK _ (Grow.refl _)
          -- operation 19
          apply lexf_eq hsz [(17, true), (18, true)] [(36, 0), (37, 1), (38, 2), (39, 3), (40, 4), (41, 5), (42, 6), (43, 7), (44, 8), (45, 9), (46, 10), (47, 11), (48, 12), (49, 13), (50, 14), (51, 15), (52, 16), (53, 17), (54, 18), (57, 21), (58, 22), (59, 23), (60, 24), (61, 25), (62, 26), (63, 27), (64, 28), (65, 29), (66, 30)] (some (53, false)) (by kernel_rfl) (by kernel_rfl) (by kernel_rfl) (by kernel_rfl) rfl
          · intro xs w hw hp K hK
            simp only [holdsL, List.nil_append, List.cons_append, List.getD_cons_succ, List.getD_cons_zero, if_true, and_true] at hp
            obtain ⟨-, -, -, x3, x4, x5, -⟩ := HX.out w (Grow.undrew hw)
            go_simp
            exact hK _ (Grow.refl _)
          -- operation 20
          apply lexf_eq hsz [(17, true), (19, true)] [(36, 0), (37, 1), (38, 2), (39, 3), (40, 4), (41, 5), (42, 6), (43, 7), (44, 8), (45, 9), (46, 10), (47, 11), (48, 12), (49, 13), (50, 14), (51, 15), (52, 16), (53, 17), (54, 18), (55, 19), (57, 21), (58, 22), (59, 23), (61, 25), (62, 26), (63, 27), (64, 28), (65, 29), (66, 30)] (some (53, false)) (by kernel_rfl) (by kernel_rfl) (by kernel_rfl) (by kernel_rfl) rfl
          · intro xs w hw hp K hK
            simp only [holdsL, List.nil_append, List.cons_append, List.getD_cons_succ, List.getD_cons_zero, if_true, and_true] at hp
            go_simp
            exact hK _ (Grow.refl _)
          -- operation 21
          apply lexf_eq hsz [(17, true)] [(36, 0), (37, 1), (38, 2), (39, 3), (40, 4), (41, 5), (42, 6), (43, 7), (44, 8), (45, 9), (46, 10), (47, 11), (48, 12), (49, 13), (50, 14), (51, 15), (52, 16), (53, 17), (54, 18), (55, 19), (56, 20), (59, 23), (60, 24), (61, 25), (62, 26), (63, 27), (64, 28), (65, 29), (66, 30)] (some (53, false)) (by kernel_rfl) (by kernel_rfl) (by kernel_rfl) (by kernel_rfl) rfl
          · intro xs w hw hp K hK
            simp only [holdsL, List.nil_append, List.cons_append, List.getD_cons_succ, List.getD_cons_zero, if_true, and_true] at hp
            go_simp
            exact hK _ (Grow.refl _)
          -- operation 22
          apply lexf_eq hsz [(17, true), (21, true)] [(36, 0), (37, 1), (38, 2), (39, 3), (40, 4), (41, 5), (42, 6), (43, 7), (44, 8), (45, 9), (46, 10), (47, 11), (48, 12), (49, 13), (50, 14), (51, 15), (52, 16), (53, 17), (54, 18), (55, 19), (56, 20), (57, 21), (60, 24), (61, 25), (62, 26), (63, 27), (64, 28), (65, 29), (66, 30)] (some (53, false)) (by kernel_rfl) (by kernel_rfl) (by kernel_rfl) (by kernel_rfl) rfl
          · intro xs w hw hp K hK
            simp only [holdsL, List.nil_append, List.cons_append, List.getD_cons_succ, List.getD_cons_zero, if_true, and_true] at hp
            obtain ⟨-, -, -, x3, x4, x5, -⟩ := HX.out w (Grow.undrew hw)
            go_simp
            exact hK _ (Grow.refl _)
          -- operation 23
          apply lexf_eq hsz [(17, true), (22, true)] [(36, 0), (37, 1), (38, 2), (39, 3), (40, 4), (41, 5), (42, 6), (43, 7), (44, 8), (45, 9), (46, 10), (47, 11), (48, 12), (49, 13), (50, 14), (51, 15), (52, 16), (53, 17), (54, 18), (55, 19), (56, 20), (57, 21), (58, 22), (61, 25), (62, 26), (63, 27), (64, 28), (65, 29), (66, 30)] (some (53, false)) (by kernel_rfl) (by kernel_rfl) (by kernel_rfl) (by kernel_rfl) rfl
          · intro xs w hw hp K hK
            simp only [holdsL, List.nil_append, List.cons_append, List.getD_cons_succ, List.getD_cons_zero, if_true, and_true] at hp
            go_simp
            exact hK _ (Grow.refl _)
          -- operation 24
          apply lexf_eq hsz [(17, true), (20, true), (23, true)] [(36, 0), (37, 1), (38, 2), (39, 3), (40, 4), (41, 5), (42, 6), (43, 7), (44, 8), (45, 9), (46, 10), (47, 11), (48, 12), (49, 13), (50, 14), (51, 15), (52, 16), (53, 17), (54, 18), (55, 19), (56, 20), (57, 21), (58, 22), (59, 23), (62, 26), (63, 27), (64, 28), (65, 29), (66, 30)] (some (53, false)) (by kernel_rfl) (by kernel_rfl) (by kernel_rfl) (by kernel_rfl) rfl
          · intro xs w hw hp K hK
            simp only [holdsL, List.nil_append, List.cons_append, List.getD_cons_succ, List.getD_cons_zero, if_true, and_true] at hp
            go_simp
            exact hK _ (Grow.refl _)
          -- operation 25
          apply lexf_eq hsz [(17, true), (24, true)] [(36, 0), (37, 1), (38, 2), (39, 3), (40, 4), (41, 5), (42, 6), (43, 7), (44, 8), (45, 9), (46, 10), (47, 11), (48, 12), (49, 13), (50, 14), (51, 15), (52, 16), (53, 17), (54, 18), (55, 19), (56, 20), (57, 21), (58, 22), (59, 23), (60, 24), (63, 27), (64, 28), (65, 29), (66, 30)] none (by kernel_rfl) (by kernel_rfl) (by kernel_rfl) (by kernel_rfl) rfl
          · intro xs w hw hp K hK
            simp only [holdsL, List.nil_append, List.cons_append, List.getD_cons_succ, List.getD_cons_zero, if_true, and_true] at hp
            go_simp
            exact hK _ (Grow.refl _)
          -- operation 26
          apply lexf_eq hsz [(25, true)] [(36, 0), (37, 1), (38, 2), (39, 3), (40, 4), (41, 5), (42, 6), (43, 7), (44, 8), (45, 9), (46, 10), (47, 11), (48, 12), (49, 13), (50, 14), (51, 15), (52, 16), (53, 17), (54, 18), (55, 19), (56, 20), (57, 21), (58, 22), (59, 23), (60, 24), (61, 25)] none (by kernel_rfl) (by kernel_rfl) (by kernel_rfl) (by kernel_rfl) rfl
          · intro xs w hw hp K hK
            simp only [holdsL, List.nil_append, List.cons_append, List.getD_cons_succ, List.getD_cons_zero, if_true, and_true] at hp
            go_simp
            exact hK _ (Grow.refl _)
          -- operation 27
          apply lexf_eq hsz [(26, true)] [(36, 0), (37, 1), (38, 2), (39, 3), (40, 4), (41, 5), (42, 6), (43, 7), (44, 8), (45, 9), (46, 10), (47, 11), (48, 12), (49, 13), (50, 14), (51, 15), (52, 16), (53, 17), (54, 18), (55, 19), (56, 20), (57, 21), (58, 22), (59, 23), (60, 24), (61, 25), (62, 26), (65, 29), (66, 30)] (some (62, false)) (by kernel_rfl) (by kernel_rfl) (by kernel_rfl) (by kernel_rfl) rfl
          · intro xs w hw hp K hK
            simp only [holdsL, List.nil_append, List.cons_append, List.getD_cons_succ, List.getD_cons_zero, if_true, and_true] at hp
            go_simp
            exact hK _ (Grow.refl _)
          -- operation 28
          apply lexf_eq hsz [(26, true), (27, true)] [(36, 0), (37, 1), (38, 2), (39, 3), (40, 4), (41, 5), (42, 6), (43, 7), (44, 8), (45, 9), (46, 10), (47, 11), (48, 12), (49, 13), (50, 14), (51, 15), (52, 16), (53, 17), (54, 18), (55, 19), (56, 20), (57, 21), (58, 22), (59, 23), (60, 24), (61, 25), (62, 26), (63, 27), (66, 30)] (some (62, false)) (by kernel_rfl) (by kernel_rfl) (by kernel_rfl) (by kernel_rfl) rfl
          · intro xs w hw hp K hK
            simp only [holdsL, List.nil_append, List.cons_append, List.getD_cons_succ, List.getD_cons_zero, if_true, and_true] at hp
            obtain ⟨-, -, -, x3, x4, x5, -⟩ := HX.out w (Grow.undrew hw)
            go_simp
            exact hK _ (Grow.refl _)
          -- operation 29
          apply lexf_eq hsz [(26, true), (28, true)] [(36, 0), (37, 1), (38, 2), (39, 3), (40, 4), (41, 5), (42, 6), (43, 7), (44, 8), (45, 9), (46, 10), (47, 11), (48, 12), (49, 13), (50, 14), (51, 15), (52, 16), (53, 17), (54, 18), (55, 19), (56, 20), (57, 21), (58, 22), (59, 23), (60, 24), (61, 25), (62, 26), (63, 27), (64, 28)] (some (62, false)) (by kernel_rfl) (by kernel_rfl) (by kernel_rfl) (by kernel_rfl) rfl
          · intro xs w hw hp K hK
            simp only [holdsL, List.nil_append, List.cons_append, List.getD_cons_succ, List.getD_cons_zero, if_true, and_true] at hp
            go_simp
            exact hK _ (Grow.refl _)
          intro xs w hw hp
          have ha0 := HA0.out
          clear HA0 hsz s3 s5
          simp only [holdsL, List.nil_append, List.cons_append, List.getD_cons_succ, List.getD_cons_zero, if_true, and_true] at hp
          have h26 := hp.2.2.2.2.2.2.2.2.2.2.2.2.2.2.2.2.2.2.2.2.2.2.2.2.2.2.1
          have h29 := hp.2.2.2.2.2.2.2.2.2.2.2.2.2.2.2.2.2.2.2.2.2.2.2.2.2.2.2.2.2
          clear hp
          subst ha0
          simp only [putAll, h26, h29]
          have HG9 := keep (Grow.trans HG6.out hw.undrew)
          clear hw
          go_frame
          go_wp2_with (go_at_call 12; refine (HRu2.out _ HG9.out).mono ?_; rintro e w11 ⟨la, lc, rfl, hrow, hb, -⟩; have HL11 := keep hrow; have HG11 := keep (Grow.trans HG9.out hb); clear hrow hb)
          go_loopw [8] (fun i wr => UpRel bs.length w11 i wr) (fun i _ => bs.length - (intOf i).toNat)
          case atStart => exact show UpRel bs.length w11 _ _ from ⟨1, Nat.le_refl _, rfl, .inr rfl, keep (Below.refl _ _)⟩
          case round =>
            obtain ⟨j, hj1, rfl, hjl, HGj⟩ := hrel
            by_cases hltj : j < bs.length
            · have hup := up_at HUp.out hj1 (by simpa using hltj)
              obtain ⟨c', off', cap', e, d0⟩ := ints_at (Row.fits HL11.out HGj.out) (by simp) (k := j) (by simpa using hltj)
              simp only [Value.slice.injEq] at e
              obtain ⟨rfl, -, rfl⟩ := e
              obtain ⟨c2, off2, cap2, e, d1⟩ := ints_at (Row.fits HL11.out HGj.out) (by simp) (k := j - 1) (by simp; omega)
              simp only [Value.slice.injEq, Option.some.injEq, Addr.mk.injEq] at e
              obtain ⟨⟨rfl, rfl, -⟩, -, -⟩ := e
              simp only [List.getElem_map] at d0 d1 hup
              generalize bs[j] = y at *
              generalize bs[j - 1] = z at *
              have e3 : decide (y.1 ≤ z.1) = false := decide_eq_false (by omega)
              have e4 : wrap64 ((j : Int) - 1) = ((j - 1 : Nat) : Int) := by
                rw [show (j : Int) - 1 = ((j - 1 : Nat) : Int) by omega]
                unfold wrap64
                omega
              clear hup
              go_upto_region 16 with fail
              go_quiet (fail)
              go_wp2_with fail
              go_roundw
              case rel => exact show UpRel bs.length w11 _ _ from ⟨j + 1, by omega, by first | go_num | simp, by omega, keep (grow_drewN HGj.out _)⟩
              case measure => simp [intOf]; omega
            · go_wp2_with fail
              go_roundw
              case rel => exact (show (Value.int .i64 ((k : Int) + 1)) = .int .i64 ((k + 1 : Nat) : Int) by first | rfl | simp) ▸ HTend.out _ (Grow.trans HG11.out HGj.out)
              case measure => simp [intOf]; omega
    · have e : k = ps.length := by omega
      subst e
      go_wp2_with (go_at_call 13; refine (awake_any wr).mono ?_; rintro e w9 ⟨rfl, hb9⟩)
      go_ret
      exact ⟨rfl, HB.out.trans (hb9.mono HB.out.size)⟩

theorem oldest_top (v : Value) (ps : List (Cl × Value)) (w_ : World) (hin : OpsIn w_ v ps) (hn : ps.length ≤ 2199023255552) : Calls Try.prog 3 #[v] w_ fun e w' => e = .returned (.bool true) ∧ Below w_.heap.size w_ w' := oldest_law v ps w_ hin (by omega)

end Go.Proofs.Ytgijmlienolhpaa
