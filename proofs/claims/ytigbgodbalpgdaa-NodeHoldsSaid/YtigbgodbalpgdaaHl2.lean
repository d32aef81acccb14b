/- almonrylaw14.NodeHolds. -/
import Derived.Test.YtigbgodbalpgdaaHl1
import Derived.Test.YtigbgodbalpgdaaRl2
import Derived.Test.YtigbgodbalpgdaaSm1
namespace Go.Proofs.Ytigbgodbalpgdaa
open Go.RowKit
attribute [local go_sem] givesF_none givesF_some evalF_tmp evalF_const evalF_global evalF_func lookL isB_bool isB_undef givesUpon_value givesUpon_skip givesUpon_enter

attribute [local simp] eql_entry neq_entry sameE_self
attribute [local go_sem] guard_entry

set_option maxRecDepth 100000 in
set_option maxHeartbeats 4000000 in
theorem holds_any (l : List En) (v : Value) (e : En) (w_ : World) (h : Row w_ 23 v l.length (eCells l)) (hl : (l.length : Int) ≤ 4398046510976) :
    Calls Try.prog 7 #[v, enV e] w_ fun x w' => x = .returned (.bool true) ∧ Below w_.heap.size w_ w' := by
  have hgood := growL_good l
  have hof := insN_of hgood e
  have hins := fun (u : World) (iv : Value) (hi : ItemsC u iv (pgOf (growL l)).items) => insert_any (pgOf (growL l)) iv e u (pgIn_good hgood hi)
  have hen := fun (u : World) (iv : Value) (hi : ItemsC u iv (pgOf (growL l)).items) => entries_of hgood iv u hi
  have hrn := fun (hn : e ∉ growL l) (u : World) (iv : Value) (hi : ItemsC u iv (pgOf (growL l)).items) => remove_none hgood hn iv u hi
  have hino := fun (hb : insB (growL l) e = true) => ins_of hgood hb
  have hgr0 := fun (u : World) (hu : Grow w_ u) => grown_any l v u (Row.fits h hu) hl
  generalize insN (pgOf (growL l)) e = R at *
  obtain ⟨Q, cd⟩ := R
  unfold PgPost at hins
  dsimp only at hins
  generalize insL (growL l) e = M at *
  generalize posE (growL l) e = J at *
  generalize insB (growL l) e = B at *
  generalize growL l = L at *
  obtain ⟨a, cap, rfl⟩ : ∃ a cap, v = .slice a l.length cap := by
    rcases h with ⟨h1, _, a, cap, h2⟩ | ⟨c, off, cap, h1, _⟩
    · exact ⟨a, cap, by rw [h2, h1]⟩
    · exact ⟨_, _, h1⟩
  have hl255 := good_length hgood
  obtain ⟨k, p, s⟩ := e
  unfold enV at *
  dsimp only at *
  obtain ⟨w0, hw0⟩ : ∃ w0, w0 = (w_.alloc (.cells #[.string (str k), .int .i64 p, .int .i64 s] 23)) := ⟨_, rfl⟩
  have hg0 : Grow w_ w0 := by subst hw0; exact (Grow.refl w_).alloc _
  have hE0 : Blk w0 w_.heap.size 23 [.string (str k), .int .i64 p, .int .i64 s] := by
    have := Blk.new w_ 23 [.string (str k), .int .i64 p, .int .i64 s]
    subst hw0; exact this
  have HGr := keep (hgr0 w0 hg0)
  have HIns := keep hins
  have HEn := keep hen
  have HRn := keep hrn
  have HIno := keep hino
  have HOf := keep hof
  have HG0 := keep hg0
  have HE0 := keep hE0
  clear hgr0 hins hen hrn hino hof hg0 hE0 h hl
  go_enter Try.func7, Try.ntmps7
  go_upto_region 1 with fail
  rw [← hw0]
  clear hw0
  go_wp2_with fail
  refine HGr.out.mono ?_
  rintro x w1 ⟨iv, rfl, hi1, hb1⟩
  obtain ⟨pa, pc, rfl⟩ := itemsS_form hi1.1
  generalize hQ0 : pgOf L = P at *
  have HQ0 := keep hQ0
  clear hQ0
  unfold pgV
  go_upto_region 2 with fail
  obtain ⟨w2, hw2⟩ : ∃ w2, w2 = w1.alloc (.cells (pgCells P (.slice pa P.items.length pc)).toArray 39) := ⟨_, rfl⟩
  have hg2 : Grow w0 w2 := by subst hw2; exact Grow.alloc hb1 _
  have hP2 : Blk w2 w1.heap.size 39 (pgCells P (.slice pa P.items.length pc)) := by subst hw2; exact Blk.new w1 _ _
  have hi2 : ItemsC w2 (.slice pa P.items.length pc) P.items := hi1.fits (by subst hw2; exact (Grow.refl _).alloc _)
  have HP2 := keep hP2
  have HI2 := keep hi2
  have HG2 := keep hg2
  unfold pgCells at hw2 hP2
  rw [← hw2]
  clear hw2 hb1 hi1 hi2 hg2 HGr
  obtain ⟨p0, p1, p2, p3, p4, p5, _⟩ := pgres hP2
  clear hP2
  have hen := HEn.out w2 _ HI2.out
  unfold pgV at hen
  have HEn2 := keep hen
  clear hen HEn
  go_wp2_with fail
  refine HEn2.out.mono ?_
  rintro x w3 ⟨ea, ec, rfl, hes, hb3⟩
  have HEs := keep hes
  have HP3 := keep (HP2.out.fits hb3)
  have HI3 := keep (HI2.out.fits hb3)
  have HG3 := keep (Grow.trans HG2.out hb3)
  have hP3 := HP3.out
  have hE3 := HE0.out.fits HG3.out
  unfold pgCells at hP3
  clear p0 p1 p2 p3 p4 p5 hes hb3 HP2 HI2 HG2 HEn2
  obtain ⟨p0, p1, p2, p3, p4, p5, _⟩ := pgres hP3
  obtain ⟨e0, e1, e2, _⟩ := enres hE3
  clear hP3 hE3
  have hins := HIns.out w3 _ HI3.out
  unfold pgV at hins
  have HIns2 := keep hins
  clear hins HIns
  go_wp2_with fail
  refine HIns2.out.mono ?_
  rintro x w4 ⟨iv4, rfl, hi4, hb4⟩
  obtain ⟨qa, qc, rfl⟩ := itemsS_form hi4.1
  go_upto_region 6 with fail
  obtain ⟨w5, hw5⟩ : ∃ w5, w5 = w4.alloc (.cells (pgCells Q (.slice qa Q.items.length qc)).toArray 39) := ⟨_, rfl⟩
  have hg5 : Grow w3 w5 := by subst hw5; exact Grow.alloc hb4 _
  have hQ5 : Blk w5 w4.heap.size 39 (pgCells Q (.slice qa Q.items.length qc)) := by subst hw5; exact Blk.new w4 _ _
  have hi5 : ItemsC w5 (.slice qa Q.items.length qc) Q.items := hi4.fits (by subst hw5; exact (Grow.refl _).alloc _)
  have HQ5 := keep hQ5
  have HI5 := keep hi5
  have HG5 := keep hg5
  unfold pgCells at hw5 hQ5
  rw [← hw5]
  clear hw5 hb4 hi4 hi5 hg5 p0 p1 p2 p3 p4 p5 e0 e1 e2
  rcases HOf.out with ⟨hb, hR⟩ | ⟨hb, cc, hcc, hR⟩
  · simp only [Prod.mk.injEq] at hR
    obtain ⟨hQe, rfl⟩ := hR
    have hino := HIno.out hb
    have HIno2 := keep hino
    have hen := fun (u : World) (iv : Value) (hi : ItemsC u iv (pgOf M).items) => entries_of hino.good iv u hi
    rw [← hQe] at hen
    have HQe := keep hQe
    clear hb hino hQe HIno HOf
    obtain ⟨q0, q1, q2, q3, q4, q5, _⟩ := pgres hQ5
    clear hQ5
    unfold pgV at hen
    have HEn2 := keep (hen w5 _ HI5.out)
    clear hen
    go_wp2_with fail
    refine HEn2.out.mono ?_
    rintro x w6 ⟨na, nc, rfl, hns, hb6⟩
    have hml := HIno2.out.len
    have HNs := keep hns
    have HG6 := keep (Grow.trans HG5.out hb6)
    have HB6 := keep hb6
    clear hns hb6 q0 q1 q2 q3 q4 q5
    go_wp2_with fail
    go_loopw [12, 13] (fun x i wr => ∃ n m : Nat, n ≤ M.length ∧ x = .int .i64 m ∧ i = .int .i64 n ∧ Kept ((n ≤ J ∧ m = n) ∨ (J < n ∧ n = m + 1)) ∧ Kept (Grow w6 wr)) (fun _ i _ => M.length - (intOf i).toNat)
    case atStart => exact ⟨0, 0, Nat.zero_le _, rfl, rfl, keep (.inl ⟨Nat.zero_le _, rfl⟩), keep (Grow.refl _)⟩
    case round =>
      obtain ⟨n, m, hn, rfl, rfl, HK, HG⟩ := hrel
      have HGw := keep (Grow.trans HG3.out (Grow.trans HG6.out HG.out))
      by_cases hlt : n < M.length
      · obtain ⟨cn, offn, capn, e1, hcn⟩ := ens_at HNs.out hlt
        simp only [Value.slice.injEq] at e1
        obtain ⟨rfl, x1, x2⟩ := e1
        clear x1 x2
        have HCn := keep hcn
        clear hcn
        go_upto_region 15 with fail
        go_cut [73] from 53 to 96 (fun sv wx => sv = .bool false ∧ Grow wr wx)
        case first =>
          by_cases h0 : n = 0
          · have hd : decide ((0 : Int) < (n : Int)) = false := decide_eq_false (by omega)
            have hd2 : decide (0 < n) = false := decide_eq_false (by omega)
            clear h0
            go_quiet (fail)
            go_wp2_with fail
            all_goals go_meet
            all_goals (case rel => exact ⟨rfl, below_drewN (Grow.refl _) _⟩)
          · obtain ⟨j, hjn⟩ : ∃ j, n = j + 1 := ⟨n - 1, by omega⟩
            have hj : j < M.length := by omega
            have hless : cmpE (M[j]'hj) M[n] = -1 := by
              subst hjn
              exact HIno2.out.less j hlt
            have Hjn := keep hjn
            clear hjn h0
            obtain ⟨c3, off3, cap3, e3, hc3⟩ := ens_at HNs.out hj
            simp only [Value.slice.injEq, Option.some.injEq, Addr.mk.injEq] at e3
            obtain ⟨⟨rfl, rfl, x0⟩, x1, x2⟩ := e3
            have hcp := fun (u : World) => compare_any M[j] M[n] u
            rw [hless] at hcp
            have hcd := HCn.out
            generalize M[j] = g0 at *
            generalize M[n] = g1 at *
            obtain ⟨k0, p0, s0⟩ := g0
            obtain ⟨k1, p1, s1⟩ := g1
            unfold enV at hcp
            dsimp only at hcp hc3 hcd
            have HCp := keep hcp
            have HC7 := keep (fun (u : World) (hu : Grow wr.drew u) => hc3 u (Grow.trans HG.out (Grow.undrew hu)))
            have HD7 := keep (fun (u : World) (hu : Grow wr.drew u) => hcd u (Grow.trans HG.out (Grow.undrew hu)))
            clear hcp hc3 hcd hless x0 x1 x2 HCn
            refine wp_region_grow_named (by kernel_rfl) 14 (by kernel_rfl) [(59, 0), (60, 1), (61, 2), (62, 3), (63, 4), (64, 5), (65, 6), (66, 7), (67, 8), (68, 9), (69, 10), (70, 11), (71, 12), (72, 13)] (by kernel_rfl) [(0, true), (1, true), (2, true), (3, true), (4, true), (5, true), (6, true), (7, true), (8, true), (9, true), (10, true), (11, true), (12, true), (13, true)] (by kernel_rfl) rfl rfl ?_
            intro a0 ha0
            have hsz : a0.tmps.size = 139 := (size_at ha0).trans rfl
            have s10 := slot_at ha0 10 rfl
            have s13 := slot_at ha0 13 rfl
            have HA0 := keep ha0
            clear ha0
            -- operation 0
            apply lexf_eq hsz [] [(61, 2), (62, 3), (63, 4), (64, 5), (65, 6), (66, 7), (67, 8), (68, 9), (69, 10), (70, 11), (71, 12), (72, 13), (73, 14)] none (by kernel_rfl) (by kernel_rfl) (by kernel_rfl) (by kernel_rfl) rfl
            · intro xs w hw hp K hK
              go_simp
              exact hK _ (Grow.refl _)
            -- operation 1
            apply lexf_eq hsz [(0, true)] [(59, 0), (62, 3), (63, 4), (64, 5), (65, 6), (66, 7), (67, 8), (68, 9), (69, 10), (70, 11), (71, 12), (72, 13), (73, 14)] none (by kernel_rfl) (by kernel_rfl) (by kernel_rfl) (by kernel_rfl) rfl
            · intro xs w hw hp K hK
              simp only [holdsL, List.nil_append, List.cons_append, List.getD_cons_succ, List.getD_cons_zero, if_true, and_true] at hp
              have q0 : 0 < n := by have := Hjn.out; omega
              have q1 : (0 : Int) < (n : Int) := by omega
              go_simp
              exact hK _ (Grow.refl _)
            -- operation 2
            apply lexf_eq hsz [(1, true)] [(59, 0), (60, 1)] none (by kernel_rfl) (by kernel_rfl) (by kernel_rfl) (by kernel_rfl) rfl
            · intro xs w hw hp K hK
              simp only [holdsL, List.nil_append, List.cons_append, List.getD_cons_succ, List.getD_cons_zero, if_true, and_true] at hp
              go_simp
              exact hK _ (Grow.refl _)
            -- operation 3
            apply lexf_eq hsz [(2, true)] [(59, 0), (60, 1), (61, 2), (63, 4), (64, 5), (66, 7), (67, 8), (68, 9), (69, 10), (70, 11), (71, 12), (72, 13), (73, 14)] (some (61, true)) (by kernel_rfl) (by kernel_rfl) (by kernel_rfl) (by kernel_rfl) rfl
            · intro xs w hw hp K hK
              simp only [holdsL, List.nil_append, List.cons_append, List.getD_cons_succ, List.getD_cons_zero, if_true, and_true] at hp
              go_simp
              exact hK _ (Grow.refl _)
            -- operation 4
            apply lexf_eq hsz [(2, true)] [(59, 0), (60, 1), (61, 2), (62, 3), (65, 6), (66, 7), (67, 8), (68, 9), (69, 10), (70, 11), (71, 12), (72, 13), (73, 14)] (some (61, true)) (by kernel_rfl) (by kernel_rfl) (by kernel_rfl) (by kernel_rfl) rfl
            · intro xs w hw hp K hK
              simp only [holdsL, List.nil_append, List.cons_append, List.getD_cons_succ, List.getD_cons_zero, if_true, and_true] at hp
              go_simp
              exact hK _ (Grow.refl _)
            -- operation 5
            apply lexf_eq hsz [(2, true), (4, true)] [(59, 0), (60, 1), (61, 2), (62, 3), (63, 4), (66, 7), (67, 8), (68, 9), (69, 10), (70, 11), (71, 12), (72, 13), (73, 14)] (some (61, true)) (by kernel_rfl) (by kernel_rfl) (by kernel_rfl) (by kernel_rfl) rfl
            · intro xs w hw hp K hK
              simp only [holdsL, List.nil_append, List.cons_append, List.getD_cons_succ, List.getD_cons_zero, if_true, and_true] at hp
              have q0 : wrap64 ((n : Int) - 1) = (j : Int) := by
                have hjn := Hjn.out
                rw [show (n : Int) - 1 = (j : Int) by omega]
                exact wrap64_small j (by omega)
              have q1 : IntKind.i64.wrap ((n : Int) - 1) = (j : Int) := by
                have hjn := Hjn.out
                rw [show (n : Int) - 1 = (j : Int) by omega]
                exact wraps_i64 j (by omega) (by omega)
              go_simp
              exact hK _ (Grow.refl _)
            -- operation 6
            apply lexf_eq hsz [(2, true), (3, true), (5, true)] [(59, 0), (60, 1), (61, 2), (62, 3), (63, 4), (64, 5), (67, 8), (68, 9), (69, 10), (70, 11), (71, 12), (72, 13), (73, 14)] (some (61, true)) (by kernel_rfl) (by kernel_rfl) (by kernel_rfl) (by kernel_rfl) rfl
            · intro xs w hw hp K hK
              simp only [holdsL, List.nil_append, List.cons_append, List.getD_cons_succ, List.getD_cons_zero, if_true, and_true] at hp
              have q1 : j < L.length + 1 := by have := Hjn.out; omega
              have q2 : (j : Int) < (L.length : Int) + 1 := by omega
              go_simp
              exact hK _ (Grow.refl _)
            -- operation 7
            apply lexf_eq hsz [(2, true), (6, true)] [(59, 0), (60, 1), (61, 2), (62, 3), (63, 4), (64, 5), (65, 6), (67, 8), (68, 9), (69, 10), (70, 11), (72, 13), (73, 14)] (some (61, true)) (by kernel_rfl) (by kernel_rfl) (by kernel_rfl) (by kernel_rfl) rfl
            · intro xs w hw hp K hK
              simp only [holdsL, List.nil_append, List.cons_append, List.getD_cons_succ, List.getD_cons_zero, if_true, and_true] at hp
              obtain ⟨c0, c1, c2⟩ := HC7.out w hw
              go_simp
              exact hK _ (Grow.refl _)
            -- operation 8
            apply lexf_eq hsz [(2, true)] [(59, 0), (60, 1), (61, 2), (62, 3), (63, 4), (64, 5), (65, 6), (66, 7), (68, 9), (70, 11), (71, 12), (72, 13), (73, 14)] (some (61, true)) (by kernel_rfl) (by kernel_rfl) (by kernel_rfl) (by kernel_rfl) rfl
            · intro xs w hw hp K hK
              simp only [holdsL, List.nil_append, List.cons_append, List.getD_cons_succ, List.getD_cons_zero, if_true, and_true] at hp
              go_simp
              exact hK _ (Grow.refl _)
            -- operation 9
            apply lexf_eq hsz [(2, true)] [(59, 0), (60, 1), (61, 2), (62, 3), (63, 4), (64, 5), (65, 6), (66, 7), (67, 8), (70, 11), (71, 12), (72, 13), (73, 14)] (some (61, true)) (by kernel_rfl) (by kernel_rfl) (by kernel_rfl) (by kernel_rfl) rfl
            · intro xs w hw hp K hK
              simp only [holdsL, List.nil_append, List.cons_append, List.getD_cons_succ, List.getD_cons_zero, if_true, and_true] at hp
              go_simp
              exact hK _ (Grow.refl _)
            -- operation 10
            apply lexf_eq hsz [(2, true), (8, true), (9, true)] [(59, 0), (60, 1), (61, 2), (62, 3), (63, 4), (64, 5), (65, 6), (66, 7), (67, 8), (68, 9), (71, 12), (72, 13), (73, 14)] (some (61, true)) (by kernel_rfl) (by kernel_rfl) (by kernel_rfl) (by kernel_rfl) rfl
            · intro xs w hw hp K hK
              simp only [holdsL, List.nil_append, List.cons_append, List.getD_cons_succ, List.getD_cons_zero, if_true, and_true] at hp
              have q1 : n < L.length + 1 := by omega
              have q2 : (n : Int) < (L.length : Int) + 1 := by omega
              go_simp
              exact hK _ (Grow.refl _)
            -- operation 11
            apply lexf_eq hsz [(2, true), (10, true)] [(59, 0), (60, 1), (61, 2), (62, 3), (63, 4), (64, 5), (65, 6), (66, 7), (67, 8), (68, 9), (69, 10), (72, 13), (73, 14)] (some (61, true)) (by kernel_rfl) (by kernel_rfl) (by kernel_rfl) (by kernel_rfl) rfl
            · intro xs w hw hp K hK
              simp only [holdsL, List.nil_append, List.cons_append, List.getD_cons_succ, List.getD_cons_zero, if_true, and_true] at hp
              obtain ⟨c0, c1, c2⟩ := HD7.out w hw
              go_simp
              exact hK _ (Grow.refl _)
            -- operation 12
            apply lexf_eq hsz [(2, true), (7, true), (11, true)] [(59, 0), (60, 1), (61, 2), (62, 3), (63, 4), (64, 5), (65, 6), (66, 7), (67, 8), (68, 9), (69, 10), (70, 11), (73, 14)] (some (61, true)) (by kernel_rfl) (by kernel_rfl) (by kernel_rfl) (by kernel_rfl) rfl
            · intro xs w hw hp K hK
              simp only [holdsL, List.nil_append, List.cons_append, List.getD_cons_succ, List.getD_cons_zero, if_true, and_true] at hp
              go_simp
              exact (HCp.out w).mono fun e w' h => ⟨_, h.1, hK _ h.2⟩
            -- operation 13
            apply lexf_eq hsz [(2, true), (12, true)] [(59, 0), (60, 1), (61, 2), (62, 3), (63, 4), (64, 5), (65, 6), (66, 7), (67, 8), (68, 9), (69, 10), (70, 11), (71, 12)] (some (61, true)) (by kernel_rfl) (by kernel_rfl) (by kernel_rfl) (by kernel_rfl) rfl
            · intro xs w hw hp K hK
              simp only [holdsL, List.nil_append, List.cons_append, List.getD_cons_succ, List.getD_cons_zero, if_true, and_true] at hp
              go_simp
              exact hK _ (Grow.refl _)
            intro xs w hw hp
            have ha0 := HA0.out
            clear HA0 hsz s10 s13
            simp only [holdsL, List.nil_append, List.cons_append, List.getD_cons_succ, List.getD_cons_zero, if_true, and_true] at hp
            have h2 := hp.2.2.1
            have h13 := hp.2.2.2.2.2.2.2.2.2.2.2.2.2
            clear hp
            subst ha0
            simp only [putAll, h2, h13]
            have hgw := hw.undrew
            clear hw h2 h13
            go_wp2_with fail
            all_goals go_meet
            all_goals (case rel => exact ⟨rfl, hgw⟩)
        case rest =>
          obtain ⟨rfl, hgw⟩ := hcut
          generalize wc = wr2 at *
          have HGx := keep (Grow.trans HG.out hgw)
          have HGe := keep (Grow.trans HGw.out hgw)
          have HE7 := keep (fun (u : World) (hu : Grow wr2.drew u) => enres (HE0.out.fits (Grow.trans HGe.out (Grow.undrew hu))))
          have hcd := HCn.out
          have hget := HIno2.out.get n m hlt
          by_cases hk : n = J
          · have hat := HIno2.out.at_ (by omega)
            subst hk
            rw [hat] at hcd
            dsimp only at hcd
            have HD7 := keep (fun (u : World) (hu : Grow wr2.drew u) => hcd u (Grow.trans HGx.out (Grow.undrew hu)))
            clear hcd hget hat HCn
            go_upto_region 17 with fail
            refine wp_region_grow_named (by kernel_rfl) 5 (by kernel_rfl) [(74, 0), (75, 1), (76, 2), (77, 3), (78, 4)] (by kernel_rfl) [(0, true), (1, true), (2, true), (3, true), (4, true)] (by kernel_rfl) rfl rfl ?_
            intro a0 ha0
            have hsz : a0.tmps.size = 139 := (size_at ha0).trans rfl
            have s3 := slot_at ha0 3 rfl
            have s10 := slot_at ha0 10 rfl
            have s13 := slot_at ha0 13 rfl
            have HA0 := keep ha0
            clear ha0
            -- operation 0
            apply lexf_eq hsz [] [(75, 1), (77, 3), (78, 4), (79, 5)] none (by kernel_rfl) (by kernel_rfl) (by kernel_rfl) (by kernel_rfl) rfl
            · intro xs w hw hp K hK
              go_simp
              exact hK _ (Grow.refl _)
            -- operation 1
            apply lexf_eq hsz [] [(74, 0), (77, 3), (78, 4), (79, 5)] none (by kernel_rfl) (by kernel_rfl) (by kernel_rfl) (by kernel_rfl) rfl
            · intro xs w hw hp K hK
              go_simp
              exact hK _ (Grow.refl _)
            -- operation 2
            apply lexf_eq hsz [(0, true), (1, true)] [(74, 0), (75, 1), (78, 4), (79, 5)] none (by kernel_rfl) (by kernel_rfl) (by kernel_rfl) (by kernel_rfl) rfl
            · intro xs w hw hp K hK
              simp only [holdsL, List.nil_append, List.cons_append, List.getD_cons_succ, List.getD_cons_zero, if_true, and_true] at hp
              have q1 : n < L.length + 1 := by omega
              have q2 : (n : Int) < (L.length : Int) + 1 := by omega
              go_simp
              exact hK _ (Grow.refl _)
            -- operation 3
            apply lexf_eq hsz [(2, true)] [(74, 0), (75, 1), (76, 2), (78, 4)] none (by kernel_rfl) (by kernel_rfl) (by kernel_rfl) (by kernel_rfl) rfl
            · intro xs w hw hp K hK
              simp only [holdsL, List.nil_append, List.cons_append, List.getD_cons_succ, List.getD_cons_zero, if_true, and_true] at hp
              obtain ⟨c0, c1, c2⟩ := HD7.out w hw
              go_simp
              exact hK _ (Grow.refl _)
            -- operation 4
            apply lexf_eq hsz [] [(74, 0), (75, 1), (76, 2), (77, 3)] none (by kernel_rfl) (by kernel_rfl) (by kernel_rfl) (by kernel_rfl) rfl
            · intro xs w hw hp K hK
              obtain ⟨c0, c1, c2, _⟩ := HE7.out w hw
              go_simp
              exact hK _ (Grow.refl _)
            intro xs w hw hp
            have ha0 := HA0.out
            clear HA0 hsz s3 s10 s13
            simp only [holdsL, List.nil_append, List.cons_append, List.getD_cons_succ, List.getD_cons_zero, if_true, and_true] at hp
            have h3 := hp.2.2.2.1
            have h4 := hp.2.2.2.2
            clear hp
            subst ha0
            simp only [putAll, h3, h4]
            have hgw := hw.undrew
            have HG2 := keep (Grow.trans HGx.out hgw)
            clear hw h3 h4 HD7 HE7 hgw
            go_wp2_with fail
            go_roundw
            case rel => exact ⟨n + 1, m, by omega, rfl, by go_num, keep (by rcases HK.out with h | h <;> omega), HG2⟩
            case measure => simp [intOf]; omega
          · have hne := HIno2.out.other n hlt hk
            have hmL : m < L.length := by
              have hp := HIno2.out.pos
              rcases HK.out with h | h <;> omega
            have hg := hget hmL (by rcases HK.out with h | h <;> omega)
            obtain ⟨c4, off4, cap4, e4, hc4⟩ := ens_at HEs.out hmL
            simp only [Value.slice.injEq] at e4
            obtain ⟨rfl, x1, x2⟩ := e4
            have hcl := fun (u : World) (hu : Grow w6 u) => hc4 u (Grow.trans HG6.out hu)
            rw [hg] at hcd hne
            generalize L[m] = g1 at *
            obtain ⟨k1, p1, s1⟩ := g1
            dsimp only at hcd hcl
            have hse : sameE (k1, p1, s1) (k, p, s) = false := decide_eq_false hne
            have HD7 := keep (fun (u : World) (hu : Grow wr2.drew u) => hcd u (Grow.trans HGx.out (Grow.undrew hu)))
            have HM7 := keep (fun (u : World) (hu : Grow wr2 u) => hcd u (Grow.trans HGx.out hu))
            have HL7 := keep (fun (u : World) (hu : Grow wr2 u) => hcl u (Grow.trans HGx.out hu))
            clear hcd hget hne hg hc4 hcl x1 x2 HCn
            go_upto_region 17 with fail
            refine wp_region_grow_named (by kernel_rfl) 5 (by kernel_rfl) [(74, 0), (75, 1), (76, 2), (77, 3), (78, 4)] (by kernel_rfl) [(0, true), (1, true), (2, true), (3, true), (4, true)] (by kernel_rfl) rfl rfl ?_
            intro a0 ha0
            have hsz : a0.tmps.size = 139 := (size_at ha0).trans rfl
            have s3 := slot_at ha0 3 rfl
            have s10 := slot_at ha0 10 rfl
            have s13 := slot_at ha0 13 rfl
            have HA0 := keep ha0
            clear ha0
            -- operation 0
            apply lexf_eq hsz [] [(75, 1), (77, 3), (78, 4), (79, 5)] none (by kernel_rfl) (by kernel_rfl) (by kernel_rfl) (by kernel_rfl) rfl
            · intro xs w hw hp K hK
              go_simp
              exact hK _ (Grow.refl _)
            -- operation 1
            apply lexf_eq hsz [] [(74, 0), (77, 3), (78, 4), (79, 5)] none (by kernel_rfl) (by kernel_rfl) (by kernel_rfl) (by kernel_rfl) rfl
            · intro xs w hw hp K hK
              go_simp
              exact hK _ (Grow.refl _)
            -- operation 2
            apply lexf_eq hsz [(0, true), (1, true)] [(74, 0), (75, 1), (78, 4), (79, 5)] none (by kernel_rfl) (by kernel_rfl) (by kernel_rfl) (by kernel_rfl) rfl
            · intro xs w hw hp K hK
              simp only [holdsL, List.nil_append, List.cons_append, List.getD_cons_succ, List.getD_cons_zero, if_true, and_true] at hp
              have q1 : n < L.length + 1 := by omega
              have q2 : (n : Int) < (L.length : Int) + 1 := by omega
              go_simp
              exact hK _ (Grow.refl _)
            -- operation 3
            apply lexf_eq hsz [(2, true)] [(74, 0), (75, 1), (76, 2), (78, 4)] none (by kernel_rfl) (by kernel_rfl) (by kernel_rfl) (by kernel_rfl) rfl
            · intro xs w hw hp K hK
              simp only [holdsL, List.nil_append, List.cons_append, List.getD_cons_succ, List.getD_cons_zero, if_true, and_true] at hp
              obtain ⟨c0, c1, c2⟩ := HD7.out w hw
              go_simp
              exact hK _ (Grow.refl _)
            -- operation 4
            apply lexf_eq hsz [] [(74, 0), (75, 1), (76, 2), (77, 3)] none (by kernel_rfl) (by kernel_rfl) (by kernel_rfl) (by kernel_rfl) rfl
            · intro xs w hw hp K hK
              obtain ⟨c0, c1, c2, _⟩ := HE7.out w hw
              go_simp
              exact hK _ (Grow.refl _)
            intro xs w hw hp
            have ha0 := HA0.out
            clear HA0 hsz s3 s10 s13
            simp only [holdsL, List.nil_append, List.cons_append, List.getD_cons_succ, List.getD_cons_zero, if_true, and_true] at hp
            have h3 := hp.2.2.2.1
            have h4 := hp.2.2.2.2
            clear hp
            subst ha0
            simp only [putAll, h3, h4]
            have hgw := hw.undrew
            have HG2 := keep hgw
            clear hw h3 h4 HD7 HE7 hgw
            go_upto_region 18 with fail
            have HM8 := keep (fun (u : World) (hu : Grow w.drew u) => HM7.out u (Grow.trans HG2.out (Grow.undrew hu)))
            have HL8 := keep (fun (u : World) (hu : Grow w.drew u) => HL7.out u (Grow.trans HG2.out (Grow.undrew hu)))
            clear hse
            refine wp_region_grow_named (by kernel_rfl) 14 (by kernel_rfl) [(80, 0), (81, 1), (82, 2), (83, 3), (84, 4), (85, 5), (86, 6), (87, 7), (88, 8), (89, 9), (90, 10), (91, 11), (92, 12), (93, 13)] (by kernel_rfl) [(0, true), (1, true), (2, true), (3, true), (4, true), (5, true), (6, true), (7, true), (8, true), (9, true), (10, true), (11, true), (12, true), (13, true)] (by kernel_rfl) rfl rfl ?_
            intro a0 ha0
            have hsz : a0.tmps.size = 139 := (size_at ha0).trans rfl
            have s6 := slot_at ha0 6 rfl
            have s10 := slot_at ha0 10 rfl
            have s12 := slot_at ha0 12 rfl
            have s13 := slot_at ha0 13 rfl
            have HA0 := keep ha0
            clear ha0
            -- operation 0
            apply lexf_eq hsz [] [(81, 1), (82, 2), (84, 4), (85, 5), (86, 6), (87, 7), (88, 8), (89, 9), (90, 10), (91, 11), (92, 12), (93, 13), (94, 14)] none (by kernel_rfl) (by kernel_rfl) (by kernel_rfl) (by kernel_rfl) rfl
            · intro xs w hw hp K hK
              go_simp
              exact hK _ (Grow.refl _)
            -- operation 1
            apply lexf_eq hsz [] [(80, 0), (83, 3), (84, 4), (85, 5), (86, 6), (87, 7), (88, 8), (89, 9), (90, 10), (91, 11), (92, 12), (93, 13), (94, 14)] none (by kernel_rfl) (by kernel_rfl) (by kernel_rfl) (by kernel_rfl) rfl
            · intro xs w hw hp K hK
              go_simp
              exact hK _ (Grow.refl _)
            -- operation 2
            apply lexf_eq hsz [(1, true)] [(80, 0), (81, 1), (84, 4), (85, 5), (86, 6), (87, 7), (88, 8), (89, 9), (90, 10), (91, 11), (92, 12), (93, 13), (94, 14)] none (by kernel_rfl) (by kernel_rfl) (by kernel_rfl) (by kernel_rfl) rfl
            · intro xs w hw hp K hK
              simp only [holdsL, List.nil_append, List.cons_append, List.getD_cons_succ, List.getD_cons_zero, if_true, and_true] at hp
              go_simp
              exact hK _ (Grow.refl _)
            -- operation 3
            apply lexf_eq hsz [(0, true), (2, true)] [(80, 0), (81, 1), (82, 2), (85, 5), (86, 6), (87, 7), (88, 8), (89, 9), (90, 10), (91, 11), (92, 12), (93, 13), (94, 14)] none (by kernel_rfl) (by kernel_rfl) (by kernel_rfl) (by kernel_rfl) rfl
            · intro xs w hw hp K hK
              simp only [holdsL, List.nil_append, List.cons_append, List.getD_cons_succ, List.getD_cons_zero, if_true, and_true] at hp
              have q1 : (m : Int) < (L.length : Int) := by omega
              go_simp
              exact hK _ (Grow.refl _)
            -- operation 4
            apply lexf_eq hsz [(3, true)] [(80, 0), (81, 1), (82, 2), (83, 3)] none (by kernel_rfl) (by kernel_rfl) (by kernel_rfl) (by kernel_rfl) rfl
            · intro xs w hw hp K hK
              simp only [holdsL, List.nil_append, List.cons_append, List.getD_cons_succ, List.getD_cons_zero, if_true, and_true] at hp
              go_simp
              exact hK _ (Grow.refl _)
            -- operation 5
            apply lexf_eq hsz [(4, true)] [(80, 0), (81, 1), (82, 2), (83, 3), (84, 4), (86, 6), (88, 8), (89, 9), (90, 10), (91, 11), (92, 12), (93, 13), (94, 14)] (some (84, false)) (by kernel_rfl) (by kernel_rfl) (by kernel_rfl) (by kernel_rfl) rfl
            · intro xs w hw hp K hK
              simp only [holdsL, List.nil_append, List.cons_append, List.getD_cons_succ, List.getD_cons_zero, if_true, and_true] at hp
              go_simp
              exact hK _ (Grow.refl _)
            -- operation 6
            apply lexf_eq hsz [(4, true)] [(80, 0), (81, 1), (82, 2), (83, 3), (84, 4), (85, 5), (88, 8), (89, 9), (90, 10), (91, 11), (92, 12), (93, 13), (94, 14)] (some (84, false)) (by kernel_rfl) (by kernel_rfl) (by kernel_rfl) (by kernel_rfl) rfl
            · intro xs w hw hp K hK
              simp only [holdsL, List.nil_append, List.cons_append, List.getD_cons_succ, List.getD_cons_zero, if_true, and_true] at hp
              go_simp
              exact hK _ (Grow.refl _)
            -- operation 7
            apply lexf_eq hsz [(4, true), (5, true), (6, true)] [(80, 0), (81, 1), (82, 2), (83, 3), (84, 4), (85, 5), (86, 6), (89, 9), (90, 10), (91, 11), (92, 12), (93, 13), (94, 14)] (some (84, false)) (by kernel_rfl) (by kernel_rfl) (by kernel_rfl) (by kernel_rfl) rfl
            · intro xs w hw hp K hK
              simp only [holdsL, List.nil_append, List.cons_append, List.getD_cons_succ, List.getD_cons_zero, if_true, and_true] at hp
              have q1 : m < L.length := hmL
              go_simp
              exact hK _ (Grow.refl _)
            -- operation 8
            apply lexf_eq hsz [(4, true), (7, true)] [(80, 0), (81, 1), (82, 2), (83, 3), (84, 4), (85, 5), (86, 6), (87, 7), (89, 9), (90, 10), (91, 11), (92, 12), (94, 14)] (some (84, false)) (by kernel_rfl) (by kernel_rfl) (by kernel_rfl) (by kernel_rfl) rfl
            · intro xs w hw hp K hK
              simp only [holdsL, List.nil_append, List.cons_append, List.getD_cons_succ, List.getD_cons_zero, if_true, and_true] at hp
              obtain ⟨c0, c1, c2⟩ := HL8.out w hw
              go_simp
              exact hK _ (Grow.refl _)
            -- operation 9
            apply lexf_eq hsz [(4, true)] [(80, 0), (81, 1), (82, 2), (83, 3), (84, 4), (85, 5), (86, 6), (87, 7), (88, 8), (90, 10), (92, 12), (93, 13), (94, 14)] (some (84, false)) (by kernel_rfl) (by kernel_rfl) (by kernel_rfl) (by kernel_rfl) rfl
            · intro xs w hw hp K hK
              simp only [holdsL, List.nil_append, List.cons_append, List.getD_cons_succ, List.getD_cons_zero, if_true, and_true] at hp
              go_simp
              exact hK _ (Grow.refl _)
            -- operation 10
            apply lexf_eq hsz [(4, true)] [(80, 0), (81, 1), (82, 2), (83, 3), (84, 4), (85, 5), (86, 6), (87, 7), (88, 8), (89, 9), (92, 12), (93, 13), (94, 14)] (some (84, false)) (by kernel_rfl) (by kernel_rfl) (by kernel_rfl) (by kernel_rfl) rfl
            · intro xs w hw hp K hK
              simp only [holdsL, List.nil_append, List.cons_append, List.getD_cons_succ, List.getD_cons_zero, if_true, and_true] at hp
              go_simp
              exact hK _ (Grow.refl _)
            -- operation 11
            apply lexf_eq hsz [(4, true), (9, true), (10, true)] [(80, 0), (81, 1), (82, 2), (83, 3), (84, 4), (85, 5), (86, 6), (87, 7), (88, 8), (89, 9), (90, 10), (93, 13), (94, 14)] (some (84, false)) (by kernel_rfl) (by kernel_rfl) (by kernel_rfl) (by kernel_rfl) rfl
            · intro xs w hw hp K hK
              simp only [holdsL, List.nil_append, List.cons_append, List.getD_cons_succ, List.getD_cons_zero, if_true, and_true] at hp
              have q1 : n < L.length + 1 := by omega
              have q2 : (n : Int) < (L.length : Int) + 1 := by omega
              go_simp
              exact hK _ (Grow.refl _)
            -- operation 12
            apply lexf_eq hsz [(4, true), (11, true)] [(80, 0), (81, 1), (82, 2), (83, 3), (84, 4), (85, 5), (86, 6), (87, 7), (88, 8), (89, 9), (90, 10), (91, 11), (94, 14)] (some (84, false)) (by kernel_rfl) (by kernel_rfl) (by kernel_rfl) (by kernel_rfl) rfl
            · intro xs w hw hp K hK
              simp only [holdsL, List.nil_append, List.cons_append, List.getD_cons_succ, List.getD_cons_zero, if_true, and_true] at hp
              obtain ⟨c0, c1, c2⟩ := HM8.out w hw
              go_simp
              exact hK _ (Grow.refl _)
            -- operation 13
            apply lexf_eq hsz [(4, true), (8, true), (12, true)] [(80, 0), (81, 1), (82, 2), (83, 3), (84, 4), (85, 5), (86, 6), (87, 7), (88, 8), (89, 9), (90, 10), (91, 11), (92, 12)] (some (84, false)) (by kernel_rfl) (by kernel_rfl) (by kernel_rfl) (by kernel_rfl) rfl
            · intro xs w hw hp K hK
              simp only [holdsL, List.nil_append, List.cons_append, List.getD_cons_succ, List.getD_cons_zero, if_true, and_true] at hp
              go_simp
              exact hK _ (Grow.refl _)
            intro xs w9 hw hp
            have ha0 := HA0.out
            clear HA0 hsz s6 s10 s12 s13
            simp only [holdsL, List.nil_append, List.cons_append, List.getD_cons_succ, List.getD_cons_zero, if_true, and_true] at hp
            have h4 := hp.2.2.2.2.1
            have h13 := hp.2.2.2.2.2.2.2.2.2.2.2.2.2
            clear hp
            subst ha0
            simp only [putAll, h4, h13]
            have hgw := hw.undrew
            have HG9 := keep (Grow.trans HGx.out (Grow.trans HG2.out hgw))
            clear hw h4 h13 HM7 HL7 HM8 HL8 hgw
            go_wp2_with fail
            go_roundw
            case rel => exact ⟨n + 1, m + 1, by omega, by go_num, by go_num, keep (by rcases HK.out with h | h <;> omega), HG9⟩
            case measure => simp [intOf]; omega
      · have e : n = M.length := by omega
        subst e
        have hm : m = L.length := by
          have hp := HIno2.out.pos
          rcases HK.out with h | h <;> omega
        subst hm
        have hJ : J < M.length := by have := HIno2.out.pos; omega
        have hrm := fun (u : World) (iv : Value) (hi : ItemsC u iv (pgOf M).items) => remove_of HIno2.out.good J hJ iv u hi
        rw [HIno2.out.back, HIno2.out.at_ hJ] at hrm
        have htw := fun (u : World) (iv : Value) (hi : ItemsC u iv (pgOf M).items) => insert_twice HIno2.out.good (show (k, p, s) ∈ M from by rw [← HIno2.out.at_ hJ]; exact List.getElem_mem hJ) iv u hi
        have hno := HRn.out HIno2.out.out
        rw [HQ0.out, ← HQe.out] at hrm
        rw [← HQe.out] at htw
        unfold enV pgV at hrm
        unfold enV pgV at htw
        unfold pgV at hno
        dsimp only [zeroP] at htw hno
        have HRm := keep hrm
        have HTw := keep htw
        have HNo := keep hno
        clear hrm htw hno
        have hG5 := Grow.trans HB6.out HG.out
        have hP := HP3.out.fits (Grow.trans HG6.out HG.out)
        have hQ := HQ5.out.fits hG5
        have hE := HE0.out.fits HGw.out
        unfold pgCells at hP hQ
        obtain ⟨p0, p1, p2, p3, p4, p5, _⟩ := pgres hP
        obtain ⟨q0, q1, q2, q3, q4, q5, _⟩ := pgres hQ
        obtain ⟨e0, e1, e2, _⟩ := enres hE
        clear hP hQ hE
        go_wp2_with fail
        refine (HRm.out _ _ (HI5.out.fits hG5)).mono ?_
        rintro x w7 ⟨iv7, rfl, hi7, hb7⟩
        obtain ⟨ra, rc, rfl⟩ := itemsS_form hi7.1
        go_upto_region 22 with fail
        obtain ⟨w8, hw8⟩ : ∃ w8, w8 = w7.alloc (.cells (pgCells P (.slice ra P.items.length rc)).toArray 39) := ⟨_, rfl⟩
        have hg8 : Grow wr w8 := by subst hw8; exact Grow.alloc hb7 _
        have hR8 : Blk w8 w7.heap.size 39 (pgCells P (.slice ra P.items.length rc)) := by subst hw8; exact Blk.new w7 _ _
        have hi8 : ItemsC w8 (.slice ra P.items.length rc) P.items := hi7.fits (by subst hw8; exact (Grow.refl _).alloc _)
        have HR8 := keep hR8
        have HI8 := keep hi8
        have HG8 := keep hg8
        unfold pgCells at hw8
        rw [← hw8]
        clear hw8 hb7 hi7 hi8 hg8 hR8 p0 p1 p2 p3 p4 p5 q0 q1 q2 q3 q4 q5 e0 e1 e2
        have hG8 : Grow w5 w8 := Grow.trans hG5 HG8.out
        have hQ := HQ5.out.fits hG8
        have hE := HE0.out.fits (Grow.trans HGw.out HG8.out)
        unfold pgCells at hQ
        obtain ⟨q0, q1, q2, q3, q4, q5, _⟩ := pgres hQ
        obtain ⟨e0, e1, e2, _⟩ := enres hE
        clear hQ hE
        go_wp2_with fail
        refine (HTw.out _ _ (HI5.out.fits hG8)).mono ?_
        rintro x w9 ⟨iv9, rfl, hi9, hb9⟩
        obtain ⟨za, zc, rfl⟩ := itemsS_form hi9.1
        simp only [List.length_nil]
        go_upto_region 23 with fail
        obtain ⟨w10, hw10⟩ : ∃ w10, w10 = w9.alloc (.cells #[.int .i64 0, .int .i64 0, .int .i64 0, .int .i64 0, .string (str []), .slice za 0 zc] 39) := ⟨_, rfl⟩
        have hg10 : Grow w8 w10 := by subst hw10; exact Grow.alloc hb9 _
        rw [← hw10]
        clear hw10 hb9 hi9 q0 q1 q2 q3 q4 q5 e0 e1 e2
        have hR := HR8.out.fits hg10
        have hE := HE0.out.fits (Grow.trans HGw.out (Grow.trans HG8.out hg10))
        unfold pgCells at hR
        obtain ⟨q0, q1, q2, q3, q4, q5, _⟩ := pgres hR
        obtain ⟨e0, e1, e2, _⟩ := enres hE
        clear hR hE
        go_wp2_with fail
        refine (HNo.out _ _ (HI8.out.fits hg10)).mono ?_
        rintro x w11 ⟨iv11, rfl, hi11, hb11⟩
        obtain ⟨ya, yc, rfl⟩ := itemsS_form hi11.1
        simp only [List.length_nil]
        go_upto_region 24 with fail
        obtain ⟨w12, hw12⟩ : ∃ w12, w12 = w11.alloc (.cells #[.int .i64 0, .int .i64 0, .int .i64 0, .int .i64 0, .string (str []), .slice ya 0 yc] 39) := ⟨_, rfl⟩
        have hg12 : Grow w8 w12 := by subst hw12; exact Grow.alloc (Grow.trans hg10 hb11) _
        rw [← hw12]
        clear hw12 hb11 hi11 q0 q1 q2 q3 q4 q5 e0 e1 e2
        have hG3 : Grow w3 w12 := Grow.trans HG6.out (Grow.trans HG.out (Grow.trans HG8.out hg12))
        have hR := HR8.out.fits hg12
        have hP := HP3.out.fits hG3
        unfold pgCells at hR hP
        obtain ⟨p0, p1, p2, p3, p4, p5, _⟩ := pgres hP
        obtain ⟨q0, q1, q2, q3, q4, q5, _⟩ := pgres hR
        clear hR hP
        have hPl : (P.items.length : Int) ≤ 140737488355328 := by rw [← HQ0.out]; simp [pgOf]; omega
        have hsm := same_self P _ _ w12 (HI8.out.fits hg12).1.weak (HI3.out.fits hG3).1.weak hPl
        unfold pgV at hsm
        have HSm := keep hsm
        clear hsm hPl
        go_wp2_with fail
        refine HSm.out.mono ?_
        rintro x w13 ⟨rfl, hb13⟩
        go_wp2_with fail
        refine (awake_any w13).mono ?_
        rintro x w14 ⟨rfl, hb14⟩
        go_wp2_with fail
        go_ret
        exact ⟨rfl, Grow.trans HG0.out (Grow.trans HG3.out (Grow.trans hG3 (Grow.trans hb13 hb14)))⟩
  · simp only [Prod.mk.injEq] at hR
    obtain ⟨_, rfl⟩ := hR
    have hcc2 : (cd != 0) = true := by simp [hcc]
    clear hb hcc hQ5
    go_wp2_with fail
    refine (awake_any w5).mono ?_
    rintro x w6 ⟨rfl, hb6⟩
    go_wp2_with fail
    go_ret
    exact ⟨rfl, Grow.trans HG0.out (Grow.trans HG3.out (Grow.trans HG5.out hb6))⟩

end Go.Proofs.Ytigbgodbalpgdaa
