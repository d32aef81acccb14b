import Derived.Test.YtigbgodbalpgdaaKRl1
import Derived.Test.YtigbgodbalpgdaaKGr2
import Derived.Test.YtigbgodbalpgdaaKAw1
import Derived.Deep.CutRange
/- almonrylaw14.NodeRemoves. -/
namespace Go.Proofs.Ytigbgodbalpgdaa
open Go.RowKit
attribute [local go_sem] givesF_none givesF_some evalF_tmp evalF_const evalF_global evalF_func lookL isB_bool isB_undef givesUpon_value givesUpon_skip givesUpon_enter

attribute [local go_sem] guard_entry

theorem sameE_self (e : En) : sameE e e = true := by simp [sameE]

/-- An entry of a list in a world, and in those behind it. -/
theorem ens_at {w : World} {v : Value} {l : List En} (h : EnsS w v l) {m : Nat} (hm : m < l.length) : ∃ c off cap, v = .slice (some ⟨c, off, none⟩) l.length cap ∧ ∀ u, Grow w u → (u.cell? ⟨c, off + m * 3, none⟩ = some (.string (str l[m].1)) ∧ u.cell? ⟨c, off + m * 3 + 1, none⟩ = some (.int .i64 l[m].2.1) ∧ u.cell? ⟨c, off + m * 3 + 2, none⟩ = some (.int .i64 l[m].2.2)) := by
  obtain ⟨c, off, cap, e, hc⟩ := ens_cells h.weak (by omega)
  refine ⟨c, off, cap, e, fun u hu => ?_⟩
  have := hc m hm
  exact ⟨(Below.cell hu (World.block_lt_of_cell? w _ this.1)).trans this.1, (Below.cell hu (World.block_lt_of_cell? w _ this.2.1)).trans this.2.1, (Below.cell hu (World.block_lt_of_cell? w _ this.2.2)).trans this.2.2⟩

attribute [local simp] neq_entry sameE_self
set_option maxRecDepth 100000 in
set_option maxHeartbeats 4000000 in
theorem removes_any (l : List En) (v : Value) (at_ : Int) (w_ : World) (h : Row w_ 23 v l.length (eCells l)) (hl : (l.length : Int) ≤ 4398046510976) :
    Calls Try.prog 8 #[v, .int .i64 at_] w_ fun x w' => x = .returned (.bool true) ∧ Below w_.heap.size w_ w' := by
  have hgr := grown_any l v w_ h hl
  have hgood := growL_good l
  generalize hL : growL l = L at *
  have HGr := keep hgr
  obtain ⟨a, cap, rfl⟩ : ∃ a cap, v = .slice a l.length cap := by
    rcases h with ⟨h1, _, a, cap, h2⟩ | ⟨c, off, cap, h1, _⟩
    · exact ⟨a, cap, by rw [h2, h1]⟩
    · exact ⟨_, _, h1⟩
  have HEn := keep (fun (u : World) (iv : Value) (hi : ItemsC u iv (pgOf L).items) => entries_of hgood iv u hi)
  have hl255 := good_length hgood
  have HGood := keep hgood
  clear hgr h hL hgood
  go_enter Try.func8, Try.ntmps8
  go_wp2_with fail
  refine HGr.out.mono ?_
  rintro x w1 ⟨iv, rfl, hi1, hb1⟩
  obtain ⟨pa, pc, rfl⟩ := itemsS_form hi1.1
  generalize hQ0 : pgOf L = P at *
  unfold pgV
  go_upto_region 2 with fail
  obtain ⟨w2, hw2⟩ : ∃ w2, w2 = w1.alloc (.cells (pgCells P (.slice pa P.items.length pc)).toArray 39) := ⟨_, rfl⟩
  have hg2 : Grow w_ w2 := by subst hw2; exact Grow.alloc hb1 _
  have hP2 : Blk w2 w1.heap.size 39 (pgCells P (.slice pa P.items.length pc)) := by subst hw2; exact Blk.new w1 _ _
  have hi2 : ItemsC w2 (.slice pa P.items.length pc) P.items := hi1.fits (by subst hw2; exact (Grow.refl _).alloc _)
  have HP2 := keep hP2
  unfold pgCells at hw2 hP2
  rw [← hw2]
  clear hw2 hb1 hi1
  obtain ⟨p0, p1, p2, p3, p4, p5, _⟩ := pgres hP2
  have hen := HEn.out w2 _ hi2
  have HEn2 := keep hen
  have HI2 := keep hi2
  have HG2 := keep hg2
  have HQ0 := keep hQ0
  unfold pgV at HEn2
  clear hen hi2 hg2 hP2 hQ0
  go_wp2_with fail
  refine HEn2.out.mono ?_
  rintro x w3 ⟨ea, ec, rfl, hes, hb3⟩
  have HP3 := keep (HP2.out.fits hb3)
  have HI3 := keep (HI2.out.fits hb3)
  have HG3 := keep (Grow.trans HG2.out hb3)
  have HEs := keep hes
  clear p0 p1 p2 p3 p4 p5 hb3 hes HP2 HI2
  by_cases h0 : L.length = 0
  · have hz : ((L.length : Int) == 0) = true := by simp [h0]
    rw [h0]
    clear hz
    go_wp2_with fail
    refine (awake_any w3).mono ?_
    rintro x w4 ⟨rfl, hb4⟩
    go_wp2_with fail
    go_ret
    exact ⟨rfl, Grow.trans HG3.out hb4⟩
  · have hz : ¬ ((L.length : Int) = 0) := by omega
    go_upto_region 8 with fail
    obtain ⟨kk, hkk, hkl⟩ := idx_fine at_ L.length (by omega) (by omega)
    rw [hkk]
    clear hkk
    have hrem := fun (u : World) (iv : Value) (h : ItemsC u iv (pgOf L).items) => remove_of HGood.out kk hkl iv u h
    have hmg := remL_good HGood.out kk
    have henq := fun (u : World) (iv : Value) (h : ItemsC u iv (pgOf (remL L kk)).items) => entries_of hmg iv u h
    have hml := remL_length hkl
    have hmget : ∀ (i j : Nat) (hi : i < (remL L kk).length) (hj : j < L.length), j = (if kk ≤ i then i + 1 else i) → (remL L kk)[i] = L[j] := by
      intro i j hi hj e
      subst e
      exact remL_get hkl hi
    generalize remL L kk = M at *
    have hhi : (pgOf M).high = (pgOf L).high := rfl
    have hri : (pgOf M).right = (pgOf L).right := rfl
    rw [HQ0.out] at hrem hhi hri
    generalize pgOf M = Q at *
    obtain ⟨c, off, cap2, e, hcm⟩ := ens_at HEs.out hkl
    simp only [Value.slice.injEq] at e
    obtain ⟨rfl, _, _⟩ := e
    generalize L[kk] = e at *
    obtain ⟨k, p, s⟩ := e
    dsimp only at hcm
    unfold enV pgV at hrem
    unfold pgV at henq
    rw [hhi, hri] at henq
    have HRem := keep (fun (u : World) (h : ItemsC u (.slice pa P.items.length pc) P.items) => hrem u _ h)
    have HEnQ := keep (fun (u : World) (qa : Option Addr) (qc : Nat) (h : ItemsC u (.slice qa Q.items.length qc) Q.items) => henq u _ h)
    have HC7 := keep (fun (u : World) (hu : Fill w3.heap.size 39 (GoodC Q) w3.drew u) => hcm u (Grow.undrew (u := w3) hu.below))
    have HP7 := keep (fun (u : World) (hu : Fill w3.heap.size 39 (GoodC Q) w3.drew u) => Blk.below HP3.out.drew hu.below HP3.out.lt)
    have HI7 := keep (fun (u : World) (hu : Fill w3.heap.size 39 (GoodC Q) w3.drew u) => (hu.itemsC HI3.out : ItemsC u (.slice pa P.items.length pc) P.items))
    have HMg := keep hmget
    have HHi := keep hhi
    have HRi := keep hri
    have hblt := HP3.out.lt
    clear hrem henq hcm hmget hhi hri hmg hz
    unfold pgCells at HP7
    refine wp_region_link_named (by kernel_rfl) 11 lk10 (Fill w3.heap.size 39 (GoodC Q)) (Fill.refl _) (fun _ _ _ => Fill.trans (goodC_stays Q)) (by kernel_rfl) (by kernel_rfl) [(39, 0), (40, 1), (41, 2), (42, 3), (43, 4), (44, 5), (38, 6), (45, 7), (46, 8), (9, 9)] (by kernel_rfl) [(0, true), (1, true), (2, true), (3, true), (4, true), (5, true), (6, true), (7, true), (8, true), (9, true), (10, true)] (by kernel_rfl) rfl rfl ?_
    intro a0 ha0
    have hsz : a0.tmps.size = 102 := (size_at ha0).trans rfl
    have s5 := slot_at ha0 5 rfl
    have s6 := slot_at ha0 6 rfl
    have s8 := slot_at ha0 8 rfl
    have HA0 := keep ha0
    clear ha0
    -- operation 0
    apply lexkf_eq hsz [] [(40, 1), (41, 2), (42, 3), (43, 4), (38, 6), (45, 7), (46, 8), (9, 9)] none (by kernel_rfl) (by kernel_rfl) (by kernel_rfl) (by kernel_rfl) rfl rfl
    · intro xs w hw hp K hK
      obtain ⟨p0, p1, p2, p3, p4, p5, _⟩ := pgres (HP7.out w hw)
      go_simp
      exact hK _ (Fill.refl _)
    -- operation 1
    apply lexkf_eq hsz [] [(39, 0), (41, 2), (43, 4), (44, 5), (38, 6), (45, 7), (46, 8), (9, 9)] none (by kernel_rfl) (by kernel_rfl) (by kernel_rfl) (by kernel_rfl) rfl rfl
    · intro xs w hw hp K hK
      go_simp
      exact hK _ (Fill.refl _)
    -- operation 2
    apply lexkf_eq hsz [] [(39, 0), (40, 1), (43, 4), (44, 5), (38, 6), (45, 7), (46, 8), (9, 9)] none (by kernel_rfl) (by kernel_rfl) (by kernel_rfl) (by kernel_rfl) rfl rfl
    · intro xs w hw hp K hK
      go_simp
      exact hK _ (Fill.refl _)
    -- operation 3
    apply lexkf_eq hsz [(1, true), (2, true)] [(39, 0), (40, 1), (41, 2), (44, 5), (38, 6), (45, 7), (46, 8), (9, 9)] none (by kernel_rfl) (by kernel_rfl) (by kernel_rfl) (by kernel_rfl) rfl rfl
    · intro xs w hw hp K hK
      simp only [holdsK, lk10, if_neg, reduceIte, Nat.reduceEqDiff, List.nil_append, List.cons_append, List.getD_cons_succ, List.getD_cons_zero, if_true, and_true] at hp
      have q1 : kk < L.length := hkl
      go_simp
      exact hK _ (Fill.refl _)
    -- operation 4
    apply lexkf_eq hsz [(3, true)] [(39, 0), (40, 1), (41, 2), (42, 3), (38, 6), (45, 7), (46, 8), (9, 9)] none (by kernel_rfl) (by kernel_rfl) (by kernel_rfl) (by kernel_rfl) rfl rfl
    · intro xs w hw hp K hK
      simp only [holdsK, lk10, if_neg, reduceIte, Nat.reduceEqDiff, List.nil_append, List.cons_append, List.getD_cons_succ, List.getD_cons_zero, if_true, and_true] at hp
      obtain ⟨c0, c1, c2⟩ := HC7.out w hw
      go_simp
      exact hK _ (Fill.refl _)
    -- operation 5
    refine lexkf_says hsz (fun v u => ∃ iv, v = .tuple #[pgV Q iv, .int .i64 0] ∧ ItemsC u iv Q.items) (fun _ _ _ g h => h.elim fun iv h => ⟨iv, h.1, g.itemsC h.2⟩) [(0, true), (4, true)] [(39, 0), (40, 1), (41, 2), (42, 3), (43, 4), (45, 7), (46, 8), (9, 9)] none (by kernel_rfl) (by kernel_rfl) (by kernel_rfl) (by kernel_rfl) rfl rfl ?_ ?_
    · intro xs w hw hp K hK
      simp only [holdsK, lk10, if_neg, reduceIte, Nat.reduceEqDiff, List.nil_append, List.cons_append, List.getD_cons_succ, List.getD_cons_zero, if_true, and_true] at hp
      go_simp
      exact (HRem.out w (HI7.out w hw)).mono fun e w' ⟨iv, h1, h2, h3⟩ => ⟨_, h1, hK _ _ ⟨iv, rfl, h2⟩ (Fill.of_grow h3 hw.below.size)⟩
    -- operation 6
    refine lexkf_says hsz (fun v u => ∃ iv, v = .tuple #[pgV Q iv, .int .i64 0] ∧ ItemsC u iv Q.items) (fun _ _ _ g h => h.elim fun iv h => ⟨iv, h.1, g.itemsC h.2⟩) [(5, true)] [(39, 0), (40, 1), (41, 2), (42, 3), (43, 4), (44, 5), (9, 9)] none (by kernel_rfl) (by kernel_rfl) (by kernel_rfl) (by kernel_rfl) rfl rfl ?_ ?_
    · intro xs w hw hp K hK
      simp only [holdsK, lk10, if_neg, reduceIte, Nat.reduceEqDiff, List.nil_append, List.cons_append, List.getD_cons_succ, List.getD_cons_zero, if_true, and_true] at hp
      obtain ⟨iv8, h8, hit⟩ := hp
      go_simp
      exact hK _ _ ⟨iv8, rfl, hit⟩ (Fill.refl _)
    -- operation 7
    refine lexkf_says hsz (fun v u => ∃ iv, v = pgV Q iv ∧ ItemsC u iv Q.items) (fun _ _ _ g h => h.elim fun iv h => ⟨iv, h.1, g.itemsC h.2⟩) [(6, true)] [(39, 0), (40, 1), (41, 2), (42, 3), (43, 4), (44, 5), (38, 6), (46, 8), (9, 9)] none (by kernel_rfl) (by kernel_rfl) (by kernel_rfl) (by kernel_rfl) rfl rfl ?_ ?_
    · intro xs w hw hp K hK
      simp only [holdsK, lk10, if_neg, reduceIte, Nat.reduceEqDiff, List.nil_append, List.cons_append, List.getD_cons_succ, List.getD_cons_zero, if_true, and_true] at hp
      obtain ⟨iv8, h8, hit⟩ := hp
      go_simp
      exact hK _ _ ⟨iv8, rfl, hit⟩ (Fill.refl _)
    -- operation 8
    refine lexkf_says hsz (fun v _ => v = .int .i64 0) (fun _ _ _ _ h => h) [(6, true)] [(39, 0), (40, 1), (41, 2), (42, 3), (43, 4), (44, 5), (38, 6), (45, 7), (9, 9)] none (by kernel_rfl) (by kernel_rfl) (by kernel_rfl) (by kernel_rfl) rfl rfl ?_ ?_
    · intro xs w hw hp K hK
      simp only [holdsK, lk10, if_neg, reduceIte, Nat.reduceEqDiff, List.nil_append, List.cons_append, List.getD_cons_succ, List.getD_cons_zero, if_true, and_true] at hp
      obtain ⟨iv8, h8, hit⟩ := hp
      go_simp
      exact hK _ _ rfl (Fill.refl _)
    -- operation 9
    refine lexkf_says hsz (fun v u => ∃ b, v = .pointer (some ⟨b, 0, none⟩) ∧ w3.heap.size ≤ b ∧ ∃ a0 a1 a2 a3 a4 a5, Blk u b 39 [a0, a1, a2, a3, a4, a5]) (fun _ _ _ g ⟨b, h1, h2, h3⟩ => ⟨b, h1, h2, fill_six g h3⟩) [] [(39, 0), (40, 1), (41, 2), (42, 3), (43, 4), (44, 5), (38, 6), (45, 7), (46, 8)] none (by kernel_rfl) (by kernel_rfl) (by kernel_rfl) (by kernel_rfl) rfl rfl ?_ ?_
    · intro xs w hw hp K hK
      go_simp
      exact hK _ _ ⟨_, rfl, hw.below.size, _, _, _, _, _, _, Blk.new w _ [_, _, _, _, _, _]⟩ (Fill.of_grow ((Grow.refl w).alloc _) hw.below.size)
    -- operation 10
    refine lexkf_link hsz (fun v u => ∃ b, v = .pointer (some ⟨b, 0, none⟩) ∧ w3.heap.size ≤ b ∧ ∃ iv', Blk u b 39 (pgCells Q iv') ∧ ItemsC u iv' Q.items) (fun _ _ _ hg ⟨b, h1, h2, iv', h3, h4⟩ => ⟨b, h1, h2, goodC_lasts hg h3 h4⟩) [(7, true), (9, true)] [(39, 0), (40, 1), (41, 2), (42, 3), (43, 4), (44, 5), (38, 6), (45, 7), (46, 8), (9, 9)] none (by kernel_rfl) (by kernel_rfl) (by kernel_rfl) (by kernel_rfl) rfl (by decide) ?_ ?_
    · intro xs w hw hp K hK
      simp only [holdsK, lk10, if_neg, reduceIte, Nat.reduceEqDiff, List.nil_append, List.cons_append, List.getD_cons_succ, List.getD_cons_zero, if_true, and_true] at hp
      obtain ⟨⟨iv', h17, hit⟩, b, h19, hbN, a0_, a1_, a2_, a3_, a4_, a5_, hB⟩ := hp
      obtain ⟨c0, c1, c2, c3, c4, c5, f0, f1, f2, f3, f4, f5⟩ := pgres hB
      obtain ⟨iva', ivc', rfl⟩ := itemsS_form hit.1
      have Hset := keep (pgset hB (.int .i64 Q.lsn) (.int .i64 Q.kind) (.int .i64 Q.level) (.int .i64 Q.right) (.string (str Q.high)) (.slice iva' Q.items.length ivc'))
      have Hbut := keep (pgbut w b (.int .i64 Q.lsn) (.int .i64 Q.kind) (.int .i64 Q.level) (.int .i64 Q.right) (.string (str Q.high)) (.slice iva' Q.items.length ivc'))
      have Hit2 := keep (itemsC_but hit Hbut.out hB (by decide))
      have HB := keep hB
      unfold pgV at h17
      clear hB hit
      go_simp
      exact hK _ _ ⟨b, h19, hbN, _, Hset.out, Hit2.out⟩ (Fill.but (cs' := pgCells Q (.slice iva' Q.items.length ivc')) Hbut.out hbN hw.below.size HB.out rfl Hset.out ⟨_, rfl, Hit2.out⟩)
    intro xs w hw hp
    have ha0 := HA0.out
    clear HA0 hsz s5 s6 s8
    simp only [holdsK, lk10, if_neg, reduceIte, Nat.reduceEqDiff, List.nil_append, List.cons_append, List.getD_cons_succ, List.getD_cons_zero, if_true, and_true] at hp
    have hM := hp.2.2.2.2.2.2.2.2.1
    obtain ⟨b, h19, hbN, ivQ, hQ, hiQ⟩ := hp.2.2.2.2.2.2.2.2.2.2
    clear hp
    subst ha0
    simp only [putAll, hM, h19]
    have hwU := hw.undrew
    have hg4 : Grow w3 w := hwU.below
    have hB4 := HP3.out.fits hg4
    obtain ⟨qa, qc, rfl⟩ := itemsS_form hiQ.1
    have HB4 := keep hB4
    have HQ4 := keep hQ
    have HiQ := keep hiQ
    have HG4 := keep hg4
    unfold pgCells at hQ
    rw [HHi.out, HRi.out] at hQ
    obtain ⟨y0, y1, y2, y3, y4, y5, _⟩ := pgres hQ
    clear hw h19 hwU hB4 hQ hiQ hg4 HC7 HP7 HI7 HRem
    go_wp2_with fail
    refine (HEnQ.out _ _ _ HiQ.out).mono ?_
    rintro x w5 ⟨na, nc, rfl, hns, hb5⟩
    have hB5 := HB4.out.fits hb5
    have hQ5 := HQ4.out.fits hb5
    unfold pgCells at hB5 hQ5
    rw [HHi.out, HRi.out] at hQ5
    have HNs := keep hns
    have HG5 := keep (Grow.trans HG4.out hb5)
    clear y0 y1 y2 y3 y4 y5 hns hb5
    obtain ⟨p0, p1, p2, p3, p4, p5, _⟩ := pgres hB5
    obtain ⟨y0, y1, y2, y3, y4, y5, _⟩ := pgres hQ5
    clear hB5 hQ5
    go_wp2_with fail
    go_loopw [13, 14] (fun i _ wr => ∃ n : Nat, n ≤ M.length ∧ i = .int .i64 n ∧ Kept (Grow w5 wr)) (fun i _ _ => M.length - (intOf i).toNat)
    case atStart => exact ⟨0, Nat.zero_le _, rfl, keep (Grow.refl _)⟩
    case round =>
      obtain ⟨n, hn, rfl, HG⟩ := hrel
      clear p0 p1 p2 p3 p4 p5 y0 y1 y2 y3 y4 y5
      by_cases hlt : n < M.length
      · by_cases hkn : kk ≤ n
        · have hm : n + 1 < L.length := by omega
          have hget := HMg.out n (n + 1) hlt hm (by simp only [if_pos hkn])
          obtain ⟨c1, off1, cap3, e1, hc1⟩ := ens_at HNs.out hlt
          obtain ⟨c2, off2, cap4, e2, hc2⟩ := ens_at HEs.out hm
          simp only [Value.slice.injEq] at e1 e2
          obtain ⟨rfl, x1, x2⟩ := e1
          obtain ⟨e2, x3, x4⟩ := e2
          simp only [Option.some.injEq, Addr.mk.injEq] at e2
          obtain ⟨rfl, rfl, x5⟩ := e2
          rw [hget] at hc1
          generalize L[n + 1] = e at *
          obtain ⟨k1, p1_, s1⟩ := e
          dsimp only at hc1 hc2
          have HN7 := keep (fun (u : World) (hu : Grow wr.drew u) => hc1 u (Grow.trans HG.out (Grow.undrew hu)))
          have HA7 := keep (fun (u : World) (hu : Grow wr.drew u) => hc2 u (Grow.trans (Grow.trans HG5.out HG.out) (Grow.undrew hu)))
          clear hc1 hc2 hget x1 x2 x3 x4
          go_upto_region 18 with fail
          refine wp_region_grow_named (by kernel_rfl) 8 (by kernel_rfl) [(92, 0), (93, 1), (94, 2), (95, 3), (96, 4), (97, 5), (98, 6), (99, 7)] (by kernel_rfl) [(0, true), (1, true), (2, true), (3, true), (4, true), (5, true), (6, true), (7, true)] (by kernel_rfl) rfl rfl ?_
          intro a0 ha0
          have hsz : a0.tmps.size = 102 := (size_at ha0).trans rfl
          have s6 := slot_at ha0 6 rfl
          have s11 := slot_at ha0 11 rfl
          have s13 := slot_at ha0 13 rfl
          have s14 := slot_at ha0 14 rfl
          have HA0 := keep ha0
          clear ha0
          -- operation 0
          apply lexf_eq hsz [] [(93, 1), (95, 3), (96, 4), (97, 5), (98, 6), (99, 7), (100, 8)] none (by kernel_rfl) (by kernel_rfl) (by kernel_rfl) (by kernel_rfl) rfl
          · intro xs w hw hp K hK
            go_simp
            exact hK _ (Grow.refl _)
          -- operation 1
          apply lexf_eq hsz [] [(92, 0), (95, 3), (96, 4), (97, 5), (98, 6), (99, 7), (100, 8)] none (by kernel_rfl) (by kernel_rfl) (by kernel_rfl) (by kernel_rfl) rfl
          · intro xs w hw hp K hK
            go_simp
            exact hK _ (Grow.refl _)
          -- operation 2
          apply lexf_eq hsz [(0, true), (1, true)] [(92, 0), (93, 1), (96, 4), (97, 5), (98, 6), (99, 7), (100, 8)] none (by kernel_rfl) (by kernel_rfl) (by kernel_rfl) (by kernel_rfl) rfl
          · intro xs w hw hp K hK
            simp only [holdsL, List.nil_append, List.cons_append, List.getD_cons_succ, List.getD_cons_zero, if_true, and_true] at hp
            have q1 : n < L.length - 1 := by omega
            go_simp
            exact hK _ (Grow.refl _)
          -- operation 3
          apply lexf_eq hsz [(2, true)] [(92, 0), (93, 1), (94, 2), (96, 4), (97, 5), (98, 6), (99, 7)] none (by kernel_rfl) (by kernel_rfl) (by kernel_rfl) (by kernel_rfl) rfl
          · intro xs w hw hp K hK
            simp only [holdsL, List.nil_append, List.cons_append, List.getD_cons_succ, List.getD_cons_zero, if_true, and_true] at hp
            obtain ⟨c0, c1, c2⟩ := HN7.out w hw
            go_simp
            exact hK _ (Grow.refl _)
          -- operation 4
          apply lexf_eq hsz [] [(92, 0), (93, 1), (94, 2), (95, 3), (97, 5), (99, 7), (100, 8)] none (by kernel_rfl) (by kernel_rfl) (by kernel_rfl) (by kernel_rfl) rfl
          · intro xs w hw hp K hK
            go_simp
            exact hK _ (Grow.refl _)
          -- operation 5
          apply lexf_eq hsz [] [(92, 0), (93, 1), (94, 2), (95, 3), (96, 4), (99, 7), (100, 8)] none (by kernel_rfl) (by kernel_rfl) (by kernel_rfl) (by kernel_rfl) rfl
          · intro xs w hw hp K hK
            go_simp
            exact hK _ (Grow.refl _)
          -- operation 6
          apply lexf_eq hsz [(4, true), (5, true)] [(92, 0), (93, 1), (94, 2), (95, 3), (96, 4), (97, 5), (100, 8)] none (by kernel_rfl) (by kernel_rfl) (by kernel_rfl) (by kernel_rfl) rfl
          · intro xs w hw hp K hK
            simp only [holdsL, List.nil_append, List.cons_append, List.getD_cons_succ, List.getD_cons_zero, if_true, and_true] at hp
            have q2 : n + 1 < L.length := hm
            have q3 : (n : Int) + 1 < (L.length : Int) := by omega
            have q4 : (0 : Int) ≤ (n : Int) + 1 := by omega
            go_simp
            exact hK _ (Grow.refl _)
          -- operation 7
          apply lexf_eq hsz [(6, true)] [(92, 0), (93, 1), (94, 2), (95, 3), (96, 4), (97, 5), (98, 6)] none (by kernel_rfl) (by kernel_rfl) (by kernel_rfl) (by kernel_rfl) rfl
          · intro xs w hw hp K hK
            simp only [holdsL, List.nil_append, List.cons_append, List.getD_cons_succ, List.getD_cons_zero, if_true, and_true] at hp
            obtain ⟨c0, c1, c2⟩ := HA7.out w hw
            go_simp
            exact hK _ (Grow.refl _)
          intro xs w hw hp
          have ha0 := HA0.out
          clear HA0 hsz s6 s11 s13 s14
          simp only [holdsL, List.nil_append, List.cons_append, List.getD_cons_succ, List.getD_cons_zero, if_true, and_true] at hp
          have h3 := hp.2.2.2.1
          have h7 := hp.2.2.2.2.2.2.2
          clear hp
          subst ha0
          simp only [putAll, h3, h7]
          have hG := Grow.trans HG.out hw.undrew
          clear hw h3 h7 HN7 HA7
          have HG2 := keep hG
          clear hG
          go_wp2_with fail
          go_roundw
          case rel => exact ⟨n + 1, by omega, by go_num, HG2⟩
          case measure => simp [intOf]; omega
        · have hm : n < L.length := by omega
          have hget := HMg.out n (n) hlt hm (by simp only [if_neg hkn])
          obtain ⟨c1, off1, cap3, e1, hc1⟩ := ens_at HNs.out hlt
          obtain ⟨c2, off2, cap4, e2, hc2⟩ := ens_at HEs.out hm
          simp only [Value.slice.injEq] at e1 e2
          obtain ⟨rfl, x1, x2⟩ := e1
          obtain ⟨e2, x3, x4⟩ := e2
          simp only [Option.some.injEq, Addr.mk.injEq] at e2
          obtain ⟨rfl, rfl, x5⟩ := e2
          rw [hget] at hc1
          generalize L[n] = e at *
          obtain ⟨k1, p1_, s1⟩ := e
          dsimp only at hc1 hc2
          have HN7 := keep (fun (u : World) (hu : Grow wr.drew u) => hc1 u (Grow.trans HG.out (Grow.undrew hu)))
          have HA7 := keep (fun (u : World) (hu : Grow wr.drew u) => hc2 u (Grow.trans (Grow.trans HG5.out HG.out) (Grow.undrew hu)))
          clear hc1 hc2 hget x1 x2 x3 x4
          go_upto_region 18 with fail
          refine wp_region_grow_named (by kernel_rfl) 8 (by kernel_rfl) [(92, 0), (93, 1), (94, 2), (95, 3), (96, 4), (97, 5), (98, 6), (99, 7)] (by kernel_rfl) [(0, true), (1, true), (2, true), (3, true), (4, true), (5, true), (6, true), (7, true)] (by kernel_rfl) rfl rfl ?_
          intro a0 ha0
          have hsz : a0.tmps.size = 102 := (size_at ha0).trans rfl
          have s6 := slot_at ha0 6 rfl
          have s11 := slot_at ha0 11 rfl
          have s13 := slot_at ha0 13 rfl
          have s14 := slot_at ha0 14 rfl
          have HA0 := keep ha0
          clear ha0
          -- operation 0
          apply lexf_eq hsz [] [(93, 1), (95, 3), (96, 4), (97, 5), (98, 6), (99, 7), (100, 8)] none (by kernel_rfl) (by kernel_rfl) (by kernel_rfl) (by kernel_rfl) rfl
          · intro xs w hw hp K hK
            go_simp
            exact hK _ (Grow.refl _)
          -- operation 1
          apply lexf_eq hsz [] [(92, 0), (95, 3), (96, 4), (97, 5), (98, 6), (99, 7), (100, 8)] none (by kernel_rfl) (by kernel_rfl) (by kernel_rfl) (by kernel_rfl) rfl
          · intro xs w hw hp K hK
            go_simp
            exact hK _ (Grow.refl _)
          -- operation 2
          apply lexf_eq hsz [(0, true), (1, true)] [(92, 0), (93, 1), (96, 4), (97, 5), (98, 6), (99, 7), (100, 8)] none (by kernel_rfl) (by kernel_rfl) (by kernel_rfl) (by kernel_rfl) rfl
          · intro xs w hw hp K hK
            simp only [holdsL, List.nil_append, List.cons_append, List.getD_cons_succ, List.getD_cons_zero, if_true, and_true] at hp
            have q1 : n < L.length - 1 := by omega
            go_simp
            exact hK _ (Grow.refl _)
          -- operation 3
          apply lexf_eq hsz [(2, true)] [(92, 0), (93, 1), (94, 2), (96, 4), (97, 5), (98, 6), (99, 7)] none (by kernel_rfl) (by kernel_rfl) (by kernel_rfl) (by kernel_rfl) rfl
          · intro xs w hw hp K hK
            simp only [holdsL, List.nil_append, List.cons_append, List.getD_cons_succ, List.getD_cons_zero, if_true, and_true] at hp
            obtain ⟨c0, c1, c2⟩ := HN7.out w hw
            go_simp
            exact hK _ (Grow.refl _)
          -- operation 4
          apply lexf_eq hsz [] [(92, 0), (93, 1), (94, 2), (95, 3), (97, 5), (99, 7), (100, 8)] none (by kernel_rfl) (by kernel_rfl) (by kernel_rfl) (by kernel_rfl) rfl
          · intro xs w hw hp K hK
            go_simp
            exact hK _ (Grow.refl _)
          -- operation 5
          apply lexf_eq hsz [] [(92, 0), (93, 1), (94, 2), (95, 3), (96, 4), (99, 7), (100, 8)] none (by kernel_rfl) (by kernel_rfl) (by kernel_rfl) (by kernel_rfl) rfl
          · intro xs w hw hp K hK
            go_simp
            exact hK _ (Grow.refl _)
          -- operation 6
          apply lexf_eq hsz [(4, true), (5, true)] [(92, 0), (93, 1), (94, 2), (95, 3), (96, 4), (97, 5), (100, 8)] none (by kernel_rfl) (by kernel_rfl) (by kernel_rfl) (by kernel_rfl) rfl
          · intro xs w hw hp K hK
            simp only [holdsL, List.nil_append, List.cons_append, List.getD_cons_succ, List.getD_cons_zero, if_true, and_true] at hp
            have q2 : n < L.length := hm
            go_simp
            exact hK _ (Grow.refl _)
          -- operation 7
          apply lexf_eq hsz [(6, true)] [(92, 0), (93, 1), (94, 2), (95, 3), (96, 4), (97, 5), (98, 6)] none (by kernel_rfl) (by kernel_rfl) (by kernel_rfl) (by kernel_rfl) rfl
          · intro xs w hw hp K hK
            simp only [holdsL, List.nil_append, List.cons_append, List.getD_cons_succ, List.getD_cons_zero, if_true, and_true] at hp
            obtain ⟨c0, c1, c2⟩ := HA7.out w hw
            go_simp
            exact hK _ (Grow.refl _)
          intro xs w hw hp
          have ha0 := HA0.out
          clear HA0 hsz s6 s11 s13 s14
          simp only [holdsL, List.nil_append, List.cons_append, List.getD_cons_succ, List.getD_cons_zero, if_true, and_true] at hp
          have h3 := hp.2.2.2.1
          have h7 := hp.2.2.2.2.2.2.2
          clear hp
          subst ha0
          simp only [putAll, h3, h7]
          have hG := Grow.trans HG.out hw.undrew
          clear hw h3 h7 HN7 HA7
          have HG2 := keep hG
          clear hG
          go_wp2_with fail
          go_roundw
          case rel => exact ⟨n + 1, by omega, by go_num, HG2⟩
          case measure => simp [intOf]; omega
      · have e : n = M.length := by omega
        subst e
        go_wp2_with fail
        refine (awake_any wr).mono ?_
        rintro x w6 ⟨rfl, hb6⟩
        go_wp2_with fail
        go_ret
        exact ⟨rfl, Grow.trans HG3.out (Grow.trans HG5.out (Grow.trans HG.out hb6))⟩

end Go.Proofs.Ytigbgodbalpgdaa

/- almonrylaw14.entries: a list is the same as itself, wherever it lies. -/
namespace Go.Proofs.Ytigbgodbalpgdaa
open Go.RowKit
attribute [local go_sem] givesF_none givesF_some evalF_tmp evalF_const evalF_global evalF_func lookL isB_bool isB_undef givesUpon_value givesUpon_skip givesUpon_enter

theorem en_at {w : World} {v : Value} {l : List En} (h : Row w 23 v l.length (eCells l)) {m : Nat} (hm : m < l.length) : ∃ c off cap, v = .slice (some ⟨c, off, none⟩) l.length cap ∧ ∀ u, Grow w u → (u.cell? ⟨c, off + m * 3, none⟩ = some (.string (str l[m].1)) ∧ u.cell? ⟨c, off + m * 3 + 1, none⟩ = some (.int .i64 l[m].2.1) ∧ u.cell? ⟨c, off + m * 3 + 2, none⟩ = some (.int .i64 l[m].2.2)) := by
  obtain ⟨c, off, cap, e, hc⟩ := ens_cells h (by omega)
  refine ⟨c, off, cap, e, fun u hu => ?_⟩
  have := hc m hm
  exact ⟨(Below.cell hu (World.block_lt_of_cell? w _ this.1)).trans this.1, (Below.cell hu (World.block_lt_of_cell? w _ this.2.1)).trans this.2.1, (Below.cell hu (World.block_lt_of_cell? w _ this.2.2)).trans this.2.2⟩
theorem en_form {w : World} {v : Value} {l : List En} (h : Row w 23 v l.length (eCells l)) : ∃ a cap, v = .slice a l.length cap := by
  rcases h with ⟨h1, _, a, cap, h2⟩ | ⟨c, off, cap, h1, _⟩
  · exact ⟨a, cap, by rw [h2, h1]⟩
  · exact ⟨_, _, h1⟩

attribute [local simp] neq_entry sameE_self
attribute [local go_sem] guard_entry
set_option maxRecDepth 100000 in
set_option maxHeartbeats 4000000 in
theorem entries_same (l : List En) (v v2 : Value) (w_ : World) (hi : Row w_ 23 v l.length (eCells l)) (hj : Row w_ 23 v2 l.length (eCells l)) (hl : (l.length : Int) ≤ 4398046510976) :
    Calls Try.prog 23 #[v, v2] w_ fun x w' => x = .returned (.bool true) ∧ Below w_.heap.size w_ w' := by
  obtain ⟨ia, ic, rfl⟩ := en_form hi
  obtain ⟨ja, jc, rfl⟩ := en_form hj
  have HI0 := keep hi
  have HJ0 := keep hj
  clear hi hj
  go_enter Try.func23, Try.ntmps23
  go_wp2_with fail
  go_loopw [5] (fun i wr => ∃ n : Nat, n ≤ l.length ∧ i = .int .i64 n ∧ Kept (Grow w_ wr)) (fun i _ => l.length - (intOf i).toNat)
  case atStart => exact ⟨0, Nat.zero_le _, rfl, keep (Grow.refl _)⟩
  case round =>
    obtain ⟨n, hn, rfl, HG⟩ := hrel
    by_cases hlt : n < l.length
    · obtain ⟨c1, off1, cap1, e1, hc1⟩ := en_at HI0.out hlt
      obtain ⟨c2, off2, cap2, e2, hc2⟩ := en_at HJ0.out hlt
      simp only [Value.slice.injEq] at e1 e2
      obtain ⟨rfl, x1, x2⟩ := e1
      obtain ⟨rfl, x3, x4⟩ := e2
      generalize l[n] = e at *
      obtain ⟨k, p, s⟩ := e
      dsimp only at hc1 hc2
      have HI7 := keep (fun (u : World) (hu : Grow wr.drew u) => hc1 u (Grow.trans HG.out (Grow.undrew hu)))
      have HJ7 := keep (fun (u : World) (hu : Grow wr.drew u) => hc2 u (Grow.trans HG.out (Grow.undrew hu)))
      clear hc1 hc2 x1 x2 x3 x4
      go_upto_region 6 with fail
      refine wp_region_grow_named (by kernel_rfl) 8 (by kernel_rfl) [(17, 0), (18, 1), (19, 2), (20, 3), (21, 4), (22, 5), (23, 6), (24, 7)] (by kernel_rfl) [(0, true), (1, true), (2, true), (3, true), (4, true), (5, true), (6, true), (7, true)] (by kernel_rfl) rfl rfl ?_
      intro a0 ha0
      have hsz : a0.tmps.size = 26 := (size_at ha0).trans rfl
      have s0 := slot_at ha0 0 rfl
      have s1 := slot_at ha0 1 rfl
      have s5 := slot_at ha0 5 rfl
      have HA0 := keep ha0
      clear ha0
      -- operation 0
      apply lexf_eq hsz [] [(18, 1), (20, 3), (21, 4), (22, 5), (23, 6), (24, 7), (25, 8)] none (by kernel_rfl) (by kernel_rfl) (by kernel_rfl) (by kernel_rfl) rfl
      · intro xs w hw hp K hK
        go_simp
        exact hK _ (Grow.refl _)
      -- operation 1
      apply lexf_eq hsz [] [(17, 0), (20, 3), (21, 4), (22, 5), (23, 6), (24, 7), (25, 8)] none (by kernel_rfl) (by kernel_rfl) (by kernel_rfl) (by kernel_rfl) rfl
      · intro xs w hw hp K hK
        go_simp
        exact hK _ (Grow.refl _)
      -- operation 2
      apply lexf_eq hsz [(0, true), (1, true)] [(17, 0), (18, 1), (21, 4), (22, 5), (23, 6), (24, 7), (25, 8)] none (by kernel_rfl) (by kernel_rfl) (by kernel_rfl) (by kernel_rfl) rfl
      · intro xs w hw hp K hK
        simp only [holdsL, List.nil_append, List.cons_append, List.getD_cons_succ, List.getD_cons_zero, if_true, and_true] at hp
        have q1 : n < l.length := hlt
        go_simp
        exact hK _ (Grow.refl _)
      -- operation 3
      apply lexf_eq hsz [(2, true)] [(17, 0), (18, 1), (19, 2), (21, 4), (22, 5), (23, 6), (24, 7)] none (by kernel_rfl) (by kernel_rfl) (by kernel_rfl) (by kernel_rfl) rfl
      · intro xs w hw hp K hK
        simp only [holdsL, List.nil_append, List.cons_append, List.getD_cons_succ, List.getD_cons_zero, if_true, and_true] at hp
        obtain ⟨c0, c1, c2⟩ := HI7.out w hw
        go_simp
        exact hK _ (Grow.refl _)
      -- operation 4
      apply lexf_eq hsz [] [(17, 0), (18, 1), (19, 2), (20, 3), (22, 5), (24, 7), (25, 8)] none (by kernel_rfl) (by kernel_rfl) (by kernel_rfl) (by kernel_rfl) rfl
      · intro xs w hw hp K hK
        go_simp
        exact hK _ (Grow.refl _)
      -- operation 5
      apply lexf_eq hsz [] [(17, 0), (18, 1), (19, 2), (20, 3), (21, 4), (24, 7), (25, 8)] none (by kernel_rfl) (by kernel_rfl) (by kernel_rfl) (by kernel_rfl) rfl
      · intro xs w hw hp K hK
        go_simp
        exact hK _ (Grow.refl _)
      -- operation 6
      apply lexf_eq hsz [(4, true), (5, true)] [(17, 0), (18, 1), (19, 2), (20, 3), (21, 4), (22, 5), (25, 8)] none (by kernel_rfl) (by kernel_rfl) (by kernel_rfl) (by kernel_rfl) rfl
      · intro xs w hw hp K hK
        simp only [holdsL, List.nil_append, List.cons_append, List.getD_cons_succ, List.getD_cons_zero, if_true, and_true] at hp
        have q1 : n < l.length := hlt
        go_simp
        exact hK _ (Grow.refl _)
      -- operation 7
      apply lexf_eq hsz [(6, true)] [(17, 0), (18, 1), (19, 2), (20, 3), (21, 4), (22, 5), (23, 6)] none (by kernel_rfl) (by kernel_rfl) (by kernel_rfl) (by kernel_rfl) rfl
      · intro xs w hw hp K hK
        simp only [holdsL, List.nil_append, List.cons_append, List.getD_cons_succ, List.getD_cons_zero, if_true, and_true] at hp
        obtain ⟨c0, c1, c2⟩ := HJ7.out w hw
        go_simp
        exact hK _ (Grow.refl _)
      intro xs w hw hp
      have ha0 := HA0.out
      clear HA0 hsz s0 s1 s5
      simp only [holdsL, List.nil_append, List.cons_append, List.getD_cons_succ, List.getD_cons_zero, if_true, and_true] at hp
      have h3 := hp.2.2.2.1
      have h7 := hp.2.2.2.2.2.2.2
      clear hp
      subst ha0
      simp only [putAll, h3, h7]
      have hG := Grow.trans HG.out hw.undrew
      clear hw h3 h7 HI7 HJ7
      have HG2 := keep hG
      clear hG
      go_wp2_with fail
      go_roundw
      case rel => exact ⟨n + 1, by omega, by go_num, HG2⟩
      case measure => simp [intOf]; omega
    · have e : n = l.length := by omega
      subst e
      go_wp2_with fail
      go_ret
      exact ⟨rfl, HG.out⟩

end Go.Proofs.Ytigbgodbalpgdaa
