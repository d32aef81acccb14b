
import Derived.Test.YtikmkimkhngihaaGreatKSame1
import Derived.Test.YtikmkimkhngihaaGreatKVc5
import Derived.Test.YtikmkimkhngihaaGreatKVc9
/- The document's Sort of a page of versions. -/
namespace Go.Proofs.YtikmkimkhngihaaGreat
open Go.RowKit

set_option maxRecDepth 100000 in
set_option maxHeartbeats 2000000 in
theorem rsort_any (v : Vw) (av rv cv : Value) (h pg : Int) (p : Pg) (iv : Value) (w : World) (hv : VwIn w v av rv cv) (hi : Items w iv p.items) (hl : (p.items.length : Int) ≤ 1759218604441) (hs : ∀ x ∈ p.items, (x.length : Int) ≤ 4611686018427387000) (h62 : ∀ x ∈ v.clog.items, (x.length : Int) ≤ 4611686018427387904) :
    Calls Tryz.prog 7 #[vwV v av rv cv, .int .i64 h, .int .i64 pg, pgV p iv] w (SortPost (sortS v h pg p) w) := by
  obtain ⟨w1, hw1⟩ : ∃ w1, w1 = (((w.alloc (.cells (vwCells v av rv cv).toArray 32)).alloc (.cells (pgCells p iv).toArray 30)).alloc (.cells #[.slice none 0 0, .slice none 0 0, .slice none 0 0] 39)).alloc (.cells #[.slice none 0 0, .slice none 0 0, .slice none 0 0] 39) := ⟨_, rfl⟩
  have hg1 : Grow w w1 := by subst hw1; exact ((((Grow.refl w).alloc _).alloc _).alloc _).alloc _
  have hz1 : w1.heap.size = w.heap.size + 4 := by subst hw1; simp
  have hV1 : Blk w1 w.heap.size 32 (vwCells v av rv cv) := by subst hw1; exact (((Blk.new w _ _).alloc _).alloc _).alloc _
  have hP1 : Blk w1 (w.heap.size + 1) 30 (pgCells p iv) := by
    have := ((Blk.new (w.alloc (.cells (vwCells v av rv cv).toArray 32)) 30 (pgCells p iv)).alloc (.cells #[.slice none 0 0, .slice none 0 0, .slice none 0 0] 39)).alloc (.cells #[.slice none 0 0, .slice none 0 0, .slice none 0 0] 39)
    have e : (w.alloc (.cells (vwCells v av rv cv).toArray 32)).heap.size = w.heap.size + 1 := by simp
    rw [e] at this
    subst hw1; exact this
  have hR1 : Blk w1 (w.heap.size + 2) 39 [.slice none 0 0, .slice none 0 0, .slice none 0 0] := by
    have := (Blk.new ((w.alloc (.cells (vwCells v av rv cv).toArray 32)).alloc (.cells (pgCells p iv).toArray 30)) 39 [.slice none 0 0, .slice none 0 0, .slice none 0 0]).alloc (.cells #[.slice none 0 0, .slice none 0 0, .slice none 0 0] 39)
    have e : ((w.alloc (.cells (vwCells v av rv cv).toArray 32)).alloc (.cells (pgCells p iv).toArray 30)).heap.size = w.heap.size + 2 := by simp
    rw [e] at this
    subst hw1; exact this
  have hW1 : Blk w1 (w.heap.size + 3) 39 [.slice none 0 0, .slice none 0 0, .slice none 0 0] := by
    have := Blk.new (((w.alloc (.cells (vwCells v av rv cv).toArray 32)).alloc (.cells (pgCells p iv).toArray 30)).alloc (.cells #[.slice none 0 0, .slice none 0 0, .slice none 0 0] 39)) 39 [.slice none 0 0, .slice none 0 0, .slice none 0 0]
    have e : (((w.alloc (.cells (vwCells v av rv cv).toArray 32)).alloc (.cells (pgCells p iv).toArray 30)).alloc (.cells #[.slice none 0 0, .slice none 0 0, .slice none 0 0] 39)).heap.size = w.heap.size + 3 := by simp
    rw [e] at this
    subst hw1; exact this
  have Hv := keep hv
  have H62 := keep h62
  have Hi := keep hi
  have Hs := keep hs
  obtain ⟨iva, ivc, rfl⟩ := items_form hi
  clear hv hi hs h62
  unfold vwCells at hw1 hV1
  unfold pgCells at hw1 hP1
  have hw0 := w.heap.size.zero_le
  generalize hb3 : w.heap.size + 3 = b at *
  by_cases hk : p.kind = 2
  · have hS : sortS v h pg p = sortK v h pg p.items p.items.length := by unfold sortS; rw [if_pos hk]
    have HS := keep hS
    have hk' : (p.kind != 2) = false := by simpa using hk
    have hW0 : WkAt w1 b ⟨[], [], []⟩ (.slice none 0 0) (.slice none 0 0) (.slice none 0 0) := ⟨hW1, World.ownsRow_nil _ _ _ _, World.ownsRow_nil _ _ _ _, World.ownsRow_nil _ _ _ _, .inl rfl⟩
    obtain ⟨p0, p1, p2, p3, p4, p5, _⟩ := pgres hP1
    obtain ⟨iI, hiI, hzI0, hzI1, hzI2⟩ := info_parts infoInt
    obtain ⟨iE, hiE, hzE0, hzE1, hzE2⟩ := info_parts infoEntry
    have HB3 := keep hb3
    have HLen := keep hl
    clear hS hW1 hk hb3
    unfold vwV pgV
    go_enter Tryz.func7, Tryz.ntmps7
    go_wp2_with fail
    rw [← hw1]
    clear hw1 p0 p1 p2 p3 p4 p5
    have e3 : w.heap.size + 1 + 1 + 1 = b := by have := HB3.out; omega
    have e2 : w.heap.size + 1 + 1 = w.heap.size + 2 := by omega
    rw [e3, e2]
    go_loopw [10] (fun i wr => ∃ n : Nat, n ≤ p.items.length ∧ i = .int .i64 n ∧ (∃ fv ov gv, WkAt wr b (sortK v h pg p.items n) fv ov gv) ∧ Below b w1 wr) (fun i _ => p.items.length - (intOf i).toNat)
    case atStart => exact ⟨0, Nat.zero_le _, rfl, ⟨_, _, _, hW0⟩, Below.refl _ _⟩
    case round =>
      obtain ⟨n, hn, rfl, ⟨fv, ov, gv, hW0⟩, hG0⟩ := hrel
      have hPn := hP1.below hG0 (by have := HB3.out; omega)
      obtain ⟨p0, p1, p2, p3, p4, p5, _⟩ := pgres hPn
      by_cases hlt : n < p.items.length
      · obtain ⟨c, off, cap, e, hc⟩ := items_cells (Row.fits Hi.out (Below.trans hg1 (Below.mono hG0 (by have := HB3.out; omega)))) (by omega)
        simp only [Value.slice.injEq] at e
        obtain ⟨rfl, _, rfl⟩ := e
        have hcell := hc n hlt
        have hll := Hs.out _ (List.getElem_mem hlt)
        have hstep : sortK v h pg p.items (n + 1) = stepW v h pg (sortK v h pg p.items n) n p.items[n] := by rw [sortK]; simp [hlt]
        have hKl := sortK_len v h pg p.items n
        generalize p.items[n] = l at *
        generalize sortK v h pg p.items n = K at *
        have hst := rstate_any l wr hll
        have hky := fun u => rkey_any l u hll
        have hdc : ∀ u, Calls Tryz.prog 28 #[.string (str l)] u (DecPost l u) := fun u => rdec_any l u hll
        unfold DecPost at hdc
        have hD : stateS l = 3 → (decS l).isSome = true := by
          unfold stateS; split
          · simp
          · split
            · intro _; assumption
            · split <;> simp
        have HKl : Kept (K.fr.length < 1759218604441 ∧ K.off.length < 1759218604441 ∧ K.gone.length < 1759218604441) := keep (by have := HLen.out; omega)
        unfold stepW at hstep
        generalize stateS l = S at *
        generalize (keyS l) = Y at *
        generalize (decS l).isSome = D at *
        generalize (decS l).getD noTup = T at *
        have HStep := keep hstep
        have Hst := keep hst
        have Hky := keep hky
        have Hdc := keep hdc
        have HD := keep hD
        clear hstep hst hky hdc hD hc hll hKl
        go_wp2_with fail
        refine Hst.out.mono ?_
        rintro e x1 ⟨rfl, hb1⟩
        have hW2 := hW0.fits hb1
        have hG2 := Below.trans hG0 (Below.mono hb1 (Nat.le_of_lt hW0.blk.lt))
        have hV2 := hV1.below hG2 (by have := HB3.out; omega)
        have hP2 := hP1.below hG2 (by have := HB3.out; omega)
        have hcx := (hb1.cell (World.block_lt_of_cell? _ _ hcell)).trans hcell
        clear hcell p0 p1 p2 p3 p4 p5 hPn
        obtain ⟨p0, p1, p2, p3, p4, p5, _⟩ := pgres hP2
        by_cases h2 : S = 2
        · subst h2
          have hs2 := HStep.out
          rw [if_pos rfl] at hs2
          have HStep := keep hs2
          clear hs2
          go_wp2_with fail
          refine (Hky.out x1).mono ?_
          rintro e x2 ⟨rfl, hb2⟩
          clear hP2 hcx p0 p1 p2 p3 p4 p5
          have hW3 := hW2.fits hb2
          have hG3 := Below.trans hG2 (Below.mono hb2 (Nat.le_of_lt hW2.blk.lt))
          have hV3 := hV1.below hG3 (by have := HB3.out; omega)
          obtain ⟨y0, y1, y2, z0, z1, z2⟩ := wkres hW3.blk
          go_wp2_with ((at_builtin; go_must (refine wpList_append_own_at _ rfl _ _ 37 rfl (b + 1) 73 iE (.agg #[.string ⟨#[]⟩, .int .i64 0, .int .i64 0]) 3 32 Tryz.underlying37 hiE hzE0 hzE1 hzE2 rfl (by decide) _ _ _ rfl (hW3.gone.alloc _) ⟨x2.heap.size, 0, none⟩ 1 1 [.string (str Y.1), .int .i64 pg, .int .i64 (n : Int)] rfl rfl (cell_three_new _ _ _ _ _) (by intro u hu; simp at hu; rcases hu with rfl | rfl | rfl <;> rfl) (by have := HKl.out; (try dsimp only at *); unfold maxLen; omega) (by have := HKl.out; (try dsimp only at *); omega) (by have := hW3.blk.lt; simp; omega) ?_); intro v' xa hown' hgrow _ hat; obtain ⟨a', cap', rfl⟩ := own_form hown'; have hSt := hW3.stands hgrow (fun g e => (hW3.gone.lt g e).1); obtain ⟨u0, u1, u2, t0, t1, t2⟩ := wkres hSt; have hWa := hW3.pushGone hgrow (x := (Y.1, pg, (n : Int))) hown'; have hGa := round_below (i := 2) (v' := .slice a' (K.gone.length + 1) cap') hG3 (Nat.le_of_lt hW3.blk.lt) hgrow (fun g e => (hW3.gone.lt g e).1); have HWa := keep hWa; have HGa := keep hGa; clear hWa hGa hSt))
          go_roundw
          case rel =>
            refine ⟨n + 1, by omega, by go_num, ?_, HGa.out⟩
            rw [HStep.out]
            exact ⟨_, _, _, HWa.out⟩
          case measure => simp [intOf]; omega
        · by_cases h3 : S = 3
          · subst h3
            have hd := HD.out rfl
            subst hd
            have hs3 := HStep.out
            rw [if_neg (by decide), if_pos rfl] at hs3
            have HStep := keep hs3
            clear hs3 h2
            go_wp2_with fail
            refine (Hdc.out x1).mono ?_
            rintro e x2 ⟨rfl, hb2⟩
            clear hP2 hcx p0 p1 p2 p3 p4 p5
            have hW3 := hW2.fits hb2
            have hG3 := Below.trans hG2 (Below.mono hb2 (Nat.le_of_lt hW2.blk.lt))
            have hV3 := hV1.below hG3 (by have := HB3.out; omega)
            have hT4 : Blk (x2.alloc (.cells (tuCells T).toArray 61)) x2.heap.size 61 (tuCells T) := Blk.new _ _ _
            have hga : Grow x2 (x2.alloc (.cells (tuCells T).toArray 61)) := (Grow.refl _).alloc _
            have hW4 := hW3.fits hga
            have hG4 := Below.trans hG3 (Below.mono hga (Nat.le_of_lt hW3.blk.lt))
            have hV4 := hV1.below hG4 (by have := HB3.out; omega)
            have hgo := rgone_any v av rv cv T h _ (Hv.out.fits (Below.trans hg1 (Below.mono hG4 (by have := HB3.out; omega)))) H62.out
            have hol := fun u hu => rold_any v av rv cv T h u hu H62.out
            have hof := fun u hu => roff_any v av rv cv T u hu H62.out
            unfold tuCells at hT4 hW4 hV4 hgo hG4
            generalize goneB v T h = Gb at *
            generalize oldB v T h = Ob at *
            generalize offB v T = Fb at *
            have Hgo := keep hgo
            have Hol := keep hol
            have Hof := keep hof
            clear hgo hol hof hga
            obtain ⟨c0, c1, c2, c3, c4, c5, c6, c7, c8, c9, c10⟩ := vwres hV4
            obtain ⟨d0, d1, d2, d3, d4⟩ := tures hT4
            unfold tupV
            go_wp2_with fail
            refine Hgo.out.mono ?_
            rintro e x3 ⟨rfl, hb3⟩
            have hW5 := hW4.fits hb3
            have hG5 := Below.trans hG4 (Below.mono hb3 (Nat.le_of_lt hW4.blk.lt))
            have hV5 := hV1.below hG5 (by have := HB3.out; omega)
            have hT5 := hT4.fits hb3
            clear c0 c1 c2 c3 c4 c5 c6 c7 c8 c9 c10
            clear d0 d1 d2 d3 d4
            obtain ⟨c0, c1, c2, c3, c4, c5, c6, c7, c8, c9, c10⟩ := vwres hV5
            obtain ⟨d0, d1, d2, d3, d4⟩ := tures hT5
            obtain ⟨y0, y1, y2, z0, z1, z2⟩ := wkres hW5.blk
            cases Gb with
            | true =>
              go_wp2_with ((at_builtin; go_must (refine wpList_append_own_at _ rfl _ _ 37 rfl (b + 1) 73 iE (.agg #[.string ⟨#[]⟩, .int .i64 0, .int .i64 0]) 3 32 Tryz.underlying37 hiE hzE0 hzE1 hzE2 rfl (by decide) _ _ _ rfl (hW5.gone.alloc _) ⟨x3.heap.size, 0, none⟩ 1 1 [.string (str T.key), .int .i64 pg, .int .i64 (n : Int)] rfl rfl (cell_three_new _ _ _ _ _) (by intro u hu; simp at hu; rcases hu with rfl | rfl | rfl <;> rfl) (by have := HKl.out; (try dsimp only at *); unfold maxLen; omega) (by have := HKl.out; (try dsimp only at *); omega) (by have := hW5.blk.lt; simp; omega) ?_); intro v' xa hown' hgrow _ hat; obtain ⟨a', cap', rfl⟩ := own_form hown'; have hSt := hW5.stands hgrow (fun g e => (hW5.gone.lt g e).1); obtain ⟨u0, u1, u2, t0, t1, t2⟩ := wkres hSt; have hWa := hW5.pushGone hgrow (x := (T.key, pg, (n : Int))) hown'; have hGa := round_below (i := 2) (v' := .slice a' (K.gone.length + 1) cap') hG5 (Nat.le_of_lt hW5.blk.lt) hgrow (fun g e => (hW5.gone.lt g e).1); have HWa := keep hWa; have HGa := keep hGa; clear hWa hGa hSt))
              go_roundw
              case rel =>
                refine ⟨n + 1, by omega, by go_num, ?_, HGa.out⟩
                rw [HStep.out]
                exact ⟨_, _, _, HWa.out⟩
              case measure => simp [intOf]; omega
            | false =>
              go_wp2_with fail
              refine (Hol.out x3 (Hv.out.fits (Below.trans hg1 (Below.mono hG5 (by have := HB3.out; omega))))).mono ?_
              rintro e x4 ⟨rfl, hb4⟩
              have hW7 := hW5.fits hb4
              have hG7 := Below.trans hG5 (Below.mono hb4 (Nat.le_of_lt hW5.blk.lt))
              have hV7 := hV1.below hG7 (by have := HB3.out; omega)
              have hT7 := hT5.fits hb4
              clear c0 c1 c2 c3 c4 c5 c6 c7 c8 c9 c10
              clear d0 d1 d2 d3 d4
              clear y0 y1 y2 z0 z1 z2
              obtain ⟨c0, c1, c2, c3, c4, c5, c6, c7, c8, c9, c10⟩ := vwres hV7
              obtain ⟨d0, d1, d2, d3, d4⟩ := tures hT7
              obtain ⟨y0, y1, y2, z0, z1, z2⟩ := wkres hW7.blk
              cases Ob with
              | true =>
                go_wp2_with ((at_builtin; go_must (refine wpList_append_own_at _ rfl _ _ 25 rfl (b + 1) 3 iI (.int .i64 0) 1 8 Tryz.underlying25 hiI hzI0 hzI1 hzI2 rfl (by decide) _ _ _ rfl (hW7.fr.alloc _) ⟨x4.heap.size, 0, none⟩ 1 1 [.int .i64 (n : Int)] rfl rfl (cell_one_new _ _ _) (ints_oneCell .i64 [(n : Int)]) (by have := HKl.out; (try dsimp only at *); unfold maxLen; omega) (by have := HKl.out; (try dsimp only at *); omega) (by have := hW7.blk.lt; simp; omega) ?_); intro v' xa hown' hgrow _ hat; obtain ⟨a', cap', rfl⟩ := own_form hown'; have hSt := hW7.stands hgrow (fun g e => (hW7.fr.lt g e).1); obtain ⟨u0, u1, u2, t0, t1, t2⟩ := wkres hSt; have hWa := hW7.pushFr hgrow (x := (n : Int)) hown' hat; have hGa := round_below (i := 0) (v' := .slice a' (K.fr.length + 1) cap') hG7 (Nat.le_of_lt hW7.blk.lt) hgrow (fun g e => (hW7.fr.lt g e).1); have HWa := keep hWa; have HGa := keep hGa; have hVa := hV1.below hGa (by have := HB3.out; omega); have hTa := tup_stays hW7 (i := 0) (v' := .slice a' (K.fr.length + 1) cap') hT7 hgrow; obtain ⟨a0, a1, a2, a3, a4, a5, a6, a7, a8, a9, a10⟩ := vwres hVa; obtain ⟨b0, b1, b2, b3, b4⟩ := tures hTa; clear hVa hTa; clear hWa hGa hSt))
                refine (Hof.out _ (Hv.out.fits (Below.trans hg1 (Below.mono HGa.out (by have := HB3.out; omega))))).mono ?_
                rintro e x5 ⟨rfl, hb5⟩
                have hW8 := HWa.out.fits hb5
                have hG8 := Below.trans HGa.out (Below.mono hb5 (Nat.le_of_lt HWa.out.blk.lt))
                clear HWa HGa
                clear c0 c1 c2 c3 c4 c5 c6 c7 c8 c9 c10
                clear d0 d1 d2 d3 d4
                clear y0 y1 y2 z0 z1 z2
                clear u0 u1 u2 t0 t1 t2
                obtain ⟨y0, y1, y2, z0, z1, z2⟩ := wkres hW8.blk
                cases Fb with
                | true =>
                  go_wp2_with ((at_builtin; go_must (refine wpList_append_own_at _ rfl _ _ 25 rfl (b + 1) 3 iI (.int .i64 0) 1 8 Tryz.underlying25 hiI hzI0 hzI1 hzI2 rfl (by decide) _ _ _ rfl (hW8.off.alloc _) ⟨x5.heap.size, 0, none⟩ 1 1 [.int .i64 (n : Int)] rfl rfl (cell_one_new _ _ _) (ints_oneCell .i64 [(n : Int)]) (by have := HKl.out; (try dsimp only at *); unfold maxLen; omega) (by have := HKl.out; (try dsimp only at *); omega) (by have := hW8.blk.lt; simp; omega) ?_); intro v' xa hown' hgrow _ hat; obtain ⟨a', cap', rfl⟩ := own_form hown'; have hSt := hW8.stands hgrow (fun g e => (hW8.off.lt g e).1); obtain ⟨u0, u1, u2, t0, t1, t2⟩ := wkres hSt; have hWa := hW8.pushOff hgrow (x := (n : Int)) hown' hat; have hGa := round_below (i := 1) (v' := .slice a' (K.off.length + 1) cap') hG8 (Nat.le_of_lt hW8.blk.lt) hgrow (fun g e => (hW8.off.lt g e).1); have HWa := keep hWa; have HGa := keep hGa; clear hWa hGa hSt))
                  go_roundw
                  case rel =>
                    refine ⟨n + 1, by omega, by go_num, ?_, HGa.out⟩
                    rw [HStep.out]
                    exact ⟨_, _, _, HWa.out⟩
                  case measure => simp [intOf]; omega
                | false =>
                  go_wp2_with fail
                  go_roundw
                  case rel =>
                    refine ⟨n + 1, by omega, by go_num, ?_, hG8⟩
                    rw [HStep.out]
                    exact ⟨_, _, _, hW8⟩
                  case measure => simp [intOf]; omega
              | false =>
                go_wp2_with fail
                refine (Hof.out x4 (Hv.out.fits (Below.trans hg1 (Below.mono hG7 (by have := HB3.out; omega))))).mono ?_
                rintro e x5 ⟨rfl, hb5⟩
                have hW8 := hW7.fits hb5
                have hG8 := Below.trans hG7 (Below.mono hb5 (Nat.le_of_lt hW7.blk.lt))
                have hV8 := hV1.below hG8 (by have := HB3.out; omega)
                clear c0 c1 c2 c3 c4 c5 c6 c7 c8 c9 c10
                clear d0 d1 d2 d3 d4
                clear y0 y1 y2 z0 z1 z2
                obtain ⟨y0, y1, y2, z0, z1, z2⟩ := wkres hW8.blk
                cases Fb with
                | true =>
                  go_wp2_with ((at_builtin; go_must (refine wpList_append_own_at _ rfl _ _ 25 rfl (b + 1) 3 iI (.int .i64 0) 1 8 Tryz.underlying25 hiI hzI0 hzI1 hzI2 rfl (by decide) _ _ _ rfl (hW8.off.alloc _) ⟨x5.heap.size, 0, none⟩ 1 1 [.int .i64 (n : Int)] rfl rfl (cell_one_new _ _ _) (ints_oneCell .i64 [(n : Int)]) (by have := HKl.out; (try dsimp only at *); unfold maxLen; omega) (by have := HKl.out; (try dsimp only at *); omega) (by have := hW8.blk.lt; simp; omega) ?_); intro v' xa hown' hgrow _ hat; obtain ⟨a', cap', rfl⟩ := own_form hown'; have hSt := hW8.stands hgrow (fun g e => (hW8.off.lt g e).1); obtain ⟨u0, u1, u2, t0, t1, t2⟩ := wkres hSt; have hWa := hW8.pushOff hgrow (x := (n : Int)) hown' hat; have hGa := round_below (i := 1) (v' := .slice a' (K.off.length + 1) cap') hG8 (Nat.le_of_lt hW8.blk.lt) hgrow (fun g e => (hW8.off.lt g e).1); have HWa := keep hWa; have HGa := keep hGa; clear hWa hGa hSt))
                  go_roundw
                  case rel =>
                    refine ⟨n + 1, by omega, by go_num, ?_, HGa.out⟩
                    rw [HStep.out]
                    exact ⟨_, _, _, HWa.out⟩
                  case measure => simp [intOf]; omega
                | false =>
                  go_wp2_with fail
                  go_roundw
                  case rel =>
                    refine ⟨n + 1, by omega, by go_num, ?_, hG8⟩
                    rw [HStep.out]
                    exact ⟨_, _, _, hW8⟩
                  case measure => simp [intOf]; omega
          · have hs4 := HStep.out
            rw [if_neg h2, if_neg h3] at hs4
            have HStep := keep hs4
            have q2 : ((S : Int) == 2) = false := by simp; omega
            have q3 : ((S : Int) == 3) = false := by simp; omega
            have qn : ((S : Int) != 3) = true := by simp; omega
            clear hs4 h2 h3
            go_wp2_with fail
            refine (Hdc.out x1).mono ?_
            rintro e x2 ⟨rfl, hb2⟩
            have hW3 := hW2.fits hb2
            have hG3 := Below.trans hG2 (Below.mono hb2 (Nat.le_of_lt hW2.blk.lt))
            have hga : Grow x2 (x2.alloc (.cells (tuCells T).toArray 61)) := (Grow.refl _).alloc _
            have hW4 := hW3.fits hga
            have hG4 := Below.trans hG3 (Below.mono hga (Nat.le_of_lt hW3.blk.lt))
            unfold tuCells at hW4 hG4
            have HW4 := keep hW4
            have HG4 := keep hG4
            clear hga hW3 hG3 hW4 hG4
            unfold tupV
            cases D with
            | true =>
              go_wp2_with fail
              go_roundw
              case rel =>
                refine ⟨n + 1, by omega, by go_num, ?_, HG4.out⟩
                rw [HStep.out]
                exact ⟨_, _, _, HW4.out⟩
              case measure => simp [intOf]; omega
            | false =>
              go_wp2_with fail
              go_roundw
              case rel =>
                refine ⟨n + 1, by omega, by go_num, ?_, HG4.out⟩
                rw [HStep.out]
                exact ⟨_, _, _, HW4.out⟩
              case measure => simp [intOf]; omega
      · have e : n = p.items.length := by omega
        subst e
        have hR2 := hR1.below hG0 (by have := HB3.out; omega)
        have hs5 := HS.out
        generalize sortK v h pg p.items p.items.length = K at hW0 hs5
        have HS5 := keep hs5
        obtain ⟨fa, fc, rfl⟩ := own_form hW0.fr
        obtain ⟨oa, oc, rfl⟩ := own_form hW0.off
        obtain ⟨ga, gc, rfl⟩ := own_form hW0.gone
        obtain ⟨r0, r1, r2, f0, f1, f2⟩ := wkres hR2
        have Hset := keep (wkset hR2 (.slice fa K.fr.length fc) (.slice oa K.off.length oc) (.slice ga K.gone.length gc))
        have Hbut := keep (wkbut wr (w.heap.size + 2) (.slice fa K.fr.length fc) (.slice oa K.off.length oc) (.slice ga K.gone.length gc))
        obtain ⟨y0, y1, y2, z0, z1, z2⟩ := wkres hW0.blk
        have HW := keep hW0
        have HG := keep hG0
        have HR := keep hR2
        have hlast := hW0.blk.lt
        clear hW0 hG0 hR2 hR1 hV1 hs5 hPn hP1
        go_wp2_with fail
        refine bodyPost_ret (v := .agg #[.slice fa K.fr.length fc, .slice oa K.off.length oc, .slice ga K.gone.length gc]) ?_ rfl ?_
        · obtain ⟨s0, s1, s2, _⟩ := wkres Hset.out
          simp [results, Tryz.results7, go_sem, s0, s1, s2]
        · rw [HS5.out]
          have hne : ∀ t, t ≠ 39 → ∀ (blk : Array Value) (f : Nat × Nat), wr.heap[w.heap.size + 2]? ≠ some (.cells blk t f) := by
            intro t ht blk f e
            have := HR.out
            unfold Blk at this
            rw [this] at e
            simp at e
            exact ht e.2.1.symm
          refine ⟨_, _, _, rfl, (RowS.but (own_row HW.out.fr) Hbut.out (hne _ (by decide))).weak, (RowS.but (own_row HW.out.off) Hbut.out (hne _ (by decide))).weak, (RowS.but (own_row HW.out.gone) Hbut.out (hne _ (by decide))).weak, ?_⟩
          have hb0 := HB3.out
          exact But.below (Below.trans hg1 (Below.mono HG.out (by omega))) Hbut.out (by omega) (by omega)
  · have hS : sortS v h pg p = ⟨[], [], []⟩ := by unfold sortS; rw [if_neg hk]
    have HS := keep hS
    have hk' : (p.kind != 2) = true := by simpa using hk
    obtain ⟨p0, p1, p2, p3, p4, p5, _⟩ := pgres hP1
    obtain ⟨r0, r1, r2, f0, f1, f2⟩ := wkres hR1
    obtain ⟨q0, q1, q2, g0, g1, g2⟩ := wkres hW1
    clear hS hV1 hP1 hR1 hW1
    subst hb3
    unfold vwV pgV
    go_enter Tryz.func7, Tryz.ntmps7
    go_wp2_with fail
    rw [← hw1]
    refine bodyPost_ret (v := .agg #[.slice none 0 0, .slice none 0 0, .slice none 0 0]) ?_ rfl ?_
    · simp [results, Tryz.results7, go_sem, r0, r1, r2]
    · rw [HS.out]
      exact ⟨_, _, _, rfl, Row.nil _ _ _ _, Row.nil _ _ _ _, Row.nil _ _ _ _, hg1⟩

end Go.Proofs.YtikmkimkhngihaaGreat
