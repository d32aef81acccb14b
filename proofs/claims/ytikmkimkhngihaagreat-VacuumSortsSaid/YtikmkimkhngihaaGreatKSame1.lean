
import Derived.Test.YtikmkimkhngihaaGreatKSort1
import Derived.Deep.QuietTactic
import Derived.BigQuiet
/- vacuum.Sort. -/
namespace Go.Proofs.YtikmkimkhngihaaGreat
open Go.RowKit

def SortPost (k : Wk) (w : World) (e : Ending) (w' : World) : Prop :=
  ∃ fv ov gv, e = .returned (.agg #[fv, ov, gv]) ∧ Ints w' fv k.fr ∧ Ints w' ov k.off ∧ Row w' 73 gv k.gone.length (gCells k.gone) ∧ Below w.heap.size w w'

theorem wkres {w : World} {b t : Nat} {v0 v1 v2 : Value} (h : Blk w b t [v0, v1, v2]) :
    w.cell? ⟨b, 0, none⟩ = some v0 ∧ w.cell? ⟨b, 1, none⟩ = some v1 ∧ w.cell? ⟨b, 2, none⟩ = some v2 ∧ w.frozen? ⟨b, 0, none⟩ = false ∧ w.frozen? ⟨b, 1, none⟩ = false ∧ w.frozen? ⟨b, 2, none⟩ = false :=
  ⟨h.cell 0 (by simp), h.cell 1 (by simp), h.cell 2 (by simp), h.free 0, h.free 1, h.free 2⟩

theorem wkset {w : World} {b t : Nat} {a0 a1 a2 : Value} (h : Blk w b t [a0, a1, a2]) (v0 v1 v2 : Value) :
    Blk (((w.setCell ⟨b, 0, none⟩ v0).setCell ⟨b, 1, none⟩ v1).setCell ⟨b, 2, none⟩ v2) b t [v0, v1, v2] := ((h.set 0 v0).set 1 v1).set 2 v2
theorem wkbut (w : World) (b : Nat) (v0 v1 v2 : Value) : But b w (((w.setCell ⟨b, 0, none⟩ v0).setCell ⟨b, 1, none⟩ v1).setCell ⟨b, 2, none⟩ v2) :=
  (((But.refl b w).setCell 0 v0).setCell 1 v1).setCell 2 v2

theorem round_below {b : Nat} {w1 x x3 : World} {o : Obj} {row : Option Nat} {i : Nat} {v' : Value} (hbw : Below b w1 x) (hb : b ≤ x.heap.size) (hgrow : (x.alloc o).grownBy x3 row) (hrow : ∀ g, row = some g → b + 1 ≤ g) : Below b w1 (x3.setCell ⟨b, i, none⟩ v') := by
  refine ((hbw.alloc hb o).grown hgrow (by simp; omega) ?_).setCell (Nat.le_refl _) _
  intro k e
  have := hrow k e
  omega

theorem tup_stays {x x3 : World} {b t i : Nat} {K : Wk} {fv ov gv v' : Value} {cs : List Value} {o : Obj} (h : WkAt x b K fv ov gv) (hT : Blk x t 61 cs) (hgrow : (x.alloc o).grownBy x3 fv.ownBlock) : Blk (x3.setCell ⟨b, i, none⟩ v') t 61 cs := by
  have hbt : t ≠ b := by
    intro e
    have h1 := h.blk
    subst e
    unfold Blk at h1 hT
    rw [h1] at hT
    simp at hT
  refine Blk.set_other ?_ _ hbt _
  have h2 := hT.alloc o
  have hl := h2.lt
  unfold Blk at *
  rw [hgrow.block t hl ?_]
  · exact h2
  · intro e
    rcases (h.fr.alloc o).2 with ⟨hn, _⟩ | ⟨g, cap, cur, hn, _, hg, _⟩
    · rw [hn] at e; simp [Value.ownBlock] at e
    · rw [hn] at e
      simp [Value.ownBlock] at e
      subst e
      rw [h2] at hg
      simp at hg

set_option maxRecDepth 100000 in
set_option maxHeartbeats 2000000 in
theorem sort_any (v : Vw) (av rv cv : Value) (h pg : Int) (p : Pg) (iv : Value) (w : World) (hv : VwIn w v av rv cv) (hi : Items w iv p.items) (hl : (p.items.length : Int) ≤ 1759218604441) (hs : ∀ x ∈ p.items, (x.length : Int) ≤ 9223372036854775807) :
    Calls Tryz.prog 6 #[vwV v av rv cv, .int .i64 h, .int .i64 pg, pgV p iv] w (SortPost (sortS v h pg p) w) := by
  obtain ⟨w1, hw1⟩ : ∃ w1, w1 = (((w.alloc (.cells (vwCells v av rv cv).toArray 32)).alloc (.cells (pgCells p iv).toArray 30)).alloc (.cells #[.slice none 0 0, .slice none 0 0, .slice none 0 0] 39)).alloc (.cells #[.slice none 0 0, .slice none 0 0, .slice none 0 0] 39) := ⟨_, rfl⟩
  have hg1 : Grow w w1 := by subst hw1; exact ((((Grow.refl w).alloc _).alloc _).alloc _).alloc _
  have hz1 : w1.heap.size = w.heap.size + 4 := by subst hw1; simp
  have hV1 : Blk w1 w.heap.size 32 (vwCells v av rv cv) := by subst hw1; exact (((Blk.new w _ _).alloc _).alloc _).alloc _
  have hP1 : Blk w1 (w.heap.size + 1) 30 (pgCells p iv) := by
    have := ((Blk.new (w.alloc (.cells (vwCells v av rv cv).toArray 32)) 30 (pgCells p iv)).alloc (.cells #[.slice none 0 0, .slice none 0 0, .slice none 0 0] 39)).alloc (.cells #[.slice none 0 0, .slice none 0 0, .slice none 0 0] 39)
    have e : (w.alloc (.cells (vwCells v av rv cv).toArray 32)).heap.size = w.heap.size + 1 := by simp
    rw [e] at this
    subst hw1; exact this
  have hR1 : Blk w1 (w.heap.size + 2) 39 [.slice none 0 0, .slice none 0 0, .slice none 0 0] := by
    have := (Blk.new ((w.alloc (.cells (vwCells v av rv cv).toArray 32)).alloc (.cells (pgCells p iv).toArray 30)) 39 [.slice none 0 0, .slice none 0 0, .slice none 0 0]).alloc (.cells #[.slice none 0 0, .slice none 0 0, .slice none 0 0] 39)
    have e : ((w.alloc (.cells (vwCells v av rv cv).toArray 32)).alloc (.cells (pgCells p iv).toArray 30)).heap.size = w.heap.size + 2 := by simp
    rw [e] at this
    subst hw1; exact this
  have hW1 : Blk w1 (w.heap.size + 3) 39 [.slice none 0 0, .slice none 0 0, .slice none 0 0] := by
    have := Blk.new (((w.alloc (.cells (vwCells v av rv cv).toArray 32)).alloc (.cells (pgCells p iv).toArray 30)).alloc (.cells #[.slice none 0 0, .slice none 0 0, .slice none 0 0] 39)) 39 [.slice none 0 0, .slice none 0 0, .slice none 0 0]
    have e : (((w.alloc (.cells (vwCells v av rv cv).toArray 32)).alloc (.cells (pgCells p iv).toArray 30)).alloc (.cells #[.slice none 0 0, .slice none 0 0, .slice none 0 0] 39)).heap.size = w.heap.size + 3 := by simp
    rw [e] at this
    subst hw1; exact this
  have Hv := keep hv
  have Hi := keep hi
  have Hs := keep hs
  obtain ⟨iva, ivc, rfl⟩ := items_form hi
  clear hv hi hs
  unfold vwCells at hw1 hV1
  unfold pgCells at hw1 hP1
  have hw0 := w.heap.size.zero_le
  generalize hb3 : w.heap.size + 3 = b at *
  by_cases hk : p.kind = 2
  · have hS : sortS v h pg p = sortK v h pg p.items p.items.length := by unfold sortS; rw [if_pos hk]
    have HS := keep hS
    have hk' : (p.kind != 2) = false := by simpa using hk
    have hW0 : WkAt w1 b ⟨[], [], []⟩ (.slice none 0 0) (.slice none 0 0) (.slice none 0 0) := ⟨hW1, World.ownsRow_nil _ _ _ _, World.ownsRow_nil _ _ _ _, World.ownsRow_nil _ _ _ _, .inl rfl⟩
    obtain ⟨p0, p1, p2, p3, p4, p5, _⟩ := pgres hP1
    obtain ⟨iI, hiI, hzI0, hzI1, hzI2⟩ := info_parts infoInt
    obtain ⟨iE, hiE, hzE0, hzE1, hzE2⟩ := info_parts infoEntry
    have HB3 := keep hb3
    have HLen := keep hl
    clear hS hP1 hW1 hk hb3
    unfold vwV pgV
    go_enter Tryz.func6, Tryz.ntmps6
    go_wp2_with fail
    rw [← hw1]
    clear hw1 p0 p1 p2 p3 p4 p5
    have e3 : w.heap.size + 1 + 1 + 1 = b := by have := HB3.out; omega
    have e2 : w.heap.size + 1 + 1 = w.heap.size + 2 := by omega
    rw [e3, e2]
    go_loopw [23] (fun i wr => ∃ n : Nat, n ≤ p.items.length ∧ i = .int .i64 n ∧ (∃ fv ov gv, WkAt wr b (sortK v h pg p.items n) fv ov gv) ∧ Below b w1 wr) (fun i _ => p.items.length - (intOf i).toNat)
    case atStart => exact ⟨0, Nat.zero_le _, rfl, ⟨_, _, _, hW0⟩, Below.refl _ _⟩
    case round =>
      obtain ⟨n, hn, rfl, ⟨fv, ov, gv, hW0⟩, hG0⟩ := hrel
      by_cases hlt : n < p.items.length
      · obtain ⟨c, off, cap, e, hc⟩ := items_cells (Row.fits Hi.out (Below.trans hg1 (Below.mono hG0 (by have := HB3.out; omega)))) (by omega)
        simp only [Value.slice.injEq] at e
        obtain ⟨rfl, _, rfl⟩ := e
        have hcell := hc n hlt
        have hll := Hs.out _ (List.getElem_mem hlt)
        have hstep : sortK v h pg p.items (n + 1) = stepW v h pg (sortK v h pg p.items n) n p.items[n] := by rw [sortK]; simp [hlt]
        have hKl := sortK_len v h pg p.items n
        generalize p.items[n] = l at *
        generalize sortK v h pg p.items n = K at *
        have hst := state_any (str l) wr (by simpa using hll)
        have hky := fun u => key_any (str l) u (by simpa using hll)
        have hdc : ∀ u, Calls Tryz.prog 22 #[.string (str l)] u (DecPost l u) := fun u => decode_any (str l) u (by simpa using hll)
        unfold DecPost at hdc
        simp only [str_toList] at hst hky
        have hD : stateS l = 3 → (decS l).isSome = true := by
          unfold stateS; split
          · simp
          · split
            · intro _; assumption
            · split <;> simp
        have HKl : Kept (K.fr.length < 1759218604441 ∧ K.off.length < 1759218604441 ∧ K.gone.length < 1759218604441) := keep (by have := HLen.out; omega)
        unfold stepW at hstep
        generalize stateS l = S at *
        generalize (keyS l) = Y at *
        generalize (decS l).isSome = D at *
        generalize (decS l).getD noTup = T at *
        have HStep := keep hstep
        have Hst := keep hst
        have Hky := keep hky
        have Hdc := keep hdc
        have HD := keep hD
        clear hstep hst hky hdc hD hc hll hKl
        go_wp2_with fail
        refine Hst.out.mono ?_
        rintro e x1 ⟨rfl, hb1⟩
        have hW2 := hW0.fits hb1
        have hG2 := Below.trans hG0 (Below.mono hb1 (Nat.le_of_lt hW0.blk.lt))
        have hV2 := hV1.below hG2 (by have := HB3.out; omega)
        clear hcell
        by_cases h2 : S = 2
        · subst h2
          have hs2 := HStep.out
          rw [if_pos rfl] at hs2
          have HStep := keep hs2
          clear hs2
          go_wp2_with fail
          refine (Hky.out x1).mono ?_
          rintro e x2 ⟨rfl, hb2⟩
          have hW3 := hW2.fits hb2
          have hG3 := Below.trans hG2 (Below.mono hb2 (Nat.le_of_lt hW2.blk.lt))
          have hV3 := hV1.below hG3 (by have := HB3.out; omega)
          obtain ⟨y0, y1, y2, z0, z1, z2⟩ := wkres hW3.blk
          go_wp2_with ((at_builtin; go_must (refine wpList_append_own_at _ rfl _ _ 37 rfl (b + 1) 73 iE (.agg #[.string ⟨#[]⟩, .int .i64 0, .int .i64 0]) 3 32 Tryz.underlying37 hiE hzE0 hzE1 hzE2 rfl (by decide) _ _ _ rfl (hW3.gone.alloc _) ⟨x2.heap.size, 0, none⟩ 1 1 [.string (str Y.1), .int .i64 pg, .int .i64 (n : Int)] rfl rfl (cell_three_new _ _ _ _ _) (by intro u hu; simp at hu; rcases hu with rfl | rfl | rfl <;> rfl) (by have := HKl.out; (try dsimp only at *); unfold maxLen; omega) (by have := HKl.out; (try dsimp only at *); omega) (by have := hW3.blk.lt; simp; omega) ?_); intro v' xa hown' hgrow _ hat; obtain ⟨a', cap', rfl⟩ := own_form hown'; have hSt := hW3.stands hgrow (fun g e => (hW3.gone.lt g e).1); obtain ⟨u0, u1, u2, t0, t1, t2⟩ := wkres hSt; have hWa := hW3.pushGone hgrow (x := (Y.1, pg, (n : Int))) hown'; have hGa := round_below (i := 2) (v' := .slice a' (K.gone.length + 1) cap') hG3 (Nat.le_of_lt hW3.blk.lt) hgrow (fun g e => (hW3.gone.lt g e).1); have HWa := keep hWa; have HGa := keep hGa; clear hWa hGa hSt))
          go_roundw
          case rel =>
            refine ⟨n + 1, by omega, by go_num, ?_, HGa.out⟩
            rw [HStep.out]
            exact ⟨_, _, _, HWa.out⟩
          case measure => simp [intOf]; omega
        · by_cases h3 : S = 3
          · subst h3
            have hd := HD.out rfl
            subst hd
            have hs3 := HStep.out
            rw [if_neg (by decide), if_pos rfl] at hs3
            have HStep := keep hs3
            clear hs3 h2
            go_wp2_with fail
            refine (Hdc.out x1).mono ?_
            rintro e x2 ⟨rfl, hb2⟩
            have hW3 := hW2.fits hb2
            have hG3 := Below.trans hG2 (Below.mono hb2 (Nat.le_of_lt hW2.blk.lt))
            have hV3 := hV1.below hG3 (by have := HB3.out; omega)
            have hT4 : Blk (x2.alloc (.cells (tuCells T).toArray 61)) x2.heap.size 61 (tuCells T) := Blk.new _ _ _
            have hga : Grow x2 (x2.alloc (.cells (tuCells T).toArray 61)) := (Grow.refl _).alloc _
            have hW4 := hW3.fits hga
            have hG4 := Below.trans hG3 (Below.mono hga (Nat.le_of_lt hW3.blk.lt))
            have hV4 := hV1.below hG4 (by have := HB3.out; omega)
            have hgo := gone_any v av rv cv T h _ (Hv.out.fits (Below.trans hg1 (Below.mono hG4 (by have := HB3.out; omega))))
            have hol := fun u hu => old_any v av rv cv T h u hu
            have hof := fun u hu => off_any v av rv cv T u hu
            unfold tuCells at hT4 hW4 hV4 hgo hG4
            generalize goneB v T h = Gb at *
            generalize oldB v T h = Ob at *
            generalize offB v T = Fb at *
            have Hgo := keep hgo
            have Hol := keep hol
            have Hof := keep hof
            clear hgo hol hof hga
            obtain ⟨c0, c1, c2, c3, c4, c5, c6, c7, c8, c9, c10⟩ := vwres hV4
            obtain ⟨d0, d1, d2, d3, d4⟩ := tures hT4
            unfold tupV
            go_wp2_with fail
            refine Hgo.out.mono ?_
            rintro e x3 ⟨rfl, hb3⟩
            have hW5 := hW4.fits hb3
            have hG5 := Below.trans hG4 (Below.mono hb3 (Nat.le_of_lt hW4.blk.lt))
            have hV5 := hV1.below hG5 (by have := HB3.out; omega)
            have hT5 := hT4.fits hb3
            clear c0 c1 c2 c3 c4 c5 c6 c7 c8 c9 c10
            clear d0 d1 d2 d3 d4
            obtain ⟨c0, c1, c2, c3, c4, c5, c6, c7, c8, c9, c10⟩ := vwres hV5
            obtain ⟨d0, d1, d2, d3, d4⟩ := tures hT5
            obtain ⟨y0, y1, y2, z0, z1, z2⟩ := wkres hW5.blk
            cases Gb with
            | true =>
              go_wp2_with ((at_builtin; go_must (refine wpList_append_own_at _ rfl _ _ 37 rfl (b + 1) 73 iE (.agg #[.string ⟨#[]⟩, .int .i64 0, .int .i64 0]) 3 32 Tryz.underlying37 hiE hzE0 hzE1 hzE2 rfl (by decide) _ _ _ rfl (hW5.gone.alloc _) ⟨x3.heap.size, 0, none⟩ 1 1 [.string (str T.key), .int .i64 pg, .int .i64 (n : Int)] rfl rfl (cell_three_new _ _ _ _ _) (by intro u hu; simp at hu; rcases hu with rfl | rfl | rfl <;> rfl) (by have := HKl.out; (try dsimp only at *); unfold maxLen; omega) (by have := HKl.out; (try dsimp only at *); omega) (by have := hW5.blk.lt; simp; omega) ?_); intro v' xa hown' hgrow _ hat; obtain ⟨a', cap', rfl⟩ := own_form hown'; have hSt := hW5.stands hgrow (fun g e => (hW5.gone.lt g e).1); obtain ⟨u0, u1, u2, t0, t1, t2⟩ := wkres hSt; have hWa := hW5.pushGone hgrow (x := (T.key, pg, (n : Int))) hown'; have hGa := round_below (i := 2) (v' := .slice a' (K.gone.length + 1) cap') hG5 (Nat.le_of_lt hW5.blk.lt) hgrow (fun g e => (hW5.gone.lt g e).1); have HWa := keep hWa; have HGa := keep hGa; clear hWa hGa hSt))
              go_roundw
              case rel =>
                refine ⟨n + 1, by omega, by go_num, ?_, HGa.out⟩
                rw [HStep.out]
                exact ⟨_, _, _, HWa.out⟩
              case measure => simp [intOf]; omega
            | false =>
              go_wp2_with fail
              refine (Hol.out x3 (Hv.out.fits (Below.trans hg1 (Below.mono hG5 (by have := HB3.out; omega))))).mono ?_
              rintro e x4 ⟨rfl, hb4⟩
              have hW7 := hW5.fits hb4
              have hG7 := Below.trans hG5 (Below.mono hb4 (Nat.le_of_lt hW5.blk.lt))
              have hV7 := hV1.below hG7 (by have := HB3.out; omega)
              have hT7 := hT5.fits hb4
              clear c0 c1 c2 c3 c4 c5 c6 c7 c8 c9 c10
              clear d0 d1 d2 d3 d4
              clear y0 y1 y2 z0 z1 z2
              obtain ⟨c0, c1, c2, c3, c4, c5, c6, c7, c8, c9, c10⟩ := vwres hV7
              obtain ⟨d0, d1, d2, d3, d4⟩ := tures hT7
              obtain ⟨y0, y1, y2, z0, z1, z2⟩ := wkres hW7.blk
              cases Ob with
              | true =>
                go_wp2_with ((at_builtin; go_must (refine wpList_append_own_at _ rfl _ _ 25 rfl (b + 1) 3 iI (.int .i64 0) 1 8 Tryz.underlying25 hiI hzI0 hzI1 hzI2 rfl (by decide) _ _ _ rfl (hW7.fr.alloc _) ⟨x4.heap.size, 0, none⟩ 1 1 [.int .i64 (n : Int)] rfl rfl (cell_one_new _ _ _) (ints_oneCell .i64 [(n : Int)]) (by have := HKl.out; (try dsimp only at *); unfold maxLen; omega) (by have := HKl.out; (try dsimp only at *); omega) (by have := hW7.blk.lt; simp; omega) ?_); intro v' xa hown' hgrow _ hat; obtain ⟨a', cap', rfl⟩ := own_form hown'; have hSt := hW7.stands hgrow (fun g e => (hW7.fr.lt g e).1); obtain ⟨u0, u1, u2, t0, t1, t2⟩ := wkres hSt; have hWa := hW7.pushFr hgrow (x := (n : Int)) hown' hat; have hGa := round_below (i := 0) (v' := .slice a' (K.fr.length + 1) cap') hG7 (Nat.le_of_lt hW7.blk.lt) hgrow (fun g e => (hW7.fr.lt g e).1); have HWa := keep hWa; have HGa := keep hGa; have hVa := hV1.below hGa (by have := HB3.out; omega); have hTa := tup_stays hW7 (i := 0) (v' := .slice a' (K.fr.length + 1) cap') hT7 hgrow; obtain ⟨a0, a1, a2, a3, a4, a5, a6, a7, a8, a9, a10⟩ := vwres hVa; obtain ⟨b0, b1, b2, b3, b4⟩ := tures hTa; clear hVa hTa; clear hWa hGa hSt))
                refine (Hof.out _ (Hv.out.fits (Below.trans hg1 (Below.mono HGa.out (by have := HB3.out; omega))))).mono ?_
                rintro e x5 ⟨rfl, hb5⟩
                have hW8 := HWa.out.fits hb5
                have hG8 := Below.trans HGa.out (Below.mono hb5 (Nat.le_of_lt HWa.out.blk.lt))
                clear HWa HGa
                clear c0 c1 c2 c3 c4 c5 c6 c7 c8 c9 c10
                clear d0 d1 d2 d3 d4
                clear y0 y1 y2 z0 z1 z2
                clear u0 u1 u2 t0 t1 t2
                obtain ⟨y0, y1, y2, z0, z1, z2⟩ := wkres hW8.blk
                cases Fb with
                | true =>
                  go_wp2_with ((at_builtin; go_must (refine wpList_append_own_at _ rfl _ _ 25 rfl (b + 1) 3 iI (.int .i64 0) 1 8 Tryz.underlying25 hiI hzI0 hzI1 hzI2 rfl (by decide) _ _ _ rfl (hW8.off.alloc _) ⟨x5.heap.size, 0, none⟩ 1 1 [.int .i64 (n : Int)] rfl rfl (cell_one_new _ _ _) (ints_oneCell .i64 [(n : Int)]) (by have := HKl.out; (try dsimp only at *); unfold maxLen; omega) (by have := HKl.out; (try dsimp only at *); omega) (by have := hW8.blk.lt; simp; omega) ?_); intro v' xa hown' hgrow _ hat; obtain ⟨a', cap', rfl⟩ := own_form hown'; have hSt := hW8.stands hgrow (fun g e => (hW8.off.lt g e).1); obtain ⟨u0, u1, u2, t0, t1, t2⟩ := wkres hSt; have hWa := hW8.pushOff hgrow (x := (n : Int)) hown' hat; have hGa := round_below (i := 1) (v' := .slice a' (K.off.length + 1) cap') hG8 (Nat.le_of_lt hW8.blk.lt) hgrow (fun g e => (hW8.off.lt g e).1); have HWa := keep hWa; have HGa := keep hGa; clear hWa hGa hSt))
                  go_roundw
                  case rel =>
                    refine ⟨n + 1, by omega, by go_num, ?_, HGa.out⟩
                    rw [HStep.out]
                    exact ⟨_, _, _, HWa.out⟩
                  case measure => simp [intOf]; omega
                | false =>
                  go_wp2_with fail
                  go_roundw
                  case rel =>
                    refine ⟨n + 1, by omega, by go_num, ?_, hG8⟩
                    rw [HStep.out]
                    exact ⟨_, _, _, hW8⟩
                  case measure => simp [intOf]; omega
              | false =>
                go_wp2_with fail
                refine (Hof.out x4 (Hv.out.fits (Below.trans hg1 (Below.mono hG7 (by have := HB3.out; omega))))).mono ?_
                rintro e x5 ⟨rfl, hb5⟩
                have hW8 := hW7.fits hb5
                have hG8 := Below.trans hG7 (Below.mono hb5 (Nat.le_of_lt hW7.blk.lt))
                have hV8 := hV1.below hG8 (by have := HB3.out; omega)
                clear c0 c1 c2 c3 c4 c5 c6 c7 c8 c9 c10
                clear d0 d1 d2 d3 d4
                clear y0 y1 y2 z0 z1 z2
                obtain ⟨y0, y1, y2, z0, z1, z2⟩ := wkres hW8.blk
                cases Fb with
                | true =>
                  go_wp2_with ((at_builtin; go_must (refine wpList_append_own_at _ rfl _ _ 25 rfl (b + 1) 3 iI (.int .i64 0) 1 8 Tryz.underlying25 hiI hzI0 hzI1 hzI2 rfl (by decide) _ _ _ rfl (hW8.off.alloc _) ⟨x5.heap.size, 0, none⟩ 1 1 [.int .i64 (n : Int)] rfl rfl (cell_one_new _ _ _) (ints_oneCell .i64 [(n : Int)]) (by have := HKl.out; (try dsimp only at *); unfold maxLen; omega) (by have := HKl.out; (try dsimp only at *); omega) (by have := hW8.blk.lt; simp; omega) ?_); intro v' xa hown' hgrow _ hat; obtain ⟨a', cap', rfl⟩ := own_form hown'; have hSt := hW8.stands hgrow (fun g e => (hW8.off.lt g e).1); obtain ⟨u0, u1, u2, t0, t1, t2⟩ := wkres hSt; have hWa := hW8.pushOff hgrow (x := (n : Int)) hown' hat; have hGa := round_below (i := 1) (v' := .slice a' (K.off.length + 1) cap') hG8 (Nat.le_of_lt hW8.blk.lt) hgrow (fun g e => (hW8.off.lt g e).1); have HWa := keep hWa; have HGa := keep hGa; clear hWa hGa hSt))
                  go_roundw
                  case rel =>
                    refine ⟨n + 1, by omega, by go_num, ?_, HGa.out⟩
                    rw [HStep.out]
                    exact ⟨_, _, _, HWa.out⟩
                  case measure => simp [intOf]; omega
                | false =>
                  go_wp2_with fail
                  go_roundw
                  case rel =>
                    refine ⟨n + 1, by omega, by go_num, ?_, hG8⟩
                    rw [HStep.out]
                    exact ⟨_, _, _, hW8⟩
                  case measure => simp [intOf]; omega
          · have hs4 := HStep.out
            rw [if_neg h2, if_neg h3] at hs4
            have HStep := keep hs4
            have q2 : ((S : Int) == 2) = false := by simp; omega
            have q3 : ((S : Int) == 3) = false := by simp; omega
            clear hs4 h2 h3
            go_wp2_with fail
            go_roundw
            case rel =>
              refine ⟨n + 1, by omega, by go_num, ?_, hG2⟩
              rw [HStep.out]
              exact ⟨_, _, _, hW2⟩
            case measure => simp [intOf]; omega
      · have e : n = p.items.length := by omega
        subst e
        have hR2 := hR1.below hG0 (by have := HB3.out; omega)
        have hs5 := HS.out
        generalize sortK v h pg p.items p.items.length = K at hW0 hs5
        have HS5 := keep hs5
        obtain ⟨fa, fc, rfl⟩ := own_form hW0.fr
        obtain ⟨oa, oc, rfl⟩ := own_form hW0.off
        obtain ⟨ga, gc, rfl⟩ := own_form hW0.gone
        obtain ⟨r0, r1, r2, f0, f1, f2⟩ := wkres hR2
        have Hset := keep (wkset hR2 (.slice fa K.fr.length fc) (.slice oa K.off.length oc) (.slice ga K.gone.length gc))
        have Hbut := keep (wkbut wr (w.heap.size + 2) (.slice fa K.fr.length fc) (.slice oa K.off.length oc) (.slice ga K.gone.length gc))
        obtain ⟨y0, y1, y2, z0, z1, z2⟩ := wkres hW0.blk
        have HW := keep hW0
        have HG := keep hG0
        have HR := keep hR2
        have hlast := hW0.blk.lt
        clear hW0 hG0 hR2 hR1 hV1 hs5
        go_wp2_with fail
        refine bodyPost_ret (v := .agg #[.slice fa K.fr.length fc, .slice oa K.off.length oc, .slice ga K.gone.length gc]) ?_ rfl ?_
        · obtain ⟨s0, s1, s2, _⟩ := wkres Hset.out
          simp [results, Tryz.results6, go_sem, s0, s1, s2]
        · rw [HS5.out]
          have hne : ∀ t, t ≠ 39 → ∀ (blk : Array Value) (f : Nat × Nat), wr.heap[w.heap.size + 2]? ≠ some (.cells blk t f) := by
            intro t ht blk f e
            have := HR.out
            unfold Blk at this
            rw [this] at e
            simp at e
            exact ht e.2.1.symm
          refine ⟨_, _, _, rfl, (RowS.but (own_row HW.out.fr) Hbut.out (hne _ (by decide))).weak, (RowS.but (own_row HW.out.off) Hbut.out (hne _ (by decide))).weak, (RowS.but (own_row HW.out.gone) Hbut.out (hne _ (by decide))).weak, ?_⟩
          have hb0 := HB3.out
          exact But.below (Below.trans hg1 (Below.mono HG.out (by omega))) Hbut.out (by omega) (by omega)
  · have hS : sortS v h pg p = ⟨[], [], []⟩ := by unfold sortS; rw [if_neg hk]
    have HS := keep hS
    have hk' : (p.kind != 2) = true := by simpa using hk
    obtain ⟨p0, p1, p2, p3, p4, p5, _⟩ := pgres hP1
    obtain ⟨r0, r1, r2, f0, f1, f2⟩ := wkres hR1
    obtain ⟨q0, q1, q2, g0, g1, g2⟩ := wkres hW1
    clear hS hV1 hP1 hR1 hW1
    subst hb3
    unfold vwV pgV
    go_enter Tryz.func6, Tryz.ntmps6
    go_wp2_with fail
    rw [← hw1]
    refine bodyPost_ret (v := .agg #[.slice none 0 0, .slice none 0 0, .slice none 0 0]) ?_ rfl ?_
    · simp [results, Tryz.results6, go_sem, r0, r1, r2]
    · rw [HS.out]
      exact ⟨_, _, _, rfl, Row.nil _ _ _ _, Row.nil _ _ _ _, Row.nil _ _ _ _, hg1⟩

end Go.Proofs.YtikmkimkhngihaaGreat

/- almonryref00.SameInts: whether two rows of ints are the same. -/
namespace Go.Proofs.YtikmkimkhngihaaGreat
open Go.RowKit

theorem take_eq_succ {a b : List Int} {k : Nat} (h : a.take k = b.take k) (ha : k < a.length) (hb : k < b.length) (hk : a.getD k 0 = b.getD k 0) : a.take (k + 1) = b.take (k + 1) := by
  rw [List.take_succ_eq_append_getElem ha, List.take_succ_eq_append_getElem hb, h]
  simp [ha, hb] at hk
  rw [hk]

set_option maxRecDepth 100000 in
set_option maxHeartbeats 1000000 in
theorem sameInts_any (av bv : Value) (a b : List Int) (w : World) (ha : Ints w av a) (hb : Ints w bv b) (hla : (a.length : Int) ≤ 70368744177664) (_hlb : (b.length : Int) ≤ 70368744177664) :
    Calls Tryz.prog 32 #[av, bv] w fun e w' => e = .returned (.bool (decide (a = b))) ∧ Below w.heap.size w w' := by
  obtain ⟨aa, ac, rfl, hca⟩ := ints_form ha
  obtain ⟨ba, bc, rfl, hcb⟩ := ints_form hb
  clear ha hb
  have HA := keep hca
  have HB := keep hcb
  clear hca hcb
  go_enter Tryz.func32, Tryz.ntmps32
  by_cases hl : a.length = b.length
  · have hl' : ((a.length : Int) != (b.length : Int)) = false := by simp [hl]
    go_wp2_with fail
    go_loopw [5] (fun i wr => ∃ k : Nat, k ≤ a.length ∧ i = .int .i64 k ∧ Kept (a.take k = b.take k) ∧ Below w.heap.size w wr) (fun i _ => a.length - (intOf i).toNat)
    case atStart => exact ⟨0, Nat.zero_le _, rfl, keep rfl, Below.refl _ _⟩
    case round =>
      obtain ⟨k, hk, rfl, hT, hG⟩ := hrel
      by_cases hlt : k < a.length
      · have hltb : k < b.length := by omega
        obtain ⟨c, off, rfl, hx⟩ := HA.out k hlt
        obtain ⟨d, off', rfl, hy⟩ := HB.out k hltb
        have hx1 := (hG.cell (p := ⟨c, off + k, none⟩) (World.block_lt_of_cell? w _ hx)).trans hx
        have hy1 := (hG.cell (p := ⟨d, off' + k, none⟩) (World.block_lt_of_cell? w _ hy)).trans hy
        have hi1 : (k : Int) < (a.length : Int) := by omega
        have hi2 : (k : Int) < (b.length : Int) := by omega
        have hst := take_eq_succ hT.out hlt hltb
        have hne : a.getD k 0 ≠ b.getD k 0 → decide (a = b) = false := by
          intro h; simp; intro e; rw [e] at h; exact h rfl
        generalize a.getD k 0 = x at *
        generalize b.getD k 0 = y at *
        have HS := keep hst
        have HN := keep hne
        clear hst hne hx hy
        by_cases hxy : x = y
        · have e1 : (x != y) = false := by simp [hxy]
          go_wp2_with fail
          go_quiet (fail)
          go_wp2_with fail
          go_roundw
          case rel => exact ⟨k + 1, by omega, by go_num, keep (HS.out hxy), ⟨hG.os, hG.tape, hG.output, hG.size, hG.block⟩⟩
          case measure => simp [intOf]; omega
        · have e1 : (x != y) = true := by simp [hxy]
          go_wp2_with fail
          go_quiet (fail)
          go_wp2_with fail
          go_ret
          rw [HN.out hxy]
          exact ⟨rfl, ⟨hG.os, hG.tape, hG.output, hG.size, hG.block⟩⟩
      · have e : decide (a = b) = true := by
          have := hT.out
          rw [List.take_of_length_le (by omega), List.take_of_length_le (by omega)] at this
          simp [this]
        have He := keep e
        clear e
        go_wp2_with fail
        go_ret
        rw [He.out]
        exact ⟨rfl, hG⟩
  · have hl' : ((a.length : Int) != (b.length : Int)) = true := by simp; omega
    have e : decide (a = b) = false := by simp; intro h; exact hl (by rw [h])
    have He := keep e
    clear e
    go_wp2_with fail
    go_ret
    rw [He.out]
    exact ⟨rfl, Below.refl _ _⟩

end Go.Proofs.YtikmkimkhngihaaGreat
