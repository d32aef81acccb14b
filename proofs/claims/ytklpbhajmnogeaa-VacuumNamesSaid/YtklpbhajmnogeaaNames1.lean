/- almonrylaw20.VacuumNames answers true. -/
import Derived.Test.YtklpbhajmnogeaaAwake2
namespace Go.Proofs.Ytklpbhajmnogeaa
open Go.RowKit
attribute [local go_sem] gives givesUpon_value givesUpon_skip givesUpon_enter

def lastS (l : List (List UInt8 × Int × Int)) : Nat → Int
  | 0 => -1
  | n + 1 => (l.getD n ([], 0, 0)).2.2

theorem law_get {pg : Int} {items : List (List UInt8)} {N : Nat} {K : Wk} (H : Law pg items N K) {n : Nat} (hn : n < K.gone.length) :
    ∃ j : Nat, j < N ∧ K.gone.getD n ([], 0, 0) = ((keyS (items.getD j [])).1, pg, (j : Int)) ∧ (keyS (items.getD j [])).2 = true ∧ lastS K.gone n < (j : Int) := by
  have hm : K.gone.getD n ([], 0, 0) ∈ K.gone := by
    rw [List.getD_eq_getElem?_getD, List.getElem?_eq_getElem hn]; exact List.getElem_mem hn
  obtain ⟨j, hj, h1, h2⟩ := H.goneOk _ hm
  refine ⟨j, hj, h1, h2, ?_⟩
  cases n with
  | zero => simp [lastS]; omega
  | succ n =>
    have hp := H.goneUp
    rw [List.pairwise_iff_getElem] at hp
    have := hp n (n + 1) (by simp; omega) (by simpa using hn) (by omega)
    simp only [List.getElem_map] at this
    have e : (K.gone.getD (n + 1) ([], 0, 0)).2.2 = (j : Int) := by rw [h1]
    rw [← e]
    simp only [lastS]
    rw [List.getD_eq_getElem?_getD, List.getD_eq_getElem?_getD, List.getElem?_eq_getElem hn, List.getElem?_eq_getElem (show n < K.gone.length by omega)]
    exact this
theorem law_fr {pg : Int} {items : List (List UInt8)} {N : Nat} {K : Wk} (H : Law pg items N K) {n q : Nat} (hn : n < K.gone.length) (hq : q < K.fr.length) : K.fr.getD q 0 ≠ (K.gone.getD n ([], 0, 0)).2.2 := by
  have hm : K.gone.getD n ([], 0, 0) ∈ K.gone := by
    rw [List.getD_eq_getElem?_getD, List.getElem?_eq_getElem hn]; exact List.getElem_mem hn
  intro e
  refine H.apartF _ hm ?_
  rw [← e, List.getD_eq_getElem?_getD, List.getElem?_eq_getElem hq]
  exact List.getElem_mem hq
theorem law_off {pg : Int} {items : List (List UInt8)} {N : Nat} {K : Wk} (H : Law pg items N K) {n q : Nat} (hn : n < K.gone.length) (hq : q < K.off.length) : K.off.getD q 0 ≠ (K.gone.getD n ([], 0, 0)).2.2 := by
  have hm : K.gone.getD n ([], 0, 0) ∈ K.gone := by
    rw [List.getD_eq_getElem?_getD, List.getElem?_eq_getElem hn]; exact List.getElem_mem hn
  intro e
  refine H.apartO _ hm ?_
  rw [← e, List.getD_eq_getElem?_getD, List.getElem?_eq_getElem hq]
  exact List.getElem_mem hq
theorem law_live {pg : Int} {items : List (List UInt8)} {N : Nat} {K : Wk} (H : Law pg items N K) {q : Nat} (hq : q < K.fr.length) : ∃ j : Nat, j < N ∧ K.fr.getD q 0 = (j : Int) ∧ stateS (items.getD j []) = 3 := by
  have hm : K.fr.getD q 0 ∈ K.fr := by
    rw [List.getD_eq_getElem?_getD, List.getElem?_eq_getElem hq]; exact List.getElem_mem hq
  exact H.frOk _ hm
theorem law_up {pg : Int} {items : List (List UInt8)} {N : Nat} {K : Wk} (H : Law pg items N K) {q : Nat} (hq : q + 1 < K.fr.length) : K.fr.getD q 0 < K.fr.getD (q + 1) 0 := by
  have hp := H.frUp
  rw [List.pairwise_iff_getElem] at hp
  have := hp q (q + 1) (by omega) hq (by omega)
  rw [List.getD_eq_getElem?_getD, List.getD_eq_getElem?_getD, List.getElem?_eq_getElem hq, List.getElem?_eq_getElem (show q < K.fr.length by omega)]
  exact this

set_option maxRecDepth 100000 in
set_option maxHeartbeats 4000000 in
theorem names_any (m fr : Int) (sv : Value) (sl : List (Int × Nat)) (v : Vw) (av rv iv lv : Value) (l : List Sl) (w : World) (hsv : Row w 55 sv sl.length (saidCells sl)) (hlen : (sl.length : Int) ≤ 70368744177664) (hs8 : ∀ x ∈ sl, x.2 < 256) (hv : VwIn w v av rv iv)
    (hl : Row w 59 lv l.length (slCells l)) (hll : (l.length : Int) ≤ 1759218604441) (hraw : ∀ x ∈ l, (x.raw.length : Int) ≤ 9223372036854775807) :
    Calls Try.prog 3 #[.agg #[.int .i64 m, .int .i64 fr, sv], vwV v av rv iv, lv] w fun e w' => e = .returned (.bool true) ∧ Below w.heap.size w w' := by
  obtain ⟨sa, sc, rfl, _⟩ := said_get hsv
  obtain ⟨la, lc, rfl, _⟩ := slots_get hl
  obtain ⟨iva, ivc, rfl⟩ := items_form hv.items
  obtain ⟨rva, rvc, rfl, _⟩ := ints_form hv.run
  obtain ⟨ava, avc, rfl, _⟩ := ints_form hv.act
  obtain ⟨w0, hw0⟩ : ∃ w0, w0 = (w.alloc (.cells #[.int .i64 m, .int .i64 fr, .slice sa sl.length sc] 24)).alloc (.cells (vwCells v (.slice ava v.active.length avc) (.slice rva v.running.length rvc) (.slice iva v.clog.items.length ivc)).toArray 32) := ⟨_, rfl⟩
  have hg0 : Grow w w0 := by subst hw0; exact ((Grow.refl w).alloc _).alloc _
  obtain ⟨b, hb⟩ : ∃ b, b = w.heap.size + 1 := ⟨_, rfl⟩
  have hM0 : Blk w0 w.heap.size 24 [.int .i64 m, .int .i64 fr, .slice sa sl.length sc] := by subst hw0; exact (Blk.new w _ _).alloc _
  have hV0 : Blk w0 b 32 (vwCells v (.slice ava v.active.length avc) (.slice rva v.running.length rvc) (.slice iva v.clog.items.length ivc)) := by
    have := Blk.new (w.alloc (.cells #[.int .i64 m, .int .i64 fr, .slice sa sl.length sc] 24)) 32 (vwCells v (.slice ava v.active.length avc) (.slice rva v.running.length rvc) (.slice iva v.clog.items.length ivc))
    have e : (w.alloc (.cells #[.int .i64 m, .int .i64 fr, .slice sa sl.length sc] 24)).heap.size = b := by rw [hb]; simp
    rw [e] at this
    subst hw0; exact this
  have hs0 := Row.fits hsv hg0
  have hl0 := Row.fits hl hg0
  have hv0 := hv.fits hg0
  have HLl := keep hll
  have HRaw := keep hraw
  have HS8 := keep hs8
  have HLen := keep hlen
  have HL0 := keep hl0
  clear hsv hl hv hll hraw hs8 hlen hl0
  obtain ⟨m0, m1, m2⟩ := three_cells hM0
  have hV0' := hV0
  unfold vwCells at hV0'
  obtain ⟨c0, c1, c2, c3, c4, c5, c6, c7, c8, c9, c10⟩ := vwres hV0'
  unfold vwV
  go_enter Try.func3, Try.ntmps3
  go_upto_region 1 with fail
  unfold vwCells at hw0
  rw [← hw0, ← hb]
  clear hw0 hV0'
  have HB := keep hb
  clear hb
  go_wp2_with fail
  refine (view_any m fr _ sl v _ _ _ w0 hs0 HLen.out HS8.out hv0).mono ?_
  rintro e w1 ⟨iv1, rfl, hi1, hb1⟩
  have hv1 := viewS_in hv0 hb1 hi1
  have hnx := keep (viewS_next m fr sl v)
  have hVb := hV0.fits hb1
  have hl1 := Row.fits HL0.out hb1
  generalize (viewS m fr sl v).1 = V at *
  generalize (viewS m fr sl v).2 = ok at *
  obtain ⟨ia1, ic1, rfl⟩ := items_form hi1
  obtain ⟨aa1, ac1, hae, _⟩ := ints_form hv1.act
  obtain ⟨ra1, rc1, hre, _⟩ := ints_form hv1.run
  have hg1 := Grow.trans hg0 hb1
  rw [hae, hre] at hv1 ⊢
  clear hs0 hv0 hi1 hb1 hg0 hae hre hM0 hV0 HL0 m0 m1 m2 c0 c1 c2 c3 c4 c5 c6 c7 c8 c9 c10
  unfold vwV
  go_upto_region 2 with fail
  obtain ⟨w2, hw2⟩ : ∃ w2, w2 = w1.alloc (.cells (vwCells V (.slice aa1 V.active.length ac1) (.slice ra1 V.running.length rc1) (.slice ia1 V.clog.items.length ic1)).toArray 32) := ⟨_, rfl⟩
  have hga : Grow w1 w2 := by subst hw2; exact (Grow.refl _).alloc _
  have hV2 : Blk w2 w1.heap.size 32 (vwCells V (.slice aa1 V.active.length ac1) (.slice ra1 V.running.length rc1) (.slice ia1 V.clog.items.length ic1)) := by subst hw2; exact Blk.new _ _ _
  have hv2 := hv1.fits hga
  have hVb2 := hVb.fits hga
  have hl2 := Row.fits hl1 hga
  have hg2 := Grow.trans hg1 hga
  unfold vwCells at hw2
  rw [← hw2]
  clear hw2 hga hv1 hg1 hVb hl1
  go_wp2_with fail
  refine (page_any _ l w2 hl2 HLl.out).mono ?_
  rintro e w3 ⟨iv3, rfl, hi3, hb3⟩
  have hpl := keep (pageS_len l)
  have hpf := keep (pageS_fine l HRaw.out)
  have hpk : Kept ((pageS l).kind = 2) := keep rfl
  generalize pageS l = P at *
  obtain ⟨ia3, ic3, rfl⟩ := items_form hi3
  have hV3 := hV2.fits hb3
  have hv3 := hv2.fits hb3
  have hVb3 := hVb2.fits hb3
  have hg3 := Grow.trans hg2 hb3
  clear hV2 hv2 hg2 hVb2 hl2 hb3
  unfold pgV
  go_upto_region 3 with fail
  obtain ⟨w4, hw4⟩ : ∃ w4, w4 = w3.alloc (.cells (pgCells P (.slice ia3 P.items.length ic3)).toArray 30) := ⟨_, rfl⟩
  have hga : Grow w3 w4 := by subst hw4; exact (Grow.refl _).alloc _
  have hP4 : Blk w4 w3.heap.size 30 (pgCells P (.slice ia3 P.items.length ic3)) := by subst hw4; exact Blk.new _ _ _
  have hV4 := hV3.fits hga
  have hv4 := hv3.fits hga
  have hVb4 := hVb3.fits hga
  have hg4 := Grow.trans hg3 hga
  have hi4 := Row.fits hi3 hga
  unfold pgCells at hw4
  rw [← hw4]
  clear hw4 hga hv3 hV3 hg3 hi3 hVb3
  unfold vwCells at hV4 hVb4
  obtain ⟨c0, c1, c2, c3, c4, c5, c6, c7, c8, c9, c10⟩ := vwres hV4
  have d1 := hVb4.cell 1 (by simp)
  have hP4' := hP4
  unfold pgCells at hP4'
  obtain ⟨p0, p1, p2, p3, p4, p5, _⟩ := pgres hP4'
  go_wp2_with fail
  refine (sort_any V _ _ _ v.next 9 P _ _ hv4 hi4 (by rw [hpl.out]; exact HLl.out) hpf.out).mono ?_
  rintro e w5 ⟨fv, ov, gv, rfl, h1, h2, h3, hb5⟩
  have hk5 := sort_in (by rw [hpl.out]; exact HLl.out) h1 h2 h3
  have hlaw : Kept (Law 9 P.items P.items.length (sortS V v.next 9 P)) := keep (by
    have := law_sort V v.next 9 P.items P.items.length
    unfold sortS; rw [if_pos hpk.out]; exact this)
  generalize sortS V v.next 9 P = K at *
  obtain ⟨fa, fc, rfl, _⟩ := ints_form h1
  obtain ⟨oa, oc, rfl, _⟩ := ints_form h2
  obtain ⟨ga, gc, rfl, _⟩ := gone_get h3
  have hP5 := hP4.fits hb5
  have hi5 := Row.fits hi4 hb5
  have hg5 := Grow.trans hg4 hb5
  clear h1 h2 h3 hv4 hi4 hV4 hVb4 hP4 hP4' hg4 hb5 c0 c1 c2 c3 c4 c5 c6 c7 c8 c9 c10 d1 p0 p1 p2 p3 p4 p5
  go_upto_region 4 with fail
  obtain ⟨w6, hw6⟩ : ∃ w6, w6 = w5.alloc (.cells #[.slice fa K.fr.length fc, .slice oa K.off.length oc, .slice ga K.gone.length gc] 39) := ⟨_, rfl⟩
  have hga : Grow w5 w6 := by subst hw6; exact (Grow.refl _).alloc _
  have hW6 : Blk w6 w5.heap.size 39 [.slice fa K.fr.length fc, .slice oa K.off.length oc, .slice ga K.gone.length gc] := by subst hw6; exact Blk.new _ _ [_, _, _]
  have hk6 := hk5.fits hga
  have hP6 := hP5.fits hga
  have hi6 := Row.fits hi5 hga
  have hg6 := Grow.trans hg5 hga
  rw [← hw6]
  clear hw6 hga hk5 hg5 hP5 hi5
  go_wp2_with fail
  have hgl := hk6.gonel
  have hfl := hk6.frl
  have hol := hk6.offl
  have hpl' := keep (show (P.items.length : Int) ≤ 1759218604441 by rw [hpl.out]; exact HLl.out)
  go_loopw [11, 12] (fun la i wr => ∃ n : Nat, n ≤ K.gone.length ∧ i = .int .i64 n ∧ la = .int .i64 (lastS K.gone n) ∧ Below w6.heap.size w6 wr) (fun _ i _ => K.gone.length - (intOf i).toNat)
  case atStart => exact ⟨0, Nat.zero_le _, rfl, rfl, Below.refl _ _⟩
  case round =>
    obtain ⟨n, hn, rfl, rfl, hG⟩ := hrel
    have hWr := hW6.fits hG
    obtain ⟨y0, y1, y2, _⟩ := wkres hWr
    by_cases hlt : n < K.gone.length
    · obtain ⟨j, hj, he, hkey, hlast⟩ := law_get hlaw.out hlt
      have hnl : lastS K.gone (n + 1) = (j : Int) := by simp only [lastS]; rw [he]
      have hF := fun q hq => law_fr (q := q) hlaw.out hlt hq
      have hO := fun q hq => law_off (q := q) hlaw.out hlt hq
      obtain ⟨_, _, e1, hx⟩ := gone_get (hk6.fits hG).gone
      simp only [Value.slice.injEq] at e1
      obtain ⟨rfl, _, rfl⟩ := e1
      obtain ⟨c, off, rfl, hx0, hx1, hx2⟩ := hx n hlt
      rw [he] at hx0 hx1 hx2 hF hO
      have hPr := hP6.fits hG
      have hPlt := hP6.lt
      have hWlt := hW6.lt
      obtain ⟨d, off', cap', e2, hc⟩ := items_cells (Row.fits hi6 hG) (by omega)
      simp only [Value.slice.injEq] at e2
      obtain ⟨rfl, _, rfl⟩ := e2
      have hcell := hc j hj
      have hjg : P.items.getD j [] = P.items[j] := by simp [hj]
      rw [hjg] at hx0 hkey
      have hky := fun u => key_any (str P.items[j]) u (by simpa using hpf.out _ (List.getElem_mem hj))
      simp only [str_toList] at hky
      generalize P.items[j] = L at *
      generalize hY : keyS L = Y at *
      obtain ⟨Y1, Y2⟩ := Y
      dsimp only at hx0 hkey hky hF hO hx1 hx2
      subst hkey
      generalize lastS K.gone n = la at *
      have q1 : ¬ ((j : Int) ≤ la) := by omega
      have q2 : ¬ ((P.items.length : Int) ≤ (j : Int)) := by omega
      have q3 : (j : Int) < (P.items.length : Int) := by omega
      have hPp := hPr
      unfold pgCells at hPr
      obtain ⟨p0, p1, p2, p3, p4, p5, _⟩ := pgres hPr
      have Hky := keep hky
      have HNl := keep hnl
      have HF := keep hF
      have HO := keep hO
      have Hcell := keep hcell
      have HG := keep hG
      have HWr := keep hWr
      have HPp := keep hPp
      have Hlast := keep hlast
      clear hc hx hF hO hnl hky he hY hjg hG hWr hPp hPr hlast
      go_upto_region 9 with fail
      obtain ⟨wE, hwE⟩ : ∃ wE, wE = wr.alloc (.cells #[.string (str Y1), .int .i64 9, .int .i64 (j : Int)] 42) := ⟨_, rfl⟩
      rw [← hwE]
      have hgE : Grow wr wE := by subst hwE; exact (Grow.refl _).alloc _
      have hEb : Blk wE wr.heap.size 42 [.string (str Y1), .int .i64 9, .int .i64 (j : Int)] := by subst hwE; exact Blk.new _ _ [_, _, _]
      have hcE := cell_on hgE (Nat.le_refl _) Hcell.out
      have hPE := HPp.out.fits hgE
      have hWE := HWr.out.fits hgE
      unfold pgCells at hPE
      clear hwE hcell y0 y1 y2 hx0 hx1 hx2 p0 p1 p2 p3 p4 p5
      obtain ⟨e0, e1, e2⟩ := three_cells hEb
      obtain ⟨_, _, _, _, _, p5, _⟩ := pgres hPE
      go_wp2_with fail
      refine (Hky.out wE).mono ?_
      rintro e wK ⟨rfl, hbK⟩
      have hEK := hEb.fits hbK
      have hgK := Grow.trans hgE hbK
      have hGK : Below w6.heap.size w6 wK := Below.trans HG.out (hgK.mono HG.out.size)
      clear e0 e1 e2 p5 hcE hPE hWE hEb hbK hgE
      obtain ⟨e0, e1, e2⟩ := three_cells hEK
      have hWK := hW6.fits hGK
      obtain ⟨y0, y1, y2, _⟩ := wkres hWK
      go_wp2_with fail
      have hEb := keep hEK
      have HGK := keep hGK
      clear e0 e1 e2 y0 y1 y2 hEK hWK hgK hGK q3
      obtain ⟨wO, rfl⟩ : ∃ wO : World, wO = wr := ⟨_, rfl⟩
      go_loopw [16] (fun q wr => ∃ p : Nat, p ≤ K.fr.length + K.off.length ∧ q = .int .i64 p ∧ Below wK.heap.size wK wr) (fun q _ => K.fr.length + K.off.length - (intOf q).toNat)
      case atStart => exact ⟨0, Nat.zero_le _, rfl, Below.refl _ _⟩
      case round =>
        obtain ⟨p, hp, rfl, hGp⟩ := hrel
        have hGq := Below.trans HGK.out (hGp.mono HGK.out.size)
        have hWp := hW6.fits hGq
        have hEp := hEb.out.fits hGp
        have hkp := hk6.fits hGq
        obtain ⟨y0, y1, y2, _⟩ := wkres hWp
        obtain ⟨e0, e1, e2⟩ := three_cells hEp
        clear hWp hEp hGq
        by_cases hpt : p < K.fr.length + K.off.length
        · by_cases hpF : p < K.fr.length
          · obtain ⟨_, _, e5, hx⟩ := ints_form hkp.fr
            simp only [Value.slice.injEq] at e5
            obtain ⟨rfl, _, rfl⟩ := e5
            obtain ⟨g, og, rfl, hxc⟩ := hx p hpF
            have hne : (K.fr.getD p 0 == (j : Int)) = false := by simpa using HF.out p hpF
            have hpi : (p : Int) < (K.fr.length : Int) := by omega
            generalize K.fr.getD p 0 = X at *
            have HGp := keep hGp
            clear hx hkp hGp
            go_wp2_with fail
            go_roundw
            case rel => exact ⟨p + 1, by omega, by go_num, HGp.out⟩
            case measure => simp [intOf]; omega
          · obtain ⟨r, rfl⟩ : ∃ r, p = K.fr.length + r := ⟨p - K.fr.length, by omega⟩
            have hrO : r < K.off.length := by omega
            obtain ⟨_, _, e5, hx⟩ := ints_form hkp.off
            simp only [Value.slice.injEq] at e5
            obtain ⟨rfl, _, rfl⟩ := e5
            obtain ⟨g, og, rfl, hxc⟩ := hx r hrO
            have hne : (K.off.getD r 0 == (j : Int)) = false := by simpa using HO.out r hrO
            have hpi : (r : Int) < (K.off.length : Int) := by omega
            have hri : wrap64 (((K.fr.length + r : Nat) : Int) - (K.fr.length : Int)) = (r : Int) := by
              rw [show ((K.fr.length + r : Nat) : Int) - (K.fr.length : Int) = (r : Int) by omega]
              exact wrap64_small r (by omega)
            generalize K.off.getD r 0 = X at *
            have HGp := keep hGp
            clear hx hkp hGp
            go_wp2_with fail
            go_roundw
            case rel => exact ⟨K.fr.length + r + 1, by omega, by go_num, HGp.out⟩
            case measure => simp [intOf]; omega
        · have e7 : p = K.fr.length + K.off.length := by omega
          subst e7
          have HGf := keep (Below.trans HGK.out (hGp.mono HGK.out.size))
          clear hkp hGp
          go_wp2_with fail
          go_roundw
          case rel => exact ⟨n + 1, by omega, by go_num, by rw [HNl.out], HGf.out⟩
          case measure => simp [intOf]; omega
    · have hn' : n = K.gone.length := by omega
      subst hn'
      have HG := keep hG
      have hlt' : ¬ ((K.gone.length : Int) < (K.gone.length : Int)) := by omega
      clear hWr hG
      go_wp2_with fail
      obtain ⟨wL, rfl⟩ : ∃ wL : World, wL = wr := ⟨_, rfl⟩
      clear y0 y1 y2 hlt hlt'
      go_loopw [18] (fun i wr => ∃ q : Nat, q ≤ K.fr.length ∧ i = .int .i64 q ∧ Below w6.heap.size w6 wr) (fun i _ => K.fr.length - (intOf i).toNat)
      case atStart => exact ⟨0, Nat.zero_le _, rfl, HG.out⟩
      case round =>
        obtain ⟨q, hq, rfl, hGr⟩ := hrel
        have hWr := hW6.fits hGr
        obtain ⟨y0, _, _, _⟩ := wkres hWr
        by_cases hqt : q < K.fr.length
        · obtain ⟨j, hj, he, hlive⟩ := law_live hlaw.out hqt
          have hPr := hP6.fits hGr
          unfold pgCells at hPr
          obtain ⟨_, _, _, _, _, p5, _⟩ := pgres hPr
          obtain ⟨_, _, e1, hx⟩ := ints_form (hk6.fits hGr).fr
          simp only [Value.slice.injEq] at e1
          obtain ⟨rfl, _, rfl⟩ := e1
          obtain ⟨g, og, rfl, hxc⟩ := hx q hqt
          rw [he] at hxc
          obtain ⟨d, off', cap', e2, hc⟩ := items_cells (Row.fits hi6 hGr) (by omega)
          simp only [Value.slice.injEq] at e2
          obtain ⟨rfl, _, rfl⟩ := e2
          have hcell := hc j hj
          have hjg : P.items.getD j [] = P.items[j] := by simp [hj]
          rw [hjg] at hlive
          have hst := fun u => state_any (str P.items[j]) u (by simpa using hpf.out _ (List.getElem_mem hj))
          simp only [str_toList] at hst
          generalize P.items[j] = L at *
          rw [hlive] at hst
          have Hst := keep hst
          have Hf := keep (fun (u : World) (hu : Grow wr.drew u) => cell_on hu (Nat.le_refl _) (show wr.drew.cell? _ = _ from y0))
          have Hx := keep (fun (u : World) (hu : Grow wr.drew u) => cell_on hu (Nat.le_refl _) (show wr.drew.cell? _ = _ from hxc))
          have Hp := keep (fun (u : World) (hu : Grow wr.drew u) => cell_on hu (Nat.le_refl _) (show wr.drew.cell? _ = _ from p5))
          have Hi := keep (fun (u : World) (hu : Grow wr.drew u) => cell_on hu (Nat.le_refl _) (show wr.drew.cell? _ = _ from hcell))
          have hqi : (q : Int) < (K.fr.length : Int) := by omega
          have hji : (j : Int) < (P.items.length : Int) := by omega
          cases q with
          | zero =>
            have Hx := keep (fun (u : World) (hu : Grow wr.drew u) => cell_on hu (Nat.le_refl _) (show wr.drew.cell? ⟨g, og, none⟩ = _ from hxc))
            clear hx hc hst hlive hjg hcell hxc p5 he hPr hWr
            go_wp2_with fail
            refine wp_region_grow (by kernel_rfl) 28 (by kernel_rfl) [(123, 0), (124, 1), (125, 2), (126, 3), (127, 4), (128, 5), (129, 6), (130, 7), (131, 8), (132, 9), (133, 10), (134, 11), (135, 12), (136, 13), (137, 14), (138, 15), (139, 16), (140, 17), (141, 18), (142, 19), (143, 20), (144, 21), (145, 22), (146, 23), (147, 24), (148, 25), (149, 26), (150, 27)] (by kernel_rfl) [(0, true), (1, true), (2, true), (3, true), (4, true), (5, true), (6, true), (7, true), (8, true), (9, true), (10, true), (11, true), (12, true), (13, true), (14, true), (15, true), (16, true), (17, true), (18, true), (19, true), (20, true), (21, true), (22, true), (23, true), (24, true), (25, true), (26, true), (27, true)] (by kernel_rfl) rfl rfl ?_
            -- operation 0
            apply lex_eq [] [(125, 2), (126, 3), (127, 4), (128, 5), (129, 6), (130, 7), (131, 8), (132, 9), (133, 10), (134, 11), (135, 12), (136, 13), (137, 14), (138, 15), (139, 16), (140, 17), (141, 18), (142, 19), (143, 20), (144, 21), (145, 22), (146, 23), (147, 24), (148, 25), (149, 26), (150, 27), (151, 28)] (by kernel_rfl) (by kernel_rfl) rfl
            · intro xs w hw hp K hK
              simp only [putAll]
              go_simp
              exact hK _ (Grow.refl _)
            -- operation 1
            apply lex_eq [(0, true)] [(123, 0), (126, 3), (127, 4), (128, 5), (129, 6), (130, 7), (131, 8), (132, 9), (133, 10), (134, 11), (135, 12), (136, 13), (137, 14), (138, 15), (139, 16), (140, 17), (141, 18), (142, 19), (143, 20), (144, 21), (145, 22), (146, 23), (147, 24), (148, 25), (149, 26), (150, 27), (151, 28)] (by kernel_rfl) (by kernel_rfl) rfl
            · intro xs w hw hp K hK
              simp only [holdsL, List.nil_append, List.cons_append, List.getD_cons_succ, List.getD_cons_zero, if_true, and_true] at hp
              simp only [putAll]
              go_simp
              exact hK _ (Grow.refl _)
            -- operation 2
            apply lex_eq [(1, true)] [(123, 0), (124, 1), (140, 17), (141, 18), (142, 19), (143, 20), (144, 21), (145, 22), (146, 23), (147, 24), (148, 25), (149, 26), (150, 27), (151, 28)] (by kernel_rfl) (by kernel_rfl) rfl
            · intro xs w hw hp K hK
              simp only [holdsL, List.nil_append, List.cons_append, List.getD_cons_succ, List.getD_cons_zero, if_true, and_true] at hp
              simp only [putAll]
              go_simp
              exact hK _ (Grow.refl _)
            -- operation 3
            apply lex_eq [(2, true)] [(123, 0), (124, 1), (125, 2), (128, 5), (129, 6), (130, 7), (131, 8), (132, 9), (133, 10), (134, 11), (135, 12), (136, 13), (137, 14), (138, 15), (139, 16), (140, 17), (141, 18), (142, 19), (143, 20), (144, 21), (145, 22), (146, 23), (147, 24), (148, 25), (149, 26), (150, 27), (151, 28)] (by kernel_rfl) (by kernel_rfl) rfl
            · intro xs w hw hp K hK
              simp only [holdsL, List.nil_append, List.cons_append, List.getD_cons_succ, List.getD_cons_zero, if_true, and_true] at hp
              simp only [putAll]
              go_simp
              exact hK _ (Grow.refl _)
            -- operation 4
            apply lex_eq [(2, true), (3, true)] [(123, 0), (124, 1), (125, 2), (126, 3), (128, 5), (130, 7), (131, 8), (132, 9), (133, 10), (134, 11), (135, 12), (136, 13), (137, 14), (138, 15), (139, 16), (140, 17), (141, 18), (142, 19), (143, 20), (144, 21), (145, 22), (146, 23), (147, 24), (148, 25), (149, 26), (150, 27), (151, 28)] (by kernel_rfl) (by kernel_rfl) rfl
            · intro xs w hw hp K hK
              simp only [holdsL, List.nil_append, List.cons_append, List.getD_cons_succ, List.getD_cons_zero, if_true, and_true] at hp
              simp only [putAll]
              go_simp
              exact hK _ (Grow.refl _)
            -- operation 5
            apply lex_eq [(2, true)] [(123, 0), (124, 1), (125, 2), (126, 3), (127, 4), (130, 7), (131, 8), (132, 9), (133, 10), (134, 11), (135, 12), (136, 13), (137, 14), (138, 15), (139, 16), (140, 17), (141, 18), (142, 19), (143, 20), (144, 21), (145, 22), (146, 23), (147, 24), (148, 25), (149, 26), (150, 27), (151, 28)] (by kernel_rfl) (by kernel_rfl) rfl
            · intro xs w hw hp K hK
              simp only [holdsL, List.nil_append, List.cons_append, List.getD_cons_succ, List.getD_cons_zero, if_true, and_true] at hp
              simp only [putAll]
              go_simp
              exact hK _ (Grow.refl _)
            -- operation 6
            apply lex_eq [(2, true), (4, true), (5, true)] [(123, 0), (124, 1), (125, 2), (126, 3), (127, 4), (128, 5), (131, 8), (132, 9), (133, 10), (134, 11), (135, 12), (136, 13), (137, 14), (138, 15), (139, 16), (140, 17), (141, 18), (142, 19), (143, 20), (144, 21), (145, 22), (146, 23), (147, 24), (148, 25), (149, 26), (150, 27), (151, 28)] (by kernel_rfl) (by kernel_rfl) rfl
            · intro xs w hw hp K hK
              simp only [holdsL, List.nil_append, List.cons_append, List.getD_cons_succ, List.getD_cons_zero, if_true, and_true] at hp
              simp only [putAll]
              go_simp
              exact hK _ (Grow.refl _)
            -- operation 7
            apply lex_eq [(2, true), (6, true)] [(123, 0), (124, 1), (125, 2), (126, 3), (127, 4), (128, 5), (129, 6), (131, 8), (132, 9), (133, 10), (134, 11), (135, 12), (136, 13), (138, 15), (139, 16), (140, 17), (141, 18), (142, 19), (143, 20), (144, 21), (145, 22), (146, 23), (147, 24), (148, 25), (149, 26), (150, 27), (151, 28)] (by kernel_rfl) (by kernel_rfl) rfl
            · intro xs w hw hp K hK
              simp only [holdsL, List.nil_append, List.cons_append, List.getD_cons_succ, List.getD_cons_zero, if_true, and_true] at hp
              simp only [putAll]
              go_simp
              exact hK _ (Grow.refl _)
            -- operation 8
            apply lex_eq [(2, true)] [(123, 0), (124, 1), (125, 2), (126, 3), (127, 4), (128, 5), (129, 6), (130, 7), (133, 10), (134, 11), (135, 12), (136, 13), (137, 14), (138, 15), (139, 16), (140, 17), (141, 18), (142, 19), (143, 20), (144, 21), (145, 22), (146, 23), (147, 24), (148, 25), (149, 26), (150, 27), (151, 28)] (by kernel_rfl) (by kernel_rfl) rfl
            · intro xs w hw hp K hK
              simp only [holdsL, List.nil_append, List.cons_append, List.getD_cons_succ, List.getD_cons_zero, if_true, and_true] at hp
              simp only [putAll]
              go_simp
              exact hK _ (Grow.refl _)
            -- operation 9
            apply lex_eq [(2, true), (8, true)] [(123, 0), (124, 1), (125, 2), (126, 3), (127, 4), (128, 5), (129, 6), (130, 7), (131, 8), (133, 10), (134, 11), (136, 13), (137, 14), (138, 15), (139, 16), (140, 17), (141, 18), (142, 19), (143, 20), (144, 21), (145, 22), (146, 23), (147, 24), (148, 25), (149, 26), (150, 27), (151, 28)] (by kernel_rfl) (by kernel_rfl) rfl
            · intro xs w hw hp K hK
              simp only [holdsL, List.nil_append, List.cons_append, List.getD_cons_succ, List.getD_cons_zero, if_true, and_true] at hp
              simp only [putAll]
              go_simp
              exact hK _ (Grow.refl _)
            -- operation 10
            apply lex_eq [(2, true)] [(123, 0), (124, 1), (125, 2), (126, 3), (127, 4), (128, 5), (129, 6), (130, 7), (131, 8), (132, 9), (135, 12), (136, 13), (137, 14), (138, 15), (139, 16), (140, 17), (141, 18), (142, 19), (143, 20), (144, 21), (145, 22), (146, 23), (147, 24), (148, 25), (149, 26), (150, 27), (151, 28)] (by kernel_rfl) (by kernel_rfl) rfl
            · intro xs w hw hp K hK
              simp only [holdsL, List.nil_append, List.cons_append, List.getD_cons_succ, List.getD_cons_zero, if_true, and_true] at hp
              simp only [putAll]
              go_simp
              exact hK _ (Grow.refl _)
            -- operation 11
            apply lex_eq [(2, true), (10, true)] [(123, 0), (124, 1), (125, 2), (126, 3), (127, 4), (128, 5), (129, 6), (130, 7), (131, 8), (132, 9), (133, 10), (136, 13), (137, 14), (138, 15), (139, 16), (140, 17), (141, 18), (142, 19), (143, 20), (144, 21), (145, 22), (146, 23), (147, 24), (148, 25), (149, 26), (150, 27), (151, 28)] (by kernel_rfl) (by kernel_rfl) rfl
            · intro xs w hw hp K hK
              simp only [holdsL, List.nil_append, List.cons_append, List.getD_cons_succ, List.getD_cons_zero, if_true, and_true] at hp
              simp only [putAll]
              go_simp
              exact hK _ (Grow.refl _)
            -- operation 12
            apply lex_eq [(2, true), (9, true), (11, true)] [(123, 0), (124, 1), (125, 2), (126, 3), (127, 4), (128, 5), (129, 6), (130, 7), (131, 8), (132, 9), (133, 10), (134, 11), (137, 14), (138, 15), (139, 16), (140, 17), (141, 18), (142, 19), (143, 20), (144, 21), (145, 22), (146, 23), (147, 24), (148, 25), (149, 26), (150, 27), (151, 28)] (by kernel_rfl) (by kernel_rfl) rfl
            · intro xs w hw hp K hK
              simp only [holdsL, List.nil_append, List.cons_append, List.getD_cons_succ, List.getD_cons_zero, if_true, and_true] at hp
              simp only [putAll]
              go_simp
              exact hK _ (Grow.refl _)
            -- operation 13
            apply lex_eq [(2, true), (12, true)] [(123, 0), (124, 1), (125, 2), (126, 3), (127, 4), (128, 5), (129, 6), (130, 7), (131, 8), (132, 9), (133, 10), (134, 11), (135, 12), (138, 15), (139, 16), (140, 17), (141, 18), (142, 19), (143, 20), (144, 21), (145, 22), (146, 23), (147, 24), (148, 25), (149, 26), (150, 27), (151, 28)] (by kernel_rfl) (by kernel_rfl) rfl
            · intro xs w hw hp K hK
              simp only [holdsL, List.nil_append, List.cons_append, List.getD_cons_succ, List.getD_cons_zero, if_true, and_true] at hp
              simp only [putAll]
              go_simp
              exact hK _ (Grow.refl _)
            -- operation 14
            apply lex_eq [(2, true), (7, true), (13, true)] [(123, 0), (124, 1), (125, 2), (126, 3), (127, 4), (128, 5), (129, 6), (130, 7), (131, 8), (132, 9), (133, 10), (134, 11), (135, 12), (136, 13), (139, 16), (140, 17), (141, 18), (142, 19), (143, 20), (144, 21), (145, 22), (146, 23), (147, 24), (148, 25), (149, 26), (150, 27), (151, 28)] (by kernel_rfl) (by kernel_rfl) rfl
            · intro xs w hw hp K hK
              simp only [holdsL, List.nil_append, List.cons_append, List.getD_cons_succ, List.getD_cons_zero, if_true, and_true] at hp
              simp only [putAll]
              go_simp
              exact hK _ (Grow.refl _)
            -- operation 15
            apply lex_eq [(2, true), (14, true)] [(123, 0), (124, 1), (125, 2), (126, 3), (127, 4), (128, 5), (129, 6), (130, 7), (131, 8), (132, 9), (133, 10), (134, 11), (135, 12), (136, 13), (137, 14), (140, 17), (141, 18), (142, 19), (143, 20), (144, 21), (145, 22), (146, 23), (147, 24), (148, 25), (149, 26), (150, 27), (151, 28)] (by kernel_rfl) (by kernel_rfl) rfl
            · intro xs w hw hp K hK
              simp only [holdsL, List.nil_append, List.cons_append, List.getD_cons_succ, List.getD_cons_zero, if_true, and_true] at hp
              simp only [putAll]
              go_simp
              exact hK _ (Grow.refl _)
            -- operation 16
            apply lex_eq [(15, true)] [(123, 0), (124, 1), (125, 2), (126, 3), (127, 4), (128, 5), (129, 6), (130, 7), (131, 8), (132, 9), (133, 10), (134, 11), (135, 12), (136, 13), (137, 14), (138, 15)] (by kernel_rfl) (by kernel_rfl) rfl
            · intro xs w hw hp K hK
              simp only [holdsL, List.nil_append, List.cons_append, List.getD_cons_succ, List.getD_cons_zero, if_true, and_true] at hp
              simp only [putAll]
              go_simp
              exact hK _ (Grow.refl _)
            -- operation 17
            apply lex_eq [(16, true)] [(123, 0), (124, 1), (125, 2), (126, 3), (127, 4), (128, 5), (129, 6), (130, 7), (131, 8), (132, 9), (133, 10), (134, 11), (135, 12), (136, 13), (137, 14), (138, 15), (139, 16), (142, 19), (143, 20), (144, 21), (145, 22), (146, 23), (147, 24), (148, 25), (149, 26), (150, 27), (151, 28)] (by kernel_rfl) (by kernel_rfl) rfl
            · intro xs w hw hp K hK
              simp only [holdsL, List.nil_append, List.cons_append, List.getD_cons_succ, List.getD_cons_zero, if_true, and_true] at hp
              simp only [putAll]
              go_simp
              exact hK _ (Grow.refl _)
            -- operation 18
            apply lex_eq [(16, true), (17, true)] [(123, 0), (124, 1), (125, 2), (126, 3), (127, 4), (128, 5), (129, 6), (130, 7), (131, 8), (132, 9), (133, 10), (134, 11), (135, 12), (136, 13), (137, 14), (138, 15), (139, 16), (140, 17), (142, 19), (143, 20), (144, 21), (145, 22), (146, 23), (148, 25), (149, 26), (150, 27), (151, 28)] (by kernel_rfl) (by kernel_rfl) rfl
            · intro xs w hw hp K hK
              simp only [holdsL, List.nil_append, List.cons_append, List.getD_cons_succ, List.getD_cons_zero, if_true, and_true] at hp
              simp only [putAll]
              have hc := Hp.out w hw
              go_simp
              exact hK _ (Grow.refl _)
            -- operation 19
            apply lex_eq [(16, true)] [(123, 0), (124, 1), (125, 2), (126, 3), (127, 4), (128, 5), (129, 6), (130, 7), (131, 8), (132, 9), (133, 10), (134, 11), (135, 12), (136, 13), (137, 14), (138, 15), (139, 16), (140, 17), (141, 18), (144, 21), (145, 22), (146, 23), (147, 24), (148, 25), (149, 26), (150, 27), (151, 28)] (by kernel_rfl) (by kernel_rfl) rfl
            · intro xs w hw hp K hK
              simp only [holdsL, List.nil_append, List.cons_append, List.getD_cons_succ, List.getD_cons_zero, if_true, and_true] at hp
              simp only [putAll]
              go_simp
              exact hK _ (Grow.refl _)
            -- operation 20
            apply lex_eq [(16, true), (19, true)] [(123, 0), (124, 1), (125, 2), (126, 3), (127, 4), (128, 5), (129, 6), (130, 7), (131, 8), (132, 9), (133, 10), (134, 11), (135, 12), (136, 13), (137, 14), (138, 15), (139, 16), (140, 17), (141, 18), (142, 19), (144, 21), (146, 23), (147, 24), (148, 25), (149, 26), (150, 27), (151, 28)] (by kernel_rfl) (by kernel_rfl) rfl
            · intro xs w hw hp K hK
              simp only [holdsL, List.nil_append, List.cons_append, List.getD_cons_succ, List.getD_cons_zero, if_true, and_true] at hp
              simp only [putAll]
              have hc := Hf.out w hw
              go_simp
              exact hK _ (Grow.refl _)
            -- operation 21
            apply lex_eq [(16, true)] [(123, 0), (124, 1), (125, 2), (126, 3), (127, 4), (128, 5), (129, 6), (130, 7), (131, 8), (132, 9), (133, 10), (134, 11), (135, 12), (136, 13), (137, 14), (138, 15), (139, 16), (140, 17), (141, 18), (142, 19), (143, 20), (146, 23), (147, 24), (148, 25), (149, 26), (150, 27), (151, 28)] (by kernel_rfl) (by kernel_rfl) rfl
            · intro xs w hw hp K hK
              simp only [holdsL, List.nil_append, List.cons_append, List.getD_cons_succ, List.getD_cons_zero, if_true, and_true] at hp
              simp only [putAll]
              go_simp
              exact hK _ (Grow.refl _)
            -- operation 22
            apply lex_eq [(16, true), (20, true), (21, true)] [(123, 0), (124, 1), (125, 2), (126, 3), (127, 4), (128, 5), (129, 6), (130, 7), (131, 8), (132, 9), (133, 10), (134, 11), (135, 12), (136, 13), (137, 14), (138, 15), (139, 16), (140, 17), (141, 18), (142, 19), (143, 20), (144, 21), (147, 24), (148, 25), (149, 26), (150, 27), (151, 28)] (by kernel_rfl) (by kernel_rfl) rfl
            · intro xs w hw hp K hK
              simp only [holdsL, List.nil_append, List.cons_append, List.getD_cons_succ, List.getD_cons_zero, if_true, and_true] at hp
              simp only [putAll]
              go_simp
              exact hK _ (Grow.refl _)
            -- operation 23
            apply lex_eq [(16, true), (22, true)] [(123, 0), (124, 1), (125, 2), (126, 3), (127, 4), (128, 5), (129, 6), (130, 7), (131, 8), (132, 9), (133, 10), (134, 11), (135, 12), (136, 13), (137, 14), (138, 15), (139, 16), (140, 17), (141, 18), (142, 19), (143, 20), (144, 21), (145, 22), (148, 25), (149, 26), (150, 27), (151, 28)] (by kernel_rfl) (by kernel_rfl) rfl
            · intro xs w hw hp K hK
              simp only [holdsL, List.nil_append, List.cons_append, List.getD_cons_succ, List.getD_cons_zero, if_true, and_true] at hp
              simp only [putAll]
              have hc := Hx.out w hw
              go_simp
              exact hK _ (Grow.refl _)
            -- operation 24
            apply lex_eq [(16, true), (18, true), (23, true)] [(123, 0), (124, 1), (125, 2), (126, 3), (127, 4), (128, 5), (129, 6), (130, 7), (131, 8), (132, 9), (133, 10), (134, 11), (135, 12), (136, 13), (137, 14), (138, 15), (139, 16), (140, 17), (141, 18), (142, 19), (143, 20), (144, 21), (145, 22), (146, 23), (149, 26), (150, 27), (151, 28)] (by kernel_rfl) (by kernel_rfl) rfl
            · intro xs w hw hp K hK
              simp only [holdsL, List.nil_append, List.cons_append, List.getD_cons_succ, List.getD_cons_zero, if_true, and_true] at hp
              simp only [putAll]
              go_simp
              exact hK _ (Grow.refl _)
            -- operation 25
            apply lex_eq [(16, true), (24, true)] [(123, 0), (124, 1), (125, 2), (126, 3), (127, 4), (128, 5), (129, 6), (130, 7), (131, 8), (132, 9), (133, 10), (134, 11), (135, 12), (136, 13), (137, 14), (138, 15), (139, 16), (140, 17), (141, 18), (142, 19), (143, 20), (144, 21), (145, 22), (146, 23), (147, 24), (150, 27), (151, 28)] (by kernel_rfl) (by kernel_rfl) rfl
            · intro xs w hw hp K hK
              simp only [holdsL, List.nil_append, List.cons_append, List.getD_cons_succ, List.getD_cons_zero, if_true, and_true] at hp
              simp only [putAll]
              have hc := Hi.out w hw
              go_simp
              exact hK _ (Grow.refl _)
            -- operation 26
            apply lex_eq [(16, true), (25, true)] [(123, 0), (124, 1), (125, 2), (126, 3), (127, 4), (128, 5), (129, 6), (130, 7), (131, 8), (132, 9), (133, 10), (134, 11), (135, 12), (136, 13), (137, 14), (138, 15), (139, 16), (140, 17), (141, 18), (142, 19), (143, 20), (144, 21), (145, 22), (146, 23), (147, 24), (148, 25), (151, 28)] (by kernel_rfl) (by kernel_rfl) rfl
            · intro xs w hw hp K hK
              simp only [holdsL, List.nil_append, List.cons_append, List.getD_cons_succ, List.getD_cons_zero, if_true, and_true] at hp
              simp only [putAll]
              go_simp
              exact (Hst.out w).mono fun e w' h => ⟨_, h.1, hK _ h.2⟩
            -- operation 27
            apply lex_eq [(16, true), (26, true)] [(123, 0), (124, 1), (125, 2), (126, 3), (127, 4), (128, 5), (129, 6), (130, 7), (131, 8), (132, 9), (133, 10), (134, 11), (135, 12), (136, 13), (137, 14), (138, 15), (139, 16), (140, 17), (141, 18), (142, 19), (143, 20), (144, 21), (145, 22), (146, 23), (147, 24), (148, 25), (149, 26)] (by kernel_rfl) (by kernel_rfl) rfl
            · intro xs w hw hp K hK
              simp only [holdsL, List.nil_append, List.cons_append, List.getD_cons_succ, List.getD_cons_zero, if_true, and_true] at hp
              simp only [putAll]
              go_simp
              exact hK _ (Grow.refl _)
            intro xs w hw hp
            generalize hA : putAll xs _ _ = A
            simp only [holdsL, List.nil_append, List.cons_append, List.getD_cons_succ, List.getD_cons_zero, if_true, and_true] at hp
            have h16 := hp.2.2.2.2.2.2.2.2.2.2.2.2.2.2.2.2.1
            have h27 := hp.2.2.2.2.2.2.2.2.2.2.2.2.2.2.2.2.2.2.2.2.2.2.2.2.2.2.2
            clear hp
            subst hA
            simp only [putAll, h16, h27]
            have hgw : Grow wr w := hw.undrew
            have HGw := keep (Below.trans hGr (hgw.mono hGr.size))
            clear hw hgw h16 h27
            go_wp2_with fail
            go_roundw
            case rel => exact ⟨0 + 1, by omega, by go_num, HGw.out⟩
            case measure => simp [intOf]; omega
          | succ q =>
            obtain ⟨_, _, e3, hx0⟩ := hx q (by omega)
            simp only [Option.some.injEq, Addr.mk.injEq] at e3
            obtain ⟨rfl, rfl, _⟩ := e3
            have hup := law_up hlaw.out hqt
            rw [he] at hup
            generalize K.fr.getD q 0 = X at *
            have hnle : ¬ ((j : Int) ≤ X) := by omega
            have Hx0 := keep (fun (u : World) (hu : Grow wr.drew u) => cell_on hu (Nat.le_refl _) (show wr.drew.cell? _ = _ from hx0))
            have hpos : (0 : Int) < ((q + 1 : Nat) : Int) := by omega
            have hsub : wrap64 (((q + 1 : Nat) : Int) - 1) = (q : Int) := by
              rw [show ((q + 1 : Nat) : Int) - 1 = (q : Int) by omega]
              exact wrap64_small q (by omega)
            have hq1 : (q : Int) < (K.fr.length : Int) := by omega
            have hw1 : IntKind.i64.wrap (q : Int) = q := wraps_i64 _ (by omega) (by omega)
            clear hx hc hst hlive hjg hcell hxc p5 he hup hx0 hPr hWr
            go_wp2_with fail
            refine wp_region_grow (by kernel_rfl) 28 (by kernel_rfl) [(123, 0), (124, 1), (125, 2), (126, 3), (127, 4), (128, 5), (129, 6), (130, 7), (131, 8), (132, 9), (133, 10), (134, 11), (135, 12), (136, 13), (137, 14), (138, 15), (139, 16), (140, 17), (141, 18), (142, 19), (143, 20), (144, 21), (145, 22), (146, 23), (147, 24), (148, 25), (149, 26), (150, 27)] (by kernel_rfl) [(0, true), (1, true), (2, true), (3, true), (4, true), (5, true), (6, true), (7, true), (8, true), (9, true), (10, true), (11, true), (12, true), (13, true), (14, true), (15, true), (16, true), (17, true), (18, true), (19, true), (20, true), (21, true), (22, true), (23, true), (24, true), (25, true), (26, true), (27, true)] (by kernel_rfl) rfl rfl ?_
            -- operation 0
            apply lex_eq [] [(125, 2), (126, 3), (127, 4), (128, 5), (129, 6), (130, 7), (131, 8), (132, 9), (133, 10), (134, 11), (135, 12), (136, 13), (137, 14), (138, 15), (139, 16), (140, 17), (141, 18), (142, 19), (143, 20), (144, 21), (145, 22), (146, 23), (147, 24), (148, 25), (149, 26), (150, 27), (151, 28)] (by kernel_rfl) (by kernel_rfl) rfl
            · intro xs w hw hp K hK
              simp only [putAll]
              go_simp
              exact hK _ (Grow.refl _)
            -- operation 1
            apply lex_eq [(0, true)] [(123, 0), (126, 3), (127, 4), (128, 5), (129, 6), (130, 7), (131, 8), (132, 9), (133, 10), (134, 11), (135, 12), (136, 13), (137, 14), (138, 15), (139, 16), (140, 17), (141, 18), (142, 19), (143, 20), (144, 21), (145, 22), (146, 23), (147, 24), (148, 25), (149, 26), (150, 27), (151, 28)] (by kernel_rfl) (by kernel_rfl) rfl
            · intro xs w hw hp K hK
              simp only [holdsL, List.nil_append, List.cons_append, List.getD_cons_succ, List.getD_cons_zero, if_true, and_true] at hp
              simp only [putAll]
              go_simp
              exact hK _ (Grow.refl _)
            -- operation 2
            apply lex_eq [(1, true)] [(123, 0), (124, 1), (140, 17), (141, 18), (142, 19), (143, 20), (144, 21), (145, 22), (146, 23), (147, 24), (148, 25), (149, 26), (150, 27), (151, 28)] (by kernel_rfl) (by kernel_rfl) rfl
            · intro xs w hw hp K hK
              simp only [holdsL, List.nil_append, List.cons_append, List.getD_cons_succ, List.getD_cons_zero, if_true, and_true] at hp
              simp only [putAll]
              go_simp
              exact hK _ (Grow.refl _)
            -- operation 3
            apply lex_eq [(2, true)] [(123, 0), (124, 1), (125, 2), (128, 5), (129, 6), (130, 7), (131, 8), (132, 9), (133, 10), (134, 11), (135, 12), (136, 13), (137, 14), (138, 15), (139, 16), (140, 17), (141, 18), (142, 19), (143, 20), (144, 21), (145, 22), (146, 23), (147, 24), (148, 25), (149, 26), (150, 27), (151, 28)] (by kernel_rfl) (by kernel_rfl) rfl
            · intro xs w hw hp K hK
              simp only [holdsL, List.nil_append, List.cons_append, List.getD_cons_succ, List.getD_cons_zero, if_true, and_true] at hp
              simp only [putAll]
              go_simp
              exact hK _ (Grow.refl _)
            -- operation 4
            apply lex_eq [(2, true), (3, true)] [(123, 0), (124, 1), (125, 2), (126, 3), (128, 5), (130, 7), (131, 8), (132, 9), (133, 10), (134, 11), (135, 12), (136, 13), (137, 14), (138, 15), (139, 16), (140, 17), (141, 18), (142, 19), (143, 20), (144, 21), (145, 22), (146, 23), (147, 24), (148, 25), (149, 26), (150, 27), (151, 28)] (by kernel_rfl) (by kernel_rfl) rfl
            · intro xs w hw hp K hK
              simp only [holdsL, List.nil_append, List.cons_append, List.getD_cons_succ, List.getD_cons_zero, if_true, and_true] at hp
              simp only [putAll]
              have hc := Hf.out w hw
              go_simp
              exact hK _ (Grow.refl _)
            -- operation 5
            apply lex_eq [(2, true)] [(123, 0), (124, 1), (125, 2), (126, 3), (127, 4), (130, 7), (131, 8), (132, 9), (133, 10), (134, 11), (135, 12), (136, 13), (137, 14), (138, 15), (139, 16), (140, 17), (141, 18), (142, 19), (143, 20), (144, 21), (145, 22), (146, 23), (147, 24), (148, 25), (149, 26), (150, 27), (151, 28)] (by kernel_rfl) (by kernel_rfl) rfl
            · intro xs w hw hp K hK
              simp only [holdsL, List.nil_append, List.cons_append, List.getD_cons_succ, List.getD_cons_zero, if_true, and_true] at hp
              simp only [putAll]
              go_simp
              exact hK _ (Grow.refl _)
            -- operation 6
            apply lex_eq [(2, true), (4, true), (5, true)] [(123, 0), (124, 1), (125, 2), (126, 3), (127, 4), (128, 5), (131, 8), (132, 9), (133, 10), (134, 11), (135, 12), (136, 13), (137, 14), (138, 15), (139, 16), (140, 17), (141, 18), (142, 19), (143, 20), (144, 21), (145, 22), (146, 23), (147, 24), (148, 25), (149, 26), (150, 27), (151, 28)] (by kernel_rfl) (by kernel_rfl) rfl
            · intro xs w hw hp K hK
              simp only [holdsL, List.nil_append, List.cons_append, List.getD_cons_succ, List.getD_cons_zero, if_true, and_true] at hp
              simp only [putAll]
              go_simp
              exact hK _ (Grow.refl _)
            -- operation 7
            apply lex_eq [(2, true), (6, true)] [(123, 0), (124, 1), (125, 2), (126, 3), (127, 4), (128, 5), (129, 6), (131, 8), (132, 9), (133, 10), (134, 11), (135, 12), (136, 13), (138, 15), (139, 16), (140, 17), (141, 18), (142, 19), (143, 20), (144, 21), (145, 22), (146, 23), (147, 24), (148, 25), (149, 26), (150, 27), (151, 28)] (by kernel_rfl) (by kernel_rfl) rfl
            · intro xs w hw hp K hK
              simp only [holdsL, List.nil_append, List.cons_append, List.getD_cons_succ, List.getD_cons_zero, if_true, and_true] at hp
              simp only [putAll]
              have hc := Hx.out w hw
              go_simp
              exact hK _ (Grow.refl _)
            -- operation 8
            apply lex_eq [(2, true)] [(123, 0), (124, 1), (125, 2), (126, 3), (127, 4), (128, 5), (129, 6), (130, 7), (133, 10), (134, 11), (135, 12), (136, 13), (137, 14), (138, 15), (139, 16), (140, 17), (141, 18), (142, 19), (143, 20), (144, 21), (145, 22), (146, 23), (147, 24), (148, 25), (149, 26), (150, 27), (151, 28)] (by kernel_rfl) (by kernel_rfl) rfl
            · intro xs w hw hp K hK
              simp only [holdsL, List.nil_append, List.cons_append, List.getD_cons_succ, List.getD_cons_zero, if_true, and_true] at hp
              simp only [putAll]
              go_simp
              exact hK _ (Grow.refl _)
            -- operation 9
            apply lex_eq [(2, true), (8, true)] [(123, 0), (124, 1), (125, 2), (126, 3), (127, 4), (128, 5), (129, 6), (130, 7), (131, 8), (133, 10), (134, 11), (136, 13), (137, 14), (138, 15), (139, 16), (140, 17), (141, 18), (142, 19), (143, 20), (144, 21), (145, 22), (146, 23), (147, 24), (148, 25), (149, 26), (150, 27), (151, 28)] (by kernel_rfl) (by kernel_rfl) rfl
            · intro xs w hw hp K hK
              simp only [holdsL, List.nil_append, List.cons_append, List.getD_cons_succ, List.getD_cons_zero, if_true, and_true] at hp
              simp only [putAll]
              have hc := Hf.out w hw
              go_simp
              exact hK _ (Grow.refl _)
            -- operation 10
            apply lex_eq [(2, true)] [(123, 0), (124, 1), (125, 2), (126, 3), (127, 4), (128, 5), (129, 6), (130, 7), (131, 8), (132, 9), (135, 12), (136, 13), (137, 14), (138, 15), (139, 16), (140, 17), (141, 18), (142, 19), (143, 20), (144, 21), (145, 22), (146, 23), (147, 24), (148, 25), (149, 26), (150, 27), (151, 28)] (by kernel_rfl) (by kernel_rfl) rfl
            · intro xs w hw hp K hK
              simp only [holdsL, List.nil_append, List.cons_append, List.getD_cons_succ, List.getD_cons_zero, if_true, and_true] at hp
              simp only [putAll]
              go_simp
              exact hK _ (Grow.refl _)
            -- operation 11
            apply lex_eq [(2, true), (10, true)] [(123, 0), (124, 1), (125, 2), (126, 3), (127, 4), (128, 5), (129, 6), (130, 7), (131, 8), (132, 9), (133, 10), (136, 13), (137, 14), (138, 15), (139, 16), (140, 17), (141, 18), (142, 19), (143, 20), (144, 21), (145, 22), (146, 23), (147, 24), (148, 25), (149, 26), (150, 27), (151, 28)] (by kernel_rfl) (by kernel_rfl) rfl
            · intro xs w hw hp K hK
              simp only [holdsL, List.nil_append, List.cons_append, List.getD_cons_succ, List.getD_cons_zero, if_true, and_true] at hp
              simp only [putAll]
              go_simp
              exact hK _ (Grow.refl _)
            -- operation 12
            apply lex_eq [(2, true), (9, true), (11, true)] [(123, 0), (124, 1), (125, 2), (126, 3), (127, 4), (128, 5), (129, 6), (130, 7), (131, 8), (132, 9), (133, 10), (134, 11), (137, 14), (138, 15), (139, 16), (140, 17), (141, 18), (142, 19), (143, 20), (144, 21), (145, 22), (146, 23), (147, 24), (148, 25), (149, 26), (150, 27), (151, 28)] (by kernel_rfl) (by kernel_rfl) rfl
            · intro xs w hw hp K hK
              simp only [holdsL, List.nil_append, List.cons_append, List.getD_cons_succ, List.getD_cons_zero, if_true, and_true] at hp
              simp only [putAll]
              go_simp
              exact hK _ (Grow.refl _)
            -- operation 13
            apply lex_eq [(2, true), (12, true)] [(123, 0), (124, 1), (125, 2), (126, 3), (127, 4), (128, 5), (129, 6), (130, 7), (131, 8), (132, 9), (133, 10), (134, 11), (135, 12), (138, 15), (139, 16), (140, 17), (141, 18), (142, 19), (143, 20), (144, 21), (145, 22), (146, 23), (147, 24), (148, 25), (149, 26), (150, 27), (151, 28)] (by kernel_rfl) (by kernel_rfl) rfl
            · intro xs w hw hp K hK
              simp only [holdsL, List.nil_append, List.cons_append, List.getD_cons_succ, List.getD_cons_zero, if_true, and_true] at hp
              simp only [putAll]
              have hc := Hx0.out w hw
              go_simp
              exact hK _ (Grow.refl _)
            -- operation 14
            apply lex_eq [(2, true), (7, true), (13, true)] [(123, 0), (124, 1), (125, 2), (126, 3), (127, 4), (128, 5), (129, 6), (130, 7), (131, 8), (132, 9), (133, 10), (134, 11), (135, 12), (136, 13), (139, 16), (140, 17), (141, 18), (142, 19), (143, 20), (144, 21), (145, 22), (146, 23), (147, 24), (148, 25), (149, 26), (150, 27), (151, 28)] (by kernel_rfl) (by kernel_rfl) rfl
            · intro xs w hw hp K hK
              simp only [holdsL, List.nil_append, List.cons_append, List.getD_cons_succ, List.getD_cons_zero, if_true, and_true] at hp
              simp only [putAll]
              go_simp
              exact hK _ (Grow.refl _)
            -- operation 15
            apply lex_eq [(2, true), (14, true)] [(123, 0), (124, 1), (125, 2), (126, 3), (127, 4), (128, 5), (129, 6), (130, 7), (131, 8), (132, 9), (133, 10), (134, 11), (135, 12), (136, 13), (137, 14), (140, 17), (141, 18), (142, 19), (143, 20), (144, 21), (145, 22), (146, 23), (147, 24), (148, 25), (149, 26), (150, 27), (151, 28)] (by kernel_rfl) (by kernel_rfl) rfl
            · intro xs w hw hp K hK
              simp only [holdsL, List.nil_append, List.cons_append, List.getD_cons_succ, List.getD_cons_zero, if_true, and_true] at hp
              simp only [putAll]
              go_simp
              exact hK _ (Grow.refl _)
            -- operation 16
            apply lex_eq [(15, true)] [(123, 0), (124, 1), (125, 2), (126, 3), (127, 4), (128, 5), (129, 6), (130, 7), (131, 8), (132, 9), (133, 10), (134, 11), (135, 12), (136, 13), (137, 14), (138, 15)] (by kernel_rfl) (by kernel_rfl) rfl
            · intro xs w hw hp K hK
              simp only [holdsL, List.nil_append, List.cons_append, List.getD_cons_succ, List.getD_cons_zero, if_true, and_true] at hp
              simp only [putAll]
              go_simp
              exact hK _ (Grow.refl _)
            -- operation 17
            apply lex_eq [(16, true)] [(123, 0), (124, 1), (125, 2), (126, 3), (127, 4), (128, 5), (129, 6), (130, 7), (131, 8), (132, 9), (133, 10), (134, 11), (135, 12), (136, 13), (137, 14), (138, 15), (139, 16), (142, 19), (143, 20), (144, 21), (145, 22), (146, 23), (147, 24), (148, 25), (149, 26), (150, 27), (151, 28)] (by kernel_rfl) (by kernel_rfl) rfl
            · intro xs w hw hp K hK
              simp only [holdsL, List.nil_append, List.cons_append, List.getD_cons_succ, List.getD_cons_zero, if_true, and_true] at hp
              simp only [putAll]
              go_simp
              exact hK _ (Grow.refl _)
            -- operation 18
            apply lex_eq [(16, true), (17, true)] [(123, 0), (124, 1), (125, 2), (126, 3), (127, 4), (128, 5), (129, 6), (130, 7), (131, 8), (132, 9), (133, 10), (134, 11), (135, 12), (136, 13), (137, 14), (138, 15), (139, 16), (140, 17), (142, 19), (143, 20), (144, 21), (145, 22), (146, 23), (148, 25), (149, 26), (150, 27), (151, 28)] (by kernel_rfl) (by kernel_rfl) rfl
            · intro xs w hw hp K hK
              simp only [holdsL, List.nil_append, List.cons_append, List.getD_cons_succ, List.getD_cons_zero, if_true, and_true] at hp
              simp only [putAll]
              have hc := Hp.out w hw
              go_simp
              exact hK _ (Grow.refl _)
            -- operation 19
            apply lex_eq [(16, true)] [(123, 0), (124, 1), (125, 2), (126, 3), (127, 4), (128, 5), (129, 6), (130, 7), (131, 8), (132, 9), (133, 10), (134, 11), (135, 12), (136, 13), (137, 14), (138, 15), (139, 16), (140, 17), (141, 18), (144, 21), (145, 22), (146, 23), (147, 24), (148, 25), (149, 26), (150, 27), (151, 28)] (by kernel_rfl) (by kernel_rfl) rfl
            · intro xs w hw hp K hK
              simp only [holdsL, List.nil_append, List.cons_append, List.getD_cons_succ, List.getD_cons_zero, if_true, and_true] at hp
              simp only [putAll]
              go_simp
              exact hK _ (Grow.refl _)
            -- operation 20
            apply lex_eq [(16, true), (19, true)] [(123, 0), (124, 1), (125, 2), (126, 3), (127, 4), (128, 5), (129, 6), (130, 7), (131, 8), (132, 9), (133, 10), (134, 11), (135, 12), (136, 13), (137, 14), (138, 15), (139, 16), (140, 17), (141, 18), (142, 19), (144, 21), (146, 23), (147, 24), (148, 25), (149, 26), (150, 27), (151, 28)] (by kernel_rfl) (by kernel_rfl) rfl
            · intro xs w hw hp K hK
              simp only [holdsL, List.nil_append, List.cons_append, List.getD_cons_succ, List.getD_cons_zero, if_true, and_true] at hp
              simp only [putAll]
              have hc := Hf.out w hw
              go_simp
              exact hK _ (Grow.refl _)
            -- operation 21
            apply lex_eq [(16, true)] [(123, 0), (124, 1), (125, 2), (126, 3), (127, 4), (128, 5), (129, 6), (130, 7), (131, 8), (132, 9), (133, 10), (134, 11), (135, 12), (136, 13), (137, 14), (138, 15), (139, 16), (140, 17), (141, 18), (142, 19), (143, 20), (146, 23), (147, 24), (148, 25), (149, 26), (150, 27), (151, 28)] (by kernel_rfl) (by kernel_rfl) rfl
            · intro xs w hw hp K hK
              simp only [holdsL, List.nil_append, List.cons_append, List.getD_cons_succ, List.getD_cons_zero, if_true, and_true] at hp
              simp only [putAll]
              go_simp
              exact hK _ (Grow.refl _)
            -- operation 22
            apply lex_eq [(16, true), (20, true), (21, true)] [(123, 0), (124, 1), (125, 2), (126, 3), (127, 4), (128, 5), (129, 6), (130, 7), (131, 8), (132, 9), (133, 10), (134, 11), (135, 12), (136, 13), (137, 14), (138, 15), (139, 16), (140, 17), (141, 18), (142, 19), (143, 20), (144, 21), (147, 24), (148, 25), (149, 26), (150, 27), (151, 28)] (by kernel_rfl) (by kernel_rfl) rfl
            · intro xs w hw hp K hK
              simp only [holdsL, List.nil_append, List.cons_append, List.getD_cons_succ, List.getD_cons_zero, if_true, and_true] at hp
              simp only [putAll]
              go_simp
              exact hK _ (Grow.refl _)
            -- operation 23
            apply lex_eq [(16, true), (22, true)] [(123, 0), (124, 1), (125, 2), (126, 3), (127, 4), (128, 5), (129, 6), (130, 7), (131, 8), (132, 9), (133, 10), (134, 11), (135, 12), (136, 13), (137, 14), (138, 15), (139, 16), (140, 17), (141, 18), (142, 19), (143, 20), (144, 21), (145, 22), (148, 25), (149, 26), (150, 27), (151, 28)] (by kernel_rfl) (by kernel_rfl) rfl
            · intro xs w hw hp K hK
              simp only [holdsL, List.nil_append, List.cons_append, List.getD_cons_succ, List.getD_cons_zero, if_true, and_true] at hp
              simp only [putAll]
              have hc := Hx.out w hw
              go_simp
              exact hK _ (Grow.refl _)
            -- operation 24
            apply lex_eq [(16, true), (18, true), (23, true)] [(123, 0), (124, 1), (125, 2), (126, 3), (127, 4), (128, 5), (129, 6), (130, 7), (131, 8), (132, 9), (133, 10), (134, 11), (135, 12), (136, 13), (137, 14), (138, 15), (139, 16), (140, 17), (141, 18), (142, 19), (143, 20), (144, 21), (145, 22), (146, 23), (149, 26), (150, 27), (151, 28)] (by kernel_rfl) (by kernel_rfl) rfl
            · intro xs w hw hp K hK
              simp only [holdsL, List.nil_append, List.cons_append, List.getD_cons_succ, List.getD_cons_zero, if_true, and_true] at hp
              simp only [putAll]
              go_simp
              exact hK _ (Grow.refl _)
            -- operation 25
            apply lex_eq [(16, true), (24, true)] [(123, 0), (124, 1), (125, 2), (126, 3), (127, 4), (128, 5), (129, 6), (130, 7), (131, 8), (132, 9), (133, 10), (134, 11), (135, 12), (136, 13), (137, 14), (138, 15), (139, 16), (140, 17), (141, 18), (142, 19), (143, 20), (144, 21), (145, 22), (146, 23), (147, 24), (150, 27), (151, 28)] (by kernel_rfl) (by kernel_rfl) rfl
            · intro xs w hw hp K hK
              simp only [holdsL, List.nil_append, List.cons_append, List.getD_cons_succ, List.getD_cons_zero, if_true, and_true] at hp
              simp only [putAll]
              have hc := Hi.out w hw
              go_simp
              exact hK _ (Grow.refl _)
            -- operation 26
            apply lex_eq [(16, true), (25, true)] [(123, 0), (124, 1), (125, 2), (126, 3), (127, 4), (128, 5), (129, 6), (130, 7), (131, 8), (132, 9), (133, 10), (134, 11), (135, 12), (136, 13), (137, 14), (138, 15), (139, 16), (140, 17), (141, 18), (142, 19), (143, 20), (144, 21), (145, 22), (146, 23), (147, 24), (148, 25), (151, 28)] (by kernel_rfl) (by kernel_rfl) rfl
            · intro xs w hw hp K hK
              simp only [holdsL, List.nil_append, List.cons_append, List.getD_cons_succ, List.getD_cons_zero, if_true, and_true] at hp
              simp only [putAll]
              go_simp
              exact (Hst.out w).mono fun e w' h => ⟨_, h.1, hK _ h.2⟩
            -- operation 27
            apply lex_eq [(16, true), (26, true)] [(123, 0), (124, 1), (125, 2), (126, 3), (127, 4), (128, 5), (129, 6), (130, 7), (131, 8), (132, 9), (133, 10), (134, 11), (135, 12), (136, 13), (137, 14), (138, 15), (139, 16), (140, 17), (141, 18), (142, 19), (143, 20), (144, 21), (145, 22), (146, 23), (147, 24), (148, 25), (149, 26)] (by kernel_rfl) (by kernel_rfl) rfl
            · intro xs w hw hp K hK
              simp only [holdsL, List.nil_append, List.cons_append, List.getD_cons_succ, List.getD_cons_zero, if_true, and_true] at hp
              simp only [putAll]
              go_simp
              exact hK _ (Grow.refl _)
            intro xs w hw hp
            generalize hA : putAll xs _ _ = A
            simp only [holdsL, List.nil_append, List.cons_append, List.getD_cons_succ, List.getD_cons_zero, if_true, and_true] at hp
            have h16 := hp.2.2.2.2.2.2.2.2.2.2.2.2.2.2.2.2.1
            have h27 := hp.2.2.2.2.2.2.2.2.2.2.2.2.2.2.2.2.2.2.2.2.2.2.2.2.2.2.2
            clear hp
            subst hA
            simp only [putAll, h16, h27]
            have hgw : Grow wr w := hw.undrew
            have HGw := keep (Below.trans hGr (hgw.mono hGr.size))
            clear hw hgw h16 h27
            go_wp2_with fail
            go_roundw
            case rel => exact ⟨(q + 1) + 1, by omega, by go_num, HGw.out⟩
            case measure => simp [intOf]; omega
        · have e9 : q = K.fr.length := by omega
          subst e9
          have HGf := keep (Grow.trans hg6 (hGr.mono (Nat.le_refl _)))
          clear hWr hGr
          go_wp2_with fail
          refine (awake_any wr).mono ?_
          rintro e wZ ⟨rfl, hbZ⟩
          have HGz := keep (Grow.trans HGf.out hbZ)
          clear hbZ
          go_wp2_with fail
          go_ret
          exact ⟨rfl, HGz.out⟩

end Go.Proofs.Ytklpbhajmnogeaa
