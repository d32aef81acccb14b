
import Derived.Test.YtikmkimkhngihaaGreatKVc8
import Derived.Test.YtikmkimkhngihaaGreatKSnap3
/- The document's statuses: Get, Status; what is gone, old, off. -/
namespace Go.Proofs.YtikmkimkhngihaaGreat
open Go.RowKit

theorem statAt_N (l : List UInt8) (x : Int) (h : 1 ≤ x) : statAt l x = statN l (x - 1).toNat := by
  obtain ⟨j, hj⟩ := Int.eq_ofNat_of_zero_le (show 0 ≤ x - 1 by omega)
  unfold statAt statN
  rw [hj]
  have e1 : ((j : Int) / 4).toNat = j / 4 := by omega
  have e2 : (2 * ((j : Int) % 4)).toNat = 2 * (j % 4) := by omega
  rw [e1, e2, Int.toNat_natCast, Nat.pow_mul]

set_option maxRecDepth 100000 in
set_option maxHeartbeats 1000000 in
theorem rget_any (m : Int) (p : Pg) (iv : Value) (x : Int) (w : World) (hi : Items w iv p.items) (hs : ∀ x ∈ p.items, (x.length : Int) ≤ 4611686018427387904) : Calls Tryz.prog 79 #[.int .i64 m, pgV p iv, .int .i64 x] w fun e w' =>
    e = .returned (.tuple #[.int .u8 (getS m p x).1, .int .i64 (getS m p x).2]) ∧ Below w.heap.size w w' := by
  obtain ⟨w0, hw0⟩ : ∃ w0, w0 = w.alloc (.cells (pgCells p iv).toArray 30) := ⟨_, rfl⟩
  have hg0 : Grow w w0 := by subst hw0; exact (Grow.refl w).alloc _
  have hB0 : Blk w0 w.heap.size 30 (pgCells p iv) := by subst hw0; exact Blk.new w _ _
  have ho := taken_any m p iv w0 (hi.fits hg0) hs
  have hd : getS m p x = if openE m p = 0 then if idsB m [x] then (statAt (p.items.getD 1 []) x, 0) else (0, 1) else (0, openE m p) := rfl
  have hz := fun h => (openE_zero (m := m) (p := p) h).1
  have hat := fun (h1 : 1 ≤ x) => statAt_N (p.items.getD 1 []) x h1
  unfold TakPost pgV at ho
  unfold pgCells at *
  generalize (openNum m p).1 = F at *
  generalize p.items.getD 1 [] = l at *
  generalize openE m p = E at *
  generalize getS m p x = G at *
  have HD := keep hd
  have Ho := keep ho
  have HZ := keep hz
  have HAt := keep hat
  clear hd ho hz hat hs hi
  have c0 := hB0.cell 0 (by simp)
  have c1 := hB0.cell 1 (by simp)
  have c2 := hB0.cell 2 (by simp)
  have c3 := hB0.cell 3 (by simp)
  have c4 := hB0.cell 4 (by simp)
  have c5 := hB0.cell 5 (by simp)
  simp only [List.getElem_cons_zero, List.getElem_cons_succ] at c0 c1 c2 c3 c4 c5
  unfold pgV
  go_enter Tryz.func79, Tryz.ntmps79
  go_upto_region 1 with fail
  rw [← hw0]
  clear hw0
  go_wp2_with fail
  refine Ho.out.mono ?_
  rintro e w1 ⟨bv, rfl, hb1, hrow, a, n, cp, rfl⟩
  have hg1 := Grow.trans hg0 hb1
  have HRow := keep hrow
  clear hrow Ho hB0 hb1 hg0 c0 c1 c2 c3 c4 c5
  by_cases h0 : E = 0
  rotate_left
  · have k0 : (E != 0) = true := by simpa using h0
    have hG : G = (0, E) := by rw [HD.out, if_neg h0]
    have HG := keep hG
    clear hG
    clear HD HRow
    go_wp2_with fail
    go_ret2
    rw [HG.out]
    exact ⟨rfl, hg1⟩
  have hm := HZ.out h0
  have hrow := HRow.out h0
  subst h0
  obtain ⟨hm1, hm2, _⟩ := modB_bd hm
  have hid : idsB m [x] = idB m x := by rw [idsB_one', hm, Bool.true_and]
  by_cases hx1 : x < 1
  · have hG : G = (0, 1) := by
      rw [HD.out, if_pos rfl, hid]
      have : idB m x = false := by unfold idB; rw [decide_eq_false (by omega)]; rfl
      rw [this]; rfl
    have HG := keep hG
    clear hG
    clear HD HRow hrow hid
    go_wp2_with fail
    go_ret2
    rw [HG.out]
    exact ⟨rfl, hg1⟩
  by_cases hx2 : m < x
  · have hG : G = (0, 1) := by
      rw [HD.out, if_pos rfl, hid]
      have : idB m x = false := by unfold idB; rw [decide_eq_false (show ¬ x ≤ m by omega), Bool.and_false]
      rw [this]; rfl
    have HG := keep hG
    clear hG
    clear HD HRow hrow hid
    go_wp2_with fail
    go_ret2
    rw [HG.out]
    exact ⟨rfl, hg1⟩
  have hG : G = (statAt l x, 0) := by
    rw [HD.out, if_pos rfl, hid]
    have : idB m x = true := by unfold idB; rw [decide_eq_true (show 1 ≤ x by omega), decide_eq_true (show x ≤ m by omega)]; rfl
    rw [this]; rfl
  have hA := HAt.out (by omega)
  rw [hA] at hG
  have HG := keep hG
  clear hG
  obtain ⟨X, hX⟩ := Int.eq_ofNat_of_zero_le (show 0 ≤ x - 1 by omega)
  have hXm : X < m.toNat := by omega
  rcases hrow with ⟨h1, _⟩ | ⟨c, off, cap, hv, hc⟩
  · omega
  simp only [Value.slice.injEq] at hv
  obtain ⟨rfl, rfl, rfl⟩ := hv
  have hcell := hc X (by simpa using hXm)
  have hcell' : w1.cell? ⟨c, off + X, none⟩ = some (.int .u8 (statN l X)) := by rw [hcell]; simp [sts]
  have hwx : x - 1 = (X : Int) := hX
  clear HD HRow hid hA hcell hc HAt HZ
  go_wp2_with fail
  go_ret2
  rw [HG.out, hX, Int.toNat_natCast]
  exact ⟨rfl, hg1⟩

set_option maxRecDepth 100000 in
set_option maxHeartbeats 1000000 in
theorem rstatus_any (v : Vw) (av rv iv : Value) (x : Int) (w : World) (hv : VwIn w v av rv iv) (h62 : ∀ x ∈ v.clog.items, (x.length : Int) ≤ 4611686018427387904) :
    Calls Tryz.prog 60 #[vwV v av rv iv, .int .i64 x] w fun e w' => e = .returned (.int .u8 (statusS v x)) ∧ Below w.heap.size w w' := by
  obtain ⟨w0, hw0⟩ : ∃ w0, w0 = w.alloc (.cells (vwCells v av rv iv).toArray 32) := ⟨_, rfl⟩
  have hg0 : Grow w w0 := by subst hw0; exact (Grow.refl w).alloc _
  have hB0 : Blk w0 w.heap.size 32 (vwCells v av rv iv) := by subst hw0; exact Blk.new w _ _
  have hc := rin_any rv v.running x w0 (hv.run.fits hg0) hv.runl
  have hit := hv.items
  have hd : statusS v x = if v.running.contains x then 1 else (getS v.m v.clog x).1 := rfl
  obtain ⟨iva, ivc, rfl⟩ := items_form hv.items
  obtain ⟨rva, rvc, rfl, _⟩ := ints_form hv.run
  obtain ⟨ava, avc, rfl, _⟩ := ints_form hv.act
  have ht := h62
  have HV := keep hit
  have HT := keep ht
  have HD := keep hd
  have Hc := keep hc
  clear hv hit ht hd hc
  unfold vwV vwCells at *
  have c0 := hB0.cell 0 (by simp)
  have c1 := hB0.cell 1 (by simp)
  have c2 := hB0.cell 2 (by simp)
  have c3 := hB0.cell 3 (by simp)
  have c4 := hB0.cell 4 (by simp)
  have c5 := hB0.cell 5 (by simp)
  have c6 := hB0.cell 6 (by simp)
  have c7 := hB0.cell 7 (by simp)
  have c8 := hB0.cell 8 (by simp)
  have c9 := hB0.cell 9 (by simp)
  have c10 := hB0.cell 10 (by simp)
  go_enter Tryz.func60, Tryz.ntmps60
  go_wp2_with fail
  rw [← hw0]
  refine Hc.out.mono ?_
  rintro e w1 ⟨rfl, hb1⟩
  have hg1 := Grow.trans hg0 hb1
  have hB1 := hB0.fits hb1
  clear hw0 c0 c1 c2 c3 c4 c5 c6 c7 c8 c9 c10 hB0 hb1 hg0
  cases hx : v.running.contains x with
  | true =>
    rw [hx] at HD
    go_wp2_with fail
    go_ret
    have := HD.out
    simp at this
    rw [this]
    exact ⟨rfl, hg1⟩
  | false =>
    rw [hx] at HD
    have c0 := hB1.cell 0 (by simp)
    have c1 := hB1.cell 1 (by simp)
    have c2 := hB1.cell 2 (by simp)
    have c3 := hB1.cell 3 (by simp)
    have c4 := hB1.cell 4 (by simp)
    have c5 := hB1.cell 5 (by simp)
    have c6 := hB1.cell 6 (by simp)
    have c7 := hB1.cell 7 (by simp)
    have c8 := hB1.cell 8 (by simp)
    have c9 := hB1.cell 9 (by simp)
    have c10 := hB1.cell 10 (by simp)
    go_wp2_with fail
    refine (rget_any v.m v.clog _ x w1 (Row.fits HV.out hg1) HT.out).mono ?_
    rintro e w2 ⟨rfl, hb2⟩
    have hg2 := Grow.trans hg1 hb2
    have he := @getS_err v.m v.clog x
    have hd2 : statusS v x = (getS v.m v.clog x).1 := by have := HD.out; simpa using this
    generalize getS v.m v.clog x = G at *
    have HD2 := keep hd2
    clear c0 c1 c2 c3 c4 c5 c6 c7 c8 c9 c10 hd2 HD
    by_cases h0 : G.2 = 0
    · have h0' : (G.2 != 0) = false := by simpa using h0
      clear he
      go_wp2_with fail
      go_ret
      rw [HD2.out]
      exact ⟨rfl, hg2⟩
    · have h0' : (G.2 != 0) = true := by simpa using h0
      have hz := he h0
      have HZ := keep hz
      clear he hz
      go_wp2_with fail
      go_ret
      rw [HD2.out, HZ.out]
      exact ⟨rfl, hg2⟩

set_option maxRecDepth 100000 in
set_option maxHeartbeats 1000000 in
theorem roff_any (v : Vw) (av rv iv : Value) (t : Tup) (w : World) (hv : VwIn w v av rv iv) (h62 : ∀ x ∈ v.clog.items, (x.length : Int) ≤ 4611686018427387904) :
    Calls Tryz.prog 31 #[vwV v av rv iv, tupV t] w fun e w' => e = .returned (.bool (offB v t)) ∧ Below w.heap.size w w' := by
  obtain ⟨w1, hw1⟩ : ∃ w1, w1 = (w.alloc (.cells (vwCells v av rv iv).toArray 32)).alloc (.cells (tuCells t).toArray 61) := ⟨_, rfl⟩
  have hg1 : Grow w w1 := by subst hw1; exact ((Grow.refl w).alloc _).alloc _
  have hB1 : Blk w1 w.heap.size 32 (vwCells v av rv iv) := by subst hw1; exact (Blk.new w _ _).alloc _
  have hT1 : Blk w1 (w.heap.size + 1) 61 (tuCells t) := by
    have := Blk.new (w.alloc (.cells (vwCells v av rv iv).toArray 32)) 61 (tuCells t)
    have e : (w.alloc (.cells (vwCells v av rv iv).toArray 32)).heap.size = w.heap.size + 1 := by simp
    rw [e] at this
    subst hw1; exact this
  have hst := rstatus_any v av rv iv t.xmax w1 (hv.fits hg1) h62
  have hd : offB v t = ((t.xmax : Int) != 0 && (statusS v t.xmax : Int) == 3) := by
    unfold offB; rw [i64_ne0, show (3 : Int) = ((3 : Nat) : Int) from rfl, u8_eq]
  generalize statusS v t.xmax = S at *
  have Hst := keep hst
  have HD := keep hd
  clear hst hd hv
  unfold vwV vwCells tuCells at *
  obtain ⟨c0, c1, c2, c3, c4, c5, c6, c7, c8, c9, c10⟩ := vwres hB1
  obtain ⟨d0, d1, d2, d3, d4⟩ := tures hT1
  unfold tupV
  go_enter Tryz.func31, Tryz.ntmps31
  cases hx : ((t.xmax : Int) != 0) with
  | false =>
    rw [hx] at HD
    go_wp2_with fail
    go_ret
    rw [HD.out, Bool.false_and]
    exact ⟨rfl, by rw [← hw1]; exact hg1⟩
  | true =>
    rw [hx] at HD
    go_wp2_with fail
    rw [← hw1]
    refine Hst.out.mono ?_
    rintro e w2 ⟨rfl, hb2⟩
    go_wp2_with fail
    go_ret
    rw [HD.out, Bool.true_and]
    exact ⟨rfl, Grow.trans hg1 hb2⟩

set_option maxRecDepth 100000 in
set_option maxHeartbeats 1000000 in
theorem rold_any (v : Vw) (av rv iv : Value) (t : Tup) (h : Int) (w : World) (hv : VwIn w v av rv iv) (h62 : ∀ x ∈ v.clog.items, (x.length : Int) ≤ 4611686018427387904) :
    Calls Tryz.prog 30 #[vwV v av rv iv, tupV t, .int .i64 h] w fun e w' => e = .returned (.bool (oldB v t h)) ∧ Below w.heap.size w w' := by
  obtain ⟨w1, hw1⟩ : ∃ w1, w1 = (w.alloc (.cells (vwCells v av rv iv).toArray 32)).alloc (.cells (tuCells t).toArray 61) := ⟨_, rfl⟩
  have hg1 : Grow w w1 := by subst hw1; exact ((Grow.refl w).alloc _).alloc _
  have hB1 : Blk w1 w.heap.size 32 (vwCells v av rv iv) := by subst hw1; exact (Blk.new w _ _).alloc _
  have hT1 : Blk w1 (w.heap.size + 1) 61 (tuCells t) := by
    have := Blk.new (w.alloc (.cells (vwCells v av rv iv).toArray 32)) 61 (tuCells t)
    have e : (w.alloc (.cells (vwCells v av rv iv).toArray 32)).heap.size = w.heap.size + 1 := by simp
    rw [e] at this
    subst hw1; exact this
  have hd : oldB v t h = (!t.frozen && beforeB v.m t.xmin h && ((statusS v t.xmin : Int) == 2)) := by
    unfold oldB; rw [show (2 : Int) = ((2 : Nat) : Int) from rfl, u8_eq]
  have hbe := fun (u : World) => rbefore_any v.m t.xmin h u
  have hsxmin := fun (u : World) (hu : Grow w u) => rstatus_any v av rv iv t.xmin u (hv.fits hu) h62
  unfold vwV at hsxmin
  generalize statusS v t.xmin = S at *
  generalize beforeB v.m t.xmin h = B at *
  have HD := keep hd
  have HSxmin := keep hsxmin
  have HBe := keep hbe
  clear hd hv hsxmin hbe
  unfold vwV vwCells tuCells at *
  obtain ⟨c0, c1, c2, c3, c4, c5, c6, c7, c8, c9, c10⟩ := vwres hB1
  obtain ⟨d0, d1, d2, d3, d4⟩ := tures hT1
  unfold tupV
  go_enter Tryz.func30, Tryz.ntmps30
  cases hf : t.frozen with
  | true =>
    rw [hf] at HD d2 hw1
    go_wp2_with fail
    go_ret
    rw [HD.out]
    exact ⟨by simp, by rw [← hw1]; exact hg1⟩
  | false =>
    rw [hf] at HD d2 hw1 hT1
    go_upto_region 1 with fail
    rw [← hw1]
    clear hw1
    go_wp2_with fail
    refine (HSxmin.out w1 (by assumption)).mono ?_
    rintro e w2 ⟨rfl, hbw2⟩
    have hgw2 := Grow.trans hg1 hbw2
    have hBw2 := hB1.fits hbw2
    have hTw2 := hT1.fits hbw2
    clear c0 c1 c2 c3 c4 c5 c6 c7 c8 c9 c10 d0 d1 d2 d3 d4 hB1 hT1 hg1 hbw2
    obtain ⟨c0, c1, c2, c3, c4, c5, c6, c7, c8, c9, c10⟩ := vwres hBw2
    obtain ⟨d0, d1, d2, d3, d4⟩ := tures hTw2
    by_cases hS : (S : Int) = 2
    · have hSb : ((S : Int) == 2) = true := by simpa using hS
      rw [hSb] at HD
      go_wp2_with fail
      refine (HBe.out w2).mono ?_
      rintro e w3 ⟨rfl, hb3⟩
      have hg3 := Grow.trans hgw2 hb3
      go_wp2_with fail
      go_ret
      rw [HD.out]
      exact ⟨by simp, hg3⟩
    · have hSb : ((S : Int) == 2) = false := by simpa using hS
      rw [hSb] at HD
      go_wp2_with fail
      go_ret
      rw [HD.out]
      exact ⟨by simp, hgw2⟩

set_option maxRecDepth 100000 in
set_option maxHeartbeats 1000000 in
theorem rgone_any (v : Vw) (av rv iv : Value) (t : Tup) (h : Int) (w : World) (hv : VwIn w v av rv iv) (h62 : ∀ x ∈ v.clog.items, (x.length : Int) ≤ 4611686018427387904) :
    Calls Tryz.prog 29 #[vwV v av rv iv, tupV t, .int .i64 h] w fun e w' => e = .returned (.bool (goneB v t h)) ∧ Below w.heap.size w w' := by
  obtain ⟨w1, hw1⟩ : ∃ w1, w1 = (w.alloc (.cells (vwCells v av rv iv).toArray 32)).alloc (.cells (tuCells t).toArray 61) := ⟨_, rfl⟩
  have hg1 : Grow w w1 := by subst hw1; exact ((Grow.refl w).alloc _).alloc _
  have hB1 : Blk w1 w.heap.size 32 (vwCells v av rv iv) := by subst hw1; exact (Blk.new w _ _).alloc _
  have hT1 : Blk w1 (w.heap.size + 1) 61 (tuCells t) := by
    have := Blk.new (w.alloc (.cells (vwCells v av rv iv).toArray 32)) 61 (tuCells t)
    have e : (w.alloc (.cells (vwCells v av rv iv).toArray 32)).heap.size = w.heap.size + 1 := by simp
    rw [e] at this
    subst hw1; exact this
  have hd : goneB v t h = ((!t.frozen && ((statusS v t.xmin : Int) == 3)) || ((t.xmax : Int) != 0 && beforeB v.m t.xmax h && ((statusS v t.xmax : Int) == 2))) := by
    unfold goneB; rw [i64_ne0, show (2 : Int) = ((2 : Nat) : Int) from rfl, u8_eq, show (3 : Int) = ((3 : Nat) : Int) from rfl, u8_eq]
  have hbe := fun (u : World) => rbefore_any v.m t.xmax h u
  have hsxmin := fun (u : World) (hu : Grow w u) => rstatus_any v av rv iv t.xmin u (hv.fits hu) h62
  unfold vwV at hsxmin
  have hsxmax := fun (u : World) (hu : Grow w u) => rstatus_any v av rv iv t.xmax u (hv.fits hu) h62
  unfold vwV at hsxmax
  generalize statusS v t.xmin = S at *
  generalize statusS v t.xmax = T at *
  generalize beforeB v.m t.xmax h = B at *
  have HD := keep hd
  have HSxmin := keep hsxmin
  have HSxmax := keep hsxmax
  have HBe := keep hbe
  clear hd hv hsxmin hsxmax hbe
  unfold vwV vwCells tuCells at *
  obtain ⟨c0, c1, c2, c3, c4, c5, c6, c7, c8, c9, c10⟩ := vwres hB1
  obtain ⟨d0, d1, d2, d3, d4⟩ := tures hT1
  unfold tupV
  go_enter Tryz.func29, Tryz.ntmps29
  go_upto_region 1 with fail
  rw [← hw1]
  clear hw1
  cases hf : t.frozen with
  | true =>
    rw [hf] at HD d2 hT1
    cases hx : ((t.xmax : Int) != 0) with
    | false =>
      rw [hx] at HD
      go_wp2_with fail
      go_ret
      rw [HD.out]
      exact ⟨by simp, hg1⟩
    | true =>
      rw [hx] at HD
      go_wp2_with fail
      refine (HSxmax.out w1 (by assumption)).mono ?_
      rintro e v5 ⟨rfl, hbv5⟩
      have hgv5 := Grow.trans hg1 hbv5
      have hBv5 := hB1.fits hbv5
      have hTv5 := hT1.fits hbv5
      clear c0 c1 c2 c3 c4 c5 c6 c7 c8 c9 c10 d0 d1 d2 d3 d4 hB1 hT1 hg1 hbv5
      obtain ⟨c0, c1, c2, c3, c4, c5, c6, c7, c8, c9, c10⟩ := vwres hBv5
      obtain ⟨d0, d1, d2, d3, d4⟩ := tures hTv5
      by_cases hT : (T : Int) = 2
      · have hTb : ((T : Int) == 2) = true := by simpa using hT
        rw [hTb] at HD
        go_wp2_with fail
        refine (HBe.out v5).mono ?_
        rintro e v6 ⟨rfl, hb6⟩
        have hg6 := Grow.trans hgv5 hb6
        go_wp2_with fail
        go_ret
        rw [HD.out]
        exact ⟨by simp, hg6⟩
      · have hTb : ((T : Int) == 2) = false := by simpa using hT
        rw [hTb] at HD
        go_wp2_with fail
        go_ret
        rw [HD.out]
        exact ⟨by simp, hgv5⟩
  | false =>
    rw [hf] at HD d2 hT1
    go_wp2_with fail
    refine (HSxmin.out w1 (by assumption)).mono ?_
    rintro e w2 ⟨rfl, hbw2⟩
    have hgw2 := Grow.trans hg1 hbw2
    have hBw2 := hB1.fits hbw2
    have hTw2 := hT1.fits hbw2
    clear c0 c1 c2 c3 c4 c5 c6 c7 c8 c9 c10 d0 d1 d2 d3 d4 hB1 hT1 hg1 hbw2
    obtain ⟨c0, c1, c2, c3, c4, c5, c6, c7, c8, c9, c10⟩ := vwres hBw2
    obtain ⟨d0, d1, d2, d3, d4⟩ := tures hTw2
    by_cases hS : (S : Int) = 3
    · have hSb : ((S : Int) == 3) = true := by simpa using hS
      rw [hSb] at HD
      go_wp2_with fail
      go_ret
      rw [HD.out]
      exact ⟨by simp, hgw2⟩
    · have hSb : ((S : Int) == 3) = false := by simpa using hS
      rw [hSb] at HD
      cases hx : ((t.xmax : Int) != 0) with
      | false =>
        rw [hx] at HD
        go_wp2_with fail
        go_ret
        rw [HD.out]
        exact ⟨by simp, hgw2⟩
      | true =>
        rw [hx] at HD
        go_wp2_with fail
        refine (HSxmax.out w2 (by assumption)).mono ?_
        rintro e v5 ⟨rfl, hbv5⟩
        have hgv5 := Grow.trans hgw2 hbv5
        have hBv5 := hBw2.fits hbv5
        have hTv5 := hTw2.fits hbv5
        clear c0 c1 c2 c3 c4 c5 c6 c7 c8 c9 c10 d0 d1 d2 d3 d4 hBw2 hTw2 hgw2 hbv5
        obtain ⟨c0, c1, c2, c3, c4, c5, c6, c7, c8, c9, c10⟩ := vwres hBv5
        obtain ⟨d0, d1, d2, d3, d4⟩ := tures hTv5
        by_cases hT : (T : Int) = 2
        · have hTb : ((T : Int) == 2) = true := by simpa using hT
          rw [hTb] at HD
          go_wp2_with fail
          refine (HBe.out v5).mono ?_
          rintro e v6 ⟨rfl, hb6⟩
          have hg6 := Grow.trans hgv5 hb6
          go_wp2_with fail
          go_ret
          rw [HD.out]
          exact ⟨by simp, hg6⟩
        · have hTb : ((T : Int) == 2) = false := by simpa using hT
          rw [hTb] at HD
          go_wp2_with fail
          go_ret
          rw [HD.out]
          exact ⟨by simp, hgv5⟩

end Go.Proofs.YtikmkimkhngihaaGreat
