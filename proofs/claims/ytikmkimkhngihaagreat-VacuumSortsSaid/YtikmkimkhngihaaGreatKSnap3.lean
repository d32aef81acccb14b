
import Derived.Test.YtikmkimkhngihaaGreatKVc6
import Derived.Test.YtikmkimkhngihaaGreatKTup3
/- snap: a transaction's status, as a view has it. -/
namespace Go.Proofs.YtikmkimkhngihaaGreat
open Go.RowKit

/-- A view, but for where its lists lie. -/
structure Vw where
  m : Int
  next : Int
  active : List Int
  own : Int
  running : List Int
  clog : Pg

def vwV (v : Vw) (av rv iv : Value) : Value := .agg #[.int .i64 v.m, .int .i64 v.next, av, .int .i64 v.own, rv, .int .i64 v.clog.lsn, .int .i64 v.clog.kind, .int .i64 v.clog.level, .int .i64 v.clog.right, .string (str v.clog.high), iv]
def vwCells (v : Vw) (av rv iv : Value) : List Value := [.int .i64 v.m, .int .i64 v.next, av, .int .i64 v.own, rv, .int .i64 v.clog.lsn, .int .i64 v.clog.kind, .int .i64 v.clog.level, .int .i64 v.clog.right, .string (str v.clog.high), iv]

/-- The lists of a view, in a world, and that none is beyond all measure. -/
structure VwIn (w : World) (v : Vw) (av rv iv : Value) : Prop where
  act : Ints w av v.active
  run : Ints w rv v.running
  items : Items w iv v.clog.items
  actl : (v.active.length : Int) ≤ 70368744177664
  runl : (v.running.length : Int) ≤ 70368744177664
  itemsl : (v.clog.items.length : Int) ≤ 70368744177664
  texts : ∀ x ∈ v.clog.items, (x.length : Int) ≤ 9223372036854775807

theorem VwIn.fits {w w' : World} {v : Vw} {av rv iv : Value} (h : VwIn w v av rv iv) (k : Below w.heap.size w w') : VwIn w' v av rv iv :=
  ⟨h.act.fits k, h.run.fits k, Row.fits h.items k, h.actl, h.runl, h.itemsl, h.texts⟩

def statusS (v : Vw) (x : Int) : Nat := if v.running.contains x then 1 else (getS v.m v.clog x).1
theorem getS_err {m : Int} {p : Pg} {x : Int} (h : (getS m p x).2 ≠ 0) : (getS m p x).1 = 0 := by
  unfold getS at *
  split at h
  · split at h
    · exact absurd rfl h
    · rename_i h1 h2; simp [h1, h2]
  · rename_i h1; simp [h1]

set_option maxRecDepth 100000 in
set_option maxHeartbeats 1000000 in
theorem status_any (v : Vw) (av rv iv : Value) (x : Int) (w : World) (hv : VwIn w v av rv iv) :
    Calls Tryz.prog 53 #[vwV v av rv iv, .int .i64 x] w fun e w' => e = .returned (.int .u8 (statusS v x)) ∧ Below w.heap.size w w' := by
  obtain ⟨w0, hw0⟩ : ∃ w0, w0 = w.alloc (.cells (vwCells v av rv iv).toArray 32) := ⟨_, rfl⟩
  have hg0 : Grow w w0 := by subst hw0; exact (Grow.refl w).alloc _
  have hB0 : Blk w0 w.heap.size 32 (vwCells v av rv iv) := by subst hw0; exact Blk.new w _ _
  have hc := contains_any rv v.running x w0 (hv.run.fits hg0) hv.runl
  have hit := hv.items
  have hd : statusS v x = if v.running.contains x then 1 else (getS v.m v.clog x).1 := rfl
  obtain ⟨iva, ivc, rfl⟩ := items_form hv.items
  obtain ⟨rva, rvc, rfl, _⟩ := ints_form hv.run
  obtain ⟨ava, avc, rfl, _⟩ := ints_form hv.act
  have ht := hv.texts
  have HV := keep hit
  have HT := keep ht
  have HD := keep hd
  have Hc := keep hc
  clear hv hit ht hd hc
  unfold vwV vwCells at *
  have c0 := hB0.cell 0 (by simp)
  have c1 := hB0.cell 1 (by simp)
  have c2 := hB0.cell 2 (by simp)
  have c3 := hB0.cell 3 (by simp)
  have c4 := hB0.cell 4 (by simp)
  have c5 := hB0.cell 5 (by simp)
  have c6 := hB0.cell 6 (by simp)
  have c7 := hB0.cell 7 (by simp)
  have c8 := hB0.cell 8 (by simp)
  have c9 := hB0.cell 9 (by simp)
  have c10 := hB0.cell 10 (by simp)
  go_enter Tryz.func53, Tryz.ntmps53
  go_wp2_with fail
  rw [← hw0]
  refine Hc.out.mono ?_
  rintro e w1 ⟨rfl, hb1⟩
  have hg1 := Grow.trans hg0 hb1
  have hB1 := hB0.fits hb1
  clear hw0 c0 c1 c2 c3 c4 c5 c6 c7 c8 c9 c10 hB0 hb1 hg0
  cases hx : v.running.contains x with
  | true =>
    rw [hx] at HD
    go_wp2_with fail
    go_ret
    have := HD.out
    simp at this
    rw [this]
    exact ⟨rfl, hg1⟩
  | false =>
    rw [hx] at HD
    have c0 := hB1.cell 0 (by simp)
    have c1 := hB1.cell 1 (by simp)
    have c2 := hB1.cell 2 (by simp)
    have c3 := hB1.cell 3 (by simp)
    have c4 := hB1.cell 4 (by simp)
    have c5 := hB1.cell 5 (by simp)
    have c6 := hB1.cell 6 (by simp)
    have c7 := hB1.cell 7 (by simp)
    have c8 := hB1.cell 8 (by simp)
    have c9 := hB1.cell 9 (by simp)
    have c10 := hB1.cell 10 (by simp)
    go_wp2_with fail
    refine (get_any v.m v.clog _ x w1 (Row.fits HV.out hg1) HT.out).mono ?_
    rintro e w2 ⟨rfl, hb2⟩
    have hg2 := Grow.trans hg1 hb2
    have he := @getS_err v.m v.clog x
    have hd2 : statusS v x = (getS v.m v.clog x).1 := by have := HD.out; simpa using this
    generalize getS v.m v.clog x = G at *
    have HD2 := keep hd2
    clear c0 c1 c2 c3 c4 c5 c6 c7 c8 c9 c10 hd2 HD
    by_cases h0 : G.2 = 0
    · have h0' : (G.2 != 0) = false := by simpa using h0
      clear he
      go_wp2_with fail
      go_ret
      rw [HD2.out]
      exact ⟨rfl, hg2⟩
    · have h0' : (G.2 != 0) = true := by simpa using h0
      have hz := he h0
      have HZ := keep hz
      clear he hz
      go_wp2_with fail
      go_ret
      rw [HD2.out, HZ.out]
      exact ⟨rfl, hg2⟩

theorem vwres {w : World} {b t : Nat} {v0 v1 v2 v3 v4 v5 v6 v7 v8 v9 v10 : Value} (h : Blk w b t [v0, v1, v2, v3, v4, v5, v6, v7, v8, v9, v10]) :
    w.cell? ⟨b, 0, none⟩ = some v0 ∧ w.cell? ⟨b, 1, none⟩ = some v1 ∧ w.cell? ⟨b, 2, none⟩ = some v2 ∧ w.cell? ⟨b, 3, none⟩ = some v3 ∧ w.cell? ⟨b, 4, none⟩ = some v4 ∧ w.cell? ⟨b, 5, none⟩ = some v5 ∧
    w.cell? ⟨b, 6, none⟩ = some v6 ∧ w.cell? ⟨b, 7, none⟩ = some v7 ∧ w.cell? ⟨b, 8, none⟩ = some v8 ∧ w.cell? ⟨b, 9, none⟩ = some v9 ∧ w.cell? ⟨b, 10, none⟩ = some v10 :=
  ⟨h.cell 0 (by simp), h.cell 1 (by simp), h.cell 2 (by simp), h.cell 3 (by simp), h.cell 4 (by simp), h.cell 5 (by simp), h.cell 6 (by simp), h.cell 7 (by simp), h.cell 8 (by simp), h.cell 9 (by simp), h.cell 10 (by simp)⟩
theorem tures {w : World} {b t : Nat} {v0 v1 v2 v3 v4 : Value} (h : Blk w b t [v0, v1, v2, v3, v4]) :
    w.cell? ⟨b, 0, none⟩ = some v0 ∧ w.cell? ⟨b, 1, none⟩ = some v1 ∧ w.cell? ⟨b, 2, none⟩ = some v2 ∧ w.cell? ⟨b, 3, none⟩ = some v3 ∧ w.cell? ⟨b, 4, none⟩ = some v4 :=
  ⟨h.cell 0 (by simp), h.cell 1 (by simp), h.cell 2 (by simp), h.cell 3 (by simp), h.cell 4 (by simp)⟩

def tuCells (t : Tup) : List Value := [.int .i64 t.xmin, .int .i64 t.xmax, .bool t.frozen, .string (str t.key), .string (str t.val)]

end Go.Proofs.YtikmkimkhngihaaGreat

/- snap: what is gone, old, off. -/
namespace Go.Proofs.YtikmkimkhngihaaGreat
open Go.RowKit

def offB (v : Vw) (t : Tup) : Bool := t.xmax != 0 && statusS v t.xmax == 3

theorem i64_ne0 (n : Nat) : ((n : Int) != 0) = (n != 0) := by rw [Bool.eq_iff_iff]; simp
theorem u8_eq (n k : Nat) : ((n : Int) == (k : Int)) = (n == k) := by rw [Bool.eq_iff_iff]; simp; omega

set_option maxRecDepth 100000 in
set_option maxHeartbeats 1000000 in
theorem off_any (v : Vw) (av rv iv : Value) (t : Tup) (w : World) (hv : VwIn w v av rv iv) :
    Calls Tryz.prog 25 #[vwV v av rv iv, tupV t] w fun e w' => e = .returned (.bool (offB v t)) ∧ Below w.heap.size w w' := by
  obtain ⟨w1, hw1⟩ : ∃ w1, w1 = (w.alloc (.cells (vwCells v av rv iv).toArray 32)).alloc (.cells (tuCells t).toArray 61) := ⟨_, rfl⟩
  have hg1 : Grow w w1 := by subst hw1; exact ((Grow.refl w).alloc _).alloc _
  have hB1 : Blk w1 w.heap.size 32 (vwCells v av rv iv) := by subst hw1; exact (Blk.new w _ _).alloc _
  have hT1 : Blk w1 (w.heap.size + 1) 61 (tuCells t) := by
    have := Blk.new (w.alloc (.cells (vwCells v av rv iv).toArray 32)) 61 (tuCells t)
    have e : (w.alloc (.cells (vwCells v av rv iv).toArray 32)).heap.size = w.heap.size + 1 := by simp
    rw [e] at this
    subst hw1; exact this
  have hst := status_any v av rv iv t.xmax w1 (hv.fits hg1)
  have hd : offB v t = ((t.xmax : Int) != 0 && (statusS v t.xmax : Int) == 3) := by
    unfold offB; rw [i64_ne0, show (3 : Int) = ((3 : Nat) : Int) from rfl, u8_eq]
  generalize statusS v t.xmax = S at *
  have Hst := keep hst
  have HD := keep hd
  clear hst hd hv
  unfold vwV vwCells tuCells at *
  obtain ⟨c0, c1, c2, c3, c4, c5, c6, c7, c8, c9, c10⟩ := vwres hB1
  obtain ⟨d0, d1, d2, d3, d4⟩ := tures hT1
  unfold tupV
  go_enter Tryz.func25, Tryz.ntmps25
  cases hx : ((t.xmax : Int) != 0) with
  | false =>
    rw [hx] at HD
    go_wp2_with fail
    go_ret
    rw [HD.out, Bool.false_and]
    exact ⟨rfl, by rw [← hw1]; exact hg1⟩
  | true =>
    rw [hx] at HD
    go_wp2_with fail
    rw [← hw1]
    refine Hst.out.mono ?_
    rintro e w2 ⟨rfl, hb2⟩
    go_wp2_with fail
    go_ret
    rw [HD.out, Bool.true_and]
    exact ⟨rfl, Grow.trans hg1 hb2⟩

def oldB (v : Vw) (t : Tup) (h : Int) : Bool := !t.frozen && beforeB v.m t.xmin h && statusS v t.xmin == 2

set_option maxRecDepth 100000 in
set_option maxHeartbeats 1000000 in
theorem old_any (v : Vw) (av rv iv : Value) (t : Tup) (h : Int) (w : World) (hv : VwIn w v av rv iv) :
    Calls Tryz.prog 24 #[vwV v av rv iv, tupV t, .int .i64 h] w fun e w' => e = .returned (.bool (oldB v t h)) ∧ Below w.heap.size w w' := by
  obtain ⟨w1, hw1⟩ : ∃ w1, w1 = (w.alloc (.cells (vwCells v av rv iv).toArray 32)).alloc (.cells (tuCells t).toArray 61) := ⟨_, rfl⟩
  have hg1 : Grow w w1 := by subst hw1; exact ((Grow.refl w).alloc _).alloc _
  have hB1 : Blk w1 w.heap.size 32 (vwCells v av rv iv) := by subst hw1; exact (Blk.new w _ _).alloc _
  have hT1 : Blk w1 (w.heap.size + 1) 61 (tuCells t) := by
    have := Blk.new (w.alloc (.cells (vwCells v av rv iv).toArray 32)) 61 (tuCells t)
    have e : (w.alloc (.cells (vwCells v av rv iv).toArray 32)).heap.size = w.heap.size + 1 := by simp
    rw [e] at this
    subst hw1; exact this
  have hd : oldB v t h = (!t.frozen && beforeB v.m t.xmin h && ((statusS v t.xmin : Int) == 2)) := by
    unfold oldB; rw [show (2 : Int) = ((2 : Nat) : Int) from rfl, u8_eq]
  have Hv := keep (hv.fits hg1)
  have HD := keep hd
  clear hd hv
  unfold vwV vwCells tuCells at *
  obtain ⟨c0, c1, c2, c3, c4, c5, c6, c7, c8, c9, c10⟩ := vwres hB1
  obtain ⟨d0, d1, d2, d3, d4⟩ := tures hT1
  unfold tupV
  go_enter Tryz.func24, Tryz.ntmps24
  cases hf : t.frozen with
  | true =>
    rw [hf] at HD d2 hw1
    go_wp2_with fail
    go_ret
    rw [HD.out]
    exact ⟨rfl, by rw [← hw1]; exact hg1⟩
  | false =>
    rw [hf] at HD d2 hw1 hT1
    go_wp2_with fail
    rw [← hw1]
    refine (before_any v.m t.xmin h w1).mono ?_
    rintro e w2 ⟨rfl, hb2⟩
    have hg2 := Grow.trans hg1 hb2
    have hB2 := hB1.fits hb2
    have hT2 := hT1.fits hb2
    have hst := status_any v av rv iv t.xmin w2 (Hv.out.fits hb2)
    clear c0 c1 c2 c3 c4 c5 c6 c7 c8 c9 c10 d0 d1 d2 d3 d4 hw1 hB1 hT1 hg1 hb2
    generalize statusS v t.xmin = S at *
    have Hst := keep hst
    unfold vwV at hst
    have Hst := keep hst
    clear hst
    obtain ⟨c0, c1, c2, c3, c4, c5, c6, c7, c8, c9, c10⟩ := vwres hB2
    obtain ⟨d0, d1, d2, d3, d4⟩ := tures hT2
    cases hb : beforeB v.m t.xmin h with
    | false =>
      rw [hb] at HD
      go_wp2_with fail
      go_ret
      rw [HD.out]
      exact ⟨rfl, hg2⟩
    | true =>
      rw [hb] at HD
      go_wp2_with fail
      refine Hst.out.mono ?_
      rintro e w3 ⟨rfl, hb3⟩
      go_wp2_with fail
      go_ret
      rw [HD.out]
      exact ⟨rfl, Grow.trans hg2 hb3⟩

def goneB (v : Vw) (t : Tup) (h : Int) : Bool := (!t.frozen && statusS v t.xmin == 3) || (t.xmax != 0 && beforeB v.m t.xmax h && statusS v t.xmax == 2)

set_option maxRecDepth 100000 in
set_option maxHeartbeats 1000000 in
theorem gone_any (v : Vw) (av rv iv : Value) (t : Tup) (h : Int) (w : World) (hv : VwIn w v av rv iv) :
    Calls Tryz.prog 23 #[vwV v av rv iv, tupV t, .int .i64 h] w fun e w' => e = .returned (.bool (goneB v t h)) ∧ Below w.heap.size w w' := by
  obtain ⟨w1, hw1⟩ : ∃ w1, w1 = (w.alloc (.cells (vwCells v av rv iv).toArray 32)).alloc (.cells (tuCells t).toArray 61) := ⟨_, rfl⟩
  have hg1 : Grow w w1 := by subst hw1; exact ((Grow.refl w).alloc _).alloc _
  have hB1 : Blk w1 w.heap.size 32 (vwCells v av rv iv) := by subst hw1; exact (Blk.new w _ _).alloc _
  have hT1 : Blk w1 (w.heap.size + 1) 61 (tuCells t) := by
    have := Blk.new (w.alloc (.cells (vwCells v av rv iv).toArray 32)) 61 (tuCells t)
    have e : (w.alloc (.cells (vwCells v av rv iv).toArray 32)).heap.size = w.heap.size + 1 := by simp
    rw [e] at this
    subst hw1; exact this
  have hd : goneB v t h = ((!t.frozen && ((statusS v t.xmin : Int) == 3)) || ((t.xmax : Int) != 0 && beforeB v.m t.xmax h && ((statusS v t.xmax : Int) == 2))) := by
    unfold goneB; rw [i64_ne0, show (2 : Int) = ((2 : Nat) : Int) from rfl, u8_eq, show (3 : Int) = ((3 : Nat) : Int) from rfl, u8_eq]
  have Hv := keep (hv.fits hg1)
  have HD := keep hd
  clear hd hv
  unfold vwV vwCells tuCells at *
  obtain ⟨c0, c1, c2, c3, c4, c5, c6, c7, c8, c9, c10⟩ := vwres hB1
  obtain ⟨d0, d1, d2, d3, d4⟩ := tures hT1
  unfold tupV
  go_enter Tryz.func23, Tryz.ntmps23
  have Hv1 := Hv
  cases hf : t.frozen with
  | true =>
    rw [hf] at HD d2 hw1
    cases hx : ((t.xmax : Int) != 0) with
    | false =>
      rw [hx] at HD
      go_wp2_with fail
      go_ret
      rw [HD.out]
      exact ⟨by simp, by rw [← hw1]; exact hg1⟩
    | true =>
      rw [hx] at HD
      go_wp2_with fail
      rw [← hw1]
      refine (before_any v.m t.xmax h w1).mono ?_
      rintro e v2 ⟨rfl, hb2⟩
      have hgB := Grow.trans hg1 hb2
      have hBB := hB1.fits hb2
      have hTB := hT1.fits hb2
      have hst := status_any v av rv iv t.xmax v2 (Hv1.out.fits hb2)
      clear c0 c1 c2 c3 c4 c5 c6 c7 c8 c9 c10 d0 d1 d2 d3 d4
      generalize statusS v t.xmax = S at *
      unfold vwV at hst
      have Hst := keep hst
      clear hst
      obtain ⟨c0, c1, c2, c3, c4, c5, c6, c7, c8, c9, c10⟩ := vwres hBB
      obtain ⟨d0, d1, d2, d3, d4⟩ := tures hTB
      cases hb : beforeB v.m t.xmax h with
      | false =>
        rw [hb] at HD
        go_wp2_with fail
        go_ret
        rw [HD.out]
        exact ⟨by simp, hgB⟩
      | true =>
        rw [hb] at HD
        go_wp2_with fail
        refine Hst.out.mono ?_
        rintro e w3 ⟨rfl, hb3⟩
        go_wp2_with fail
        go_ret
        rw [HD.out]
        exact ⟨by simp, Grow.trans hgB hb3⟩
  | false =>
    rw [hf] at HD d2 hw1 hT1
    have hst := status_any v av rv iv t.xmin w1 Hv.out
    generalize statusS v t.xmin = S1 at *
    unfold vwV at hst
    have Hst := keep hst
    clear hst
    go_wp2_with fail
    rw [← hw1]
    refine Hst.out.mono ?_
    rintro e w2 ⟨rfl, hb2'⟩
    have hg2 := Grow.trans hg1 hb2'
    have hB2 := hB1.fits hb2'
    have hT2 := hT1.fits hb2'
    have Hv2 := keep (Hv.out.fits hb2')
    clear c0 c1 c2 c3 c4 c5 c6 c7 c8 c9 c10 d0 d1 d2 d3 d4 hw1 hB1 hT1 hg1 hb2' Hst
    obtain ⟨c0, c1, c2, c3, c4, c5, c6, c7, c8, c9, c10⟩ := vwres hB2
    obtain ⟨d0, d1, d2, d3, d4⟩ := tures hT2
    cases hs : ((S1 : Int) == 3) with
    | true =>
      rw [hs] at HD
      go_wp2_with fail
      go_ret
      rw [HD.out]
      exact ⟨by simp, hg2⟩
    | false =>
      rw [hs] at HD
      cases hx : ((t.xmax : Int) != 0) with
      | false =>
        rw [hx] at HD
        go_wp2_with fail
        go_ret
        rw [HD.out]
        exact ⟨by simp, hg2⟩
      | true =>
        rw [hx] at HD
        go_wp2_with fail
        refine (before_any v.m t.xmax h w2).mono ?_
        rintro e v2 ⟨rfl, hb2⟩
        have hgB := Grow.trans hg2 hb2
        have hBB := hB2.fits hb2
        have hTB := hT2.fits hb2
        have hst := status_any v av rv iv t.xmax v2 (Hv2.out.fits hb2)
        clear c0 c1 c2 c3 c4 c5 c6 c7 c8 c9 c10 d0 d1 d2 d3 d4
        generalize statusS v t.xmax = S at *
        unfold vwV at hst
        have Hst := keep hst
        clear hst
        obtain ⟨c0, c1, c2, c3, c4, c5, c6, c7, c8, c9, c10⟩ := vwres hBB
        obtain ⟨d0, d1, d2, d3, d4⟩ := tures hTB
        cases hb : beforeB v.m t.xmax h with
        | false =>
          rw [hb] at HD
          go_wp2_with fail
          go_ret
          rw [HD.out]
          exact ⟨by simp, hgB⟩
        | true =>
          rw [hb] at HD
          go_wp2_with fail
          refine Hst.out.mono ?_
          rintro e w3 ⟨rfl, hb3⟩
          go_wp2_with fail
          go_ret
          rw [HD.out]
          exact ⟨by simp, Grow.trans hgB hb3⟩

end Go.Proofs.YtikmkimkhngihaaGreat
