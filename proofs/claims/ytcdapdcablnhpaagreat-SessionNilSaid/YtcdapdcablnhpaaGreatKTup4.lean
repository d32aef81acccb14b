import Derived.Test.YtcdapdcablnhpaaGreatKSnap1
import Derived.Test.YtcdapdcablnhpaaGreatKTup3
namespace Go.Proofs.YtcdapdcablnhpaaGreat
open Go.RowKit
structure Vw where
 m : Int
 next : Int
 active : List Int
 own : Int
 running : List Int
 clog : Pg
def vwV (v : Vw) (av rv iv : Value) : Value := .agg #[.int .i64 v.m, .int .i64 v.next, av, .int .i64 v.own, rv, .int .i64 v.clog.lsn, .int .i64 v.clog.kind, .int .i64 v.clog.level, .int .i64 v.clog.right, .string (str v.clog.high), iv]
def vwCells (v : Vw) (av rv iv : Value) : List Value := [.int .i64 v.m, .int .i64 v.next, av, .int .i64 v.own, rv, .int .i64 v.clog.lsn, .int .i64 v.clog.kind, .int .i64 v.clog.level, .int .i64 v.clog.right, .string (str v.clog.high), iv]
structure VwIn (w : World) (v : Vw) (av rv iv : Value) : Prop where
 act : Ints w av v.active
 run : Ints w rv v.running
 items : Items w iv v.clog.items
 actl : (v.active.length : Int) ≤ 70368744177664
 runl : (v.running.length : Int) ≤ 70368744177664
 itemsl : (v.clog.items.length : Int) ≤ 70368744177664
 texts : ∀ x ∈ v.clog.items, (x.length : Int) ≤ 9223372036854775807
theorem VwIn.fits {w w' : World} {v : Vw} {av rv iv : Value} (h : VwIn w v av rv iv) (k : Below w.heap.size w w') : VwIn w' v av rv iv :=
 ⟨h.act.fits k, h.run.fits k, Row.fits h.items k, h.actl, h.runl, h.itemsl, h.texts⟩
def statusS (v : Vw) (x : Int) : Nat := if v.running.contains x then 1 else (getS v.m v.clog x).1
theorem getS_err {m : Int} {p : Pg} {x : Int} (h : (getS m p x).2 ≠ 0) : (getS m p x).1 = 0 := by
 unfold getS at *
 split at h
 ·split at h
  ·exact absurd rfl h
  ·rename_i h1 h2; simp [h1, h2]
 ·rename_i h1; simp [h1]
set_option maxRecDepth 100000 in
set_option maxHeartbeats 1000000 in
theorem status_any (v : Vw) (av rv iv : Value) (x : Int) (w : World) (hv : VwIn w v av rv iv) :
  Calls Tryz.prog 246 #[vwV v av rv iv, .int .i64 x] w fun e w' => e = .returned (.int .u8 (statusS v x)) ∧ Below w.heap.size w w' := by
 obtain ⟨w0, hw0⟩ : ∃ w0, w0 = w.alloc (.cells (vwCells v av rv iv).toArray 40) := ⟨_, rfl⟩
 have hg0 : Grow w w0 := by subst hw0; exact (Grow.refl w).alloc _
 have hB0 : Blk w0 w.heap.size 40 (vwCells v av rv iv) := by subst hw0; exact Blk.new w _ _
 have hc := contains_any rv v.running x w0 (hv.run.fits hg0) hv.runl
 have hit := hv.items
 have hd : statusS v x = if v.running.contains x then 1 else (getS v.m v.clog x).1 := rfl
 obtain ⟨iva, ivc, rfl⟩ := items_form hv.items
 obtain ⟨rva, rvc, rfl, _⟩ := ints_form hv.run
 obtain ⟨ava, avc, rfl, _⟩ := ints_form hv.act
 have ht := hv.texts
 have HV := keep hit
 have HT := keep ht
 have HD := keep hd
 have Hc := keep hc
 clear hv hit ht hd hc
 unfold vwV vwCells at *
 have c0 := hB0.cell 0 (by simp)
 have c1 := hB0.cell 1 (by simp)
 have c2 := hB0.cell 2 (by simp)
 have c3 := hB0.cell 3 (by simp)
 have c4 := hB0.cell 4 (by simp)
 have c5 := hB0.cell 5 (by simp)
 have c6 := hB0.cell 6 (by simp)
 have c7 := hB0.cell 7 (by simp)
 have c8 := hB0.cell 8 (by simp)
 have c9 := hB0.cell 9 (by simp)
 have c10 := hB0.cell 10 (by simp)
 go_enter Tryz.func246, Tryz.ntmps246
 go_wp2_with fail
 rw [← hw0]
 refine Hc.out.mono ?_
 rintro e w1 ⟨rfl, hb1⟩
 have hg1 := Grow.trans hg0 hb1
 have hB1 := hB0.fits hb1
 clear hw0 c0 c1 c2 c3 c4 c5 c6 c7 c8 c9 c10 hB0 hb1 hg0
 cases hx : v.running.contains x with
 | true =>
  rw [hx] at HD
  go_wp2_with fail
  go_ret
  have := HD.out
  simp at this
  rw [this]
  exact ⟨rfl, hg1⟩
 | false =>
  rw [hx] at HD
  have c0 := hB1.cell 0 (by simp)
  have c1 := hB1.cell 1 (by simp)
  have c2 := hB1.cell 2 (by simp)
  have c3 := hB1.cell 3 (by simp)
  have c4 := hB1.cell 4 (by simp)
  have c5 := hB1.cell 5 (by simp)
  have c6 := hB1.cell 6 (by simp)
  have c7 := hB1.cell 7 (by simp)
  have c8 := hB1.cell 8 (by simp)
  have c9 := hB1.cell 9 (by simp)
  have c10 := hB1.cell 10 (by simp)
  go_wp2_with fail
  refine (get_any v.m v.clog _ x w1 (Row.fits HV.out hg1) HT.out).mono ?_
  rintro e w2 ⟨rfl, hb2⟩
  have hg2 := Grow.trans hg1 hb2
  have he := @getS_err v.m v.clog x
  have hd2 : statusS v x = (getS v.m v.clog x).1 := by have := HD.out; simpa using this
  generalize getS v.m v.clog x = G at *
  have HD2 := keep hd2
  clear c0 c1 c2 c3 c4 c5 c6 c7 c8 c9 c10 hd2 HD
  by_cases h0 : G.2 = 0
  ·have h0' : (G.2 != 0) = false := by simpa using h0
   clear he
   go_wp2_with fail
   go_ret
   rw [HD2.out]
   exact ⟨rfl, hg2⟩
  ·have h0' : (G.2 != 0) = true := by simpa using h0
   have hz := he h0
   have HZ := keep hz
   clear he hz
   go_wp2_with fail
   go_ret
   rw [HD2.out, HZ.out]
   exact ⟨rfl, hg2⟩
theorem vwres {w : World} {b t : Nat} {v0 v1 v2 v3 v4 v5 v6 v7 v8 v9 v10 : Value} (h : Blk w b t [v0, v1, v2, v3, v4, v5, v6, v7, v8, v9, v10]) :
  w.cell? ⟨b, 0, none⟩ = some v0 ∧ w.cell? ⟨b, 1, none⟩ = some v1 ∧ w.cell? ⟨b, 2, none⟩ = some v2 ∧ w.cell? ⟨b, 3, none⟩ = some v3 ∧ w.cell? ⟨b, 4, none⟩ = some v4 ∧ w.cell? ⟨b, 5, none⟩ = some v5 ∧
  w.cell? ⟨b, 6, none⟩ = some v6 ∧ w.cell? ⟨b, 7, none⟩ = some v7 ∧ w.cell? ⟨b, 8, none⟩ = some v8 ∧ w.cell? ⟨b, 9, none⟩ = some v9 ∧ w.cell? ⟨b, 10, none⟩ = some v10 :=
 ⟨h.cell 0 (by simp), h.cell 1 (by simp), h.cell 2 (by simp), h.cell 3 (by simp), h.cell 4 (by simp), h.cell 5 (by simp), h.cell 6 (by simp), h.cell 7 (by simp), h.cell 8 (by simp), h.cell 9 (by simp), h.cell 10 (by simp)⟩
theorem tures {w : World} {b t : Nat} {v0 v1 v2 v3 v4 : Value} (h : Blk w b t [v0, v1, v2, v3, v4]) :
  w.cell? ⟨b, 0, none⟩ = some v0 ∧ w.cell? ⟨b, 1, none⟩ = some v1 ∧ w.cell? ⟨b, 2, none⟩ = some v2 ∧ w.cell? ⟨b, 3, none⟩ = some v3 ∧ w.cell? ⟨b, 4, none⟩ = some v4 :=
 ⟨h.cell 0 (by simp), h.cell 1 (by simp), h.cell 2 (by simp), h.cell 3 (by simp), h.cell 4 (by simp)⟩
def tuCells (t : Tup) : List Value := [.int .i64 t.xmin, .int .i64 t.xmax, .bool t.frozen, .string (str t.key), .string (str t.val)]
end Go.Proofs.YtcdapdcablnhpaaGreat
namespace Go.Proofs.YtcdapdcablnhpaaGreat
open Go.RowKit
theorem u8_eq (n k : Nat) : ((n : Int) == (k : Int)) = (n == k) := by rw [Bool.eq_iff_iff]; simp; omega
end Go.Proofs.YtcdapdcablnhpaaGreat
namespace Go.Proofs.YtcdapdcablnhpaaGreat
open Go.RowKit
end Go.Proofs.YtcdapdcablnhpaaGreat
