import Derived.Test.YtaninphcgeaepaaGreatKRu2
import Derived.Test.YtaninphcgeaepaaGreatKCh2
import Derived.Test.YtaninphcgeaepaaGreatKSm1
namespace Go.Proofs.YtaninphcgeaepaaGreat
open Go.RowKit
attribute [local go_sem] givesF_none givesF_some evalF_tmp evalF_const evalF_global evalF_func lookL isB_bool isB_undef givesUpon_value givesUpon_skip givesUpon_enter
set_option maxRecDepth 100000 in
set_option maxHeartbeats 4000000 in
theorem rbeyond_any (P : Pg) (iv : Value) (e : En) (w_ : World) (hin : PgIn w_ iv P) :
  Calls Tryz.prog 29 #[pgV P iv, enV e] w_ fun x w' => x = .returned (.tuple #[.bool (beyondN P e).1, .int .i64 (beyondN P e).2]) ∧ Below w_.heap.size w_ w' := by
 have hen := fun (u : World) => rentry_any e u
 have hd : beyondN P e = if openOk P && enOk e then (bdN P && decide (0 < cmpE e (hiN P)), 0) else (false, 140) := rfl
 have hdh := hiN_dec P
 have hde := fun (u : World) => rdecode_any P.high u (by have := hin.2.2.1; omega)
 generalize hX : beyondN P e = X at *
 obtain ⟨xb, xc⟩ := X
 dsimp only
 obtain ⟨k, p, s⟩ := e
 obtain ⟨w0, hw0⟩ : ∃ w0, w0 = ((w_.alloc (.cells (pgCells P iv).toArray 24)).alloc (.cells #[.string (str k), .int .i64 p, .int .i64 s] 41)) := ⟨_, rfl⟩
 have hg0 : Grow w_ w0 := by subst hw0; exact ((Grow.refl w_).alloc _).alloc _
 have hB0 : Blk w0 w_.heap.size 24 (pgCells P iv) := by
  have := (Blk.new w_ 24 (pgCells P iv)).alloc (.cells #[.string (str k), .int .i64 p, .int .i64 s] 41)
  subst hw0; exact this
 have hE0 : Blk w0 (w_.heap.size + 1) 41 [.string (str k), .int .i64 p, .int .i64 s] := by
  have := Blk.new (w_.alloc (.cells (pgCells P iv).toArray 24)) 41 [.string (str k), .int .i64 p, .int .i64 s]
  have e : (w_.alloc (.cells (pgCells P iv).toArray 24)).heap.size = w_.heap.size + 1 := by simp
  rw [e] at this
  subst hw0; exact this
 have hck := rcheck_any P iv w0 (hin.fits hg0)
 obtain ⟨hi, hs, hh, hl, hlsn⟩ := hin
 obtain ⟨ia, ic, rfl⟩ := items_form hi
 unfold pgCells at hw0 hB0
 unfold pgV enV at *
 dsimp only at hen
 generalize decN P.high = D at *
 obtain ⟨⟨hk, hp, hsl⟩, dc⟩ := D
 dsimp only at hde hdh
 rw [hdh] at hd
 have hcp := fun (u : World) => rcompare_any (k, p, s) (hk, hp, hsl) u
 unfold enV at hcp
 dsimp only at hcp
 have HCp := keep hcp
 have HCk := keep hck
 have HEn := keep hen
 have HDe := keep hde
 have HD := keep hd
 have HB0 := keep hB0
 have HE0 := keep hE0
 have HG0 := keep hg0
 obtain ⟨p0, p1, p2, p3, p4, p5, _⟩ := pgres hB0
 clear hck hen hde hd hB0 hE0 hg0 hi hs hcp hdh hX
 go_enter Tryz.func29, Tryz.ntmps29
 go_upto_region 1 with fail
 rw [← hw0]
 clear hw0
 go_wp2_with fail
 refine HCk.out.mono ?_
 rintro x w1 ⟨rfl, hb1⟩
 obtain ⟨e0, e1, e2, _⟩ := enres (HE0.out.fits hb1)
 clear p0 p1 p2 p3 p4 p5
 cases hO : openOk P with
 | false =>
  have hx := HD.out
  rw [hO, Bool.false_and, if_neg (by decide)] at hx
  simp only [Prod.mk.injEq] at hx
  obtain ⟨rfl, rfl⟩ := hx
  simp only [Bool.false_eq_true, if_false]
  clear hO HD
  go_wp2_with fail
  go_ret2
  exact ⟨rfl, Grow.trans HG0.out hb1⟩
 | true =>
  simp only [if_true]
  have hx := HD.out
  rw [hO, Bool.true_and] at hx
  clear hO HD
  go_wp2_with fail
  refine (HEn.out w1).mono ?_
  rintro x w2 ⟨rfl, hb2⟩
  cases hA : enOk (k, p, s) with
  | false =>
   rw [hA, if_neg (by decide)] at hx
   simp only [Prod.mk.injEq] at hx
   obtain ⟨rfl, rfl⟩ := hx
   clear hA
   go_wp2_with fail
   go_ret2
   exact ⟨rfl, Grow.trans HG0.out (Grow.trans hb1 hb2)⟩
  | true =>
   rw [hA, if_pos rfl] at hx
   simp only [Prod.mk.injEq] at hx
   obtain ⟨hxb, rfl⟩ := hx
   have HXb := keep hxb
   have HB2 := keep (HB0.out.fits (Grow.trans hb1 hb2))
   have HE2 := keep (HE0.out.fits (Grow.trans hb1 hb2))
   have HG2 := keep (Grow.trans HG0.out (Grow.trans hb1 hb2))
   obtain ⟨p0, p1, p2, p3, p4, p5, _⟩ := pgres HB2.out
   clear hA hxb hb1 hb2 e0 e1 e2
   go_wp2_with fail
   refine (HDe.out w2).mono ?_
   rintro x w3 ⟨rfl, hb3⟩
   go_upto_region 4 with fail
   obtain ⟨w4, hw4⟩ : ∃ w4, w4 = w3.alloc (.cells #[.string (str hk), .int .i64 hp, .int .i64 hsl] 41) := ⟨_, rfl⟩
   have hb4 : Grow w2 w4 := by subst hw4; exact Grow.alloc hb3 _
   have hH4 : Blk w4 w3.heap.size 41 [.string (str hk), .int .i64 hp, .int .i64 hsl] := by subst hw4; exact Blk.new w3 _ [_, _, _]
   rw [← hw4]
   clear hw4 hb3 p0 p1 p2 p3 p4 p5
   obtain ⟨p0, p1, p2, p3, p4, p5, _⟩ := pgres (HB2.out.fits hb4)
   obtain ⟨e0, e1, e2, _⟩ := enres (HE2.out.fits hb4)
   obtain ⟨d0, d1, d2, _⟩ := enres hH4
   by_cases q1 : P.high = []
   ·have q1' : (str P.high).toList.isEmpty = true := by rw [str_list, q1]; rfl
    have Q1 := keep (show bdN P = false from decide_eq_false fun h => h q1)
    clear q1
    go_wp2_with fail
    go_ret2
    rw [HXb.out, Q1.out]
    exact ⟨rfl, Grow.trans HG2.out hb4⟩
   ·have q1' : (str P.high).toList.isEmpty = false := by rw [str_list]; simpa using q1
    have Q1 := keep (show bdN P = true from decide_eq_true q1)
    clear q1
    go_wp2_with fail
    refine (HCp.out w4).mono ?_
    rintro x w5 ⟨rfl, hb5⟩
    go_wp2_with fail
    go_ret2
    rw [HXb.out, Q1.out, Bool.true_and]
    exact ⟨rfl, Grow.trans HG2.out (Grow.trans hb4 hb5)⟩
end Go.Proofs.YtaninphcgeaepaaGreat
