import Derived.Test.YtaninphcgeaepaaGreatKRd2
import Derived.Test.YtaninphcgeaepaaGreatKSm1
import Derived.Deep.CutRange
namespace Go.Proofs.YtaninphcgeaepaaGreat
open Go.RowKit
set_option maxRecDepth 100000 in
set_option maxHeartbeats 4000000 in
theorem rroot_any (lv left : Int) (e : En) (right : Int) (w_ : World) :
  Calls Tryz.prog 30 #[.int .i64 lv, .int .i64 left, enV e, .int .i64 right] w_ (PgPost (rootN lv left e right).1 (rootN lv left e right).2 w_) := by
 obtain ⟨k, p, s⟩ := e
 obtain ⟨w0, hw0⟩ : ∃ w0, w0 = ((w_.alloc (.cells #[.string (str k), .int .i64 p, .int .i64 s] 41)).alloc (.cells #[.int .i64 0, .int .i64 0, .int .i64 0, .int .i64 0, .string ⟨#[]⟩, .slice none 0 0] 24)) := ⟨_, rfl⟩
 have hg0 : Grow w_ w0 := by subst hw0; exact ((Grow.refl w_).alloc _).alloc _
 have hE0 : Blk w0 w_.heap.size 41 [.string (str k), .int .i64 p, .int .i64 s] := by
  have := (Blk.new w_ 41 [.string (str k), .int .i64 p, .int .i64 s]).alloc (.cells #[.int .i64 0, .int .i64 0, .int .i64 0, .int .i64 0, .string ⟨#[]⟩, .slice none 0 0] 24)
  subst hw0; exact this
 have hR0 : Blk w0 (w_.heap.size + 1) 24 [.int .i64 0, .int .i64 0, .int .i64 0, .int .i64 0, .string ⟨#[]⟩, .slice none 0 0] := by
  have := Blk.new (w_.alloc (.cells #[.string (str k), .int .i64 p, .int .i64 s] 41)) 24 [.int .i64 0, .int .i64 0, .int .i64 0, .int .i64 0, .string ⟨#[]⟩, .slice none 0 0]
  have e : (w_.alloc (.cells #[.string (str k), .int .i64 p, .int .i64 s] 41)).heap.size = w_.heap.size + 1 := by simp
  rw [e] at this
  subst hw0; exact this
 have hzR := hR0.lt
 have hie := fun u => rentry_any (k, p, s) u
 have hi2 := fun u => rchild_any left u
 have hi3 := fun u => rchild_any right u
 have hd : rootN lv left (k, p, s) right = if inB lv 1 255 && (enOk (k, p, s) && (inB left 1 65535 && inB right 1 65535)) then (⟨0, 3, lv, 0, [], [enBytes leastE [left], enBytes (k, p, s) [right]]⟩, 0) else (zeroP, 140) := rfl
 have hb1 := fun (u : World) => rsep_any leastE left u
 have hb2 := fun (u : World) => rsep_any (k, p, s) right u
 have hs1 : inB left 1 65535 = true → sepN leastE left = (enBytes leastE [left], 0) := fun h => by
  unfold sepN
  rw [h, decide_eq_true rfl]
  rfl
 have hs2 : enOk (k, p, s) = true → inB right 1 65535 = true → sepN (k, p, s) right = (enBytes (k, p, s) [right], 0) := fun h h2 => by
  unfold sepN
  rw [h2, h]
  simp
 unfold enV at hie hb1 hb2
 dsimp only at hie hb1 hb2
 change ∀ u, Calls Tryz.prog _ #[.agg #[.string ⟨#[]⟩, .int .i64 0, .int .i64 0], .int .i64 left] u _ at hb1
 generalize sepN leastE left = Z1 at *
 generalize sepN (k, p, s) right = Z2 at *
 generalize hA2 : enOk (k, p, s) = A2 at *
 generalize hA3 : inB left 1 65535 = A3 at *
 generalize hA4 : inB right 1 65535 = A4 at *
 generalize enBytes leastE [left] = Y1 at *
 generalize enBytes (k, p, s) [right] = Y2 at *
 obtain ⟨z1, e1_⟩ := Z1
 obtain ⟨z2, e2_⟩ := Z2
 dsimp only at hb1 hb2
 have HIe := keep hie
 have HI2 := keep hi2
 have HI3 := keep hi3
 have HD := keep hd
 have HY1 := keep hb1
 have HY2 := keep hb2
 have HS1 := keep hs1
 have HS2 := keep hs2
 have HE0 := keep hE0
 have HR0 := keep hR0
 have HG0 := keep hg0
 obtain ⟨e0, e1, e2, _⟩ := enres hE0
 clear hie hi2 hi3 hd hb1 hb2 hs1 hs2 hE0 hR0 hg0 hA2 hA3 hA4
 unfold enV
 go_enter Tryz.func30, Tryz.ntmps30
 go_upto_region 1 with fail
 rw [← hw0]
 clear hw0
 go_cut [34] from 14 to 34 (fun sv wx => sv = .bool (!(inB lv 1 255 && (A2 && (A3 && A4)))) ∧ Grow w0 wx)
 case first =>
  by_cases q1 : lv < 1
  ·have Q := keep (show inB lv 1 255 = false by simp [inB]; omega)
   go_wp2_with fail
   all_goals go_meet
   all_goals (case rel => exact ⟨by rw [Q.out]; rfl, Grow.refl _⟩)
  ·by_cases q2 : 255 < lv
   ·have Q := keep (show inB lv 1 255 = false by simp [inB]; omega)
    go_wp2_with fail
    all_goals go_meet
    all_goals (case rel => exact ⟨by rw [Q.out]; rfl, Grow.refl _⟩)
   ·have Q := keep (show inB lv 1 255 = true by simp [inB]; omega)
    go_wp2_with fail
    refine (HIe.out w0).mono ?_
    rintro x w1 ⟨rfl, hb1⟩
    cases A2 with
    | false =>
     go_wp2_with fail
     all_goals go_meet
     all_goals (case rel => exact ⟨by rw [Q.out]; rfl, hb1⟩)
    | true =>
     go_wp2_with fail
     refine (HI2.out w1).mono ?_
     rintro x w2 ⟨rfl, rfl⟩
     cases A3 with
     | false =>
      go_wp2_with fail
      all_goals go_meet
      all_goals (case rel => exact ⟨by rw [Q.out]; rfl, hb1⟩)
     | true =>
      go_wp2_with fail
      refine (HI3.out w1).mono ?_
      rintro x w2 ⟨rfl, rfl⟩
      go_wp2_with fail
      all_goals go_meet
      all_goals (case rel => exact ⟨by rw [Q.out]; rfl, hb1⟩)
 case rest =>
  obtain ⟨rfl, hg3⟩ := hcut
  clear e0 e1 e2
  generalize wc = w3 at *
  have HG3 := keep hg3
  have HGW := keep (Grow.trans HG0.out hg3)
  clear hg3
  have hd := HD.out
  generalize inB lv 1 255 = A1 at *
  generalize hM : (A1 && (A2 && (A3 && A4))) = M at *
  cases M with
  | false =>
   have HNo := keep (show rootN lv left (k, p, s) right = (zeroP, 140) from hd)
   clear hd hM
   have hR := HR0.out.fits HG3.out
   have Hset := keep (pgset hR (.int .i64 0) (.int .i64 0) (.int .i64 0) (.int .i64 0) (.string ⟨#[]⟩) (.slice none 0 0))
   have Hbut := keep (pgbut w3 (w_.heap.size + 1) (.int .i64 0) (.int .i64 0) (.int .i64 0) (.int .i64 0) (.string ⟨#[]⟩) (.slice none 0 0))
   have hlt2 := hR.lt
   obtain ⟨r0, r1, r2, r3, r4, r5, f0, f1, f2, f3, f4, f5⟩ := pgres hR
   clear hR
   go_wp2_with fail
   rw [HNo.out]
   refine bodyPost_ret (v := .tuple #[pgV zeroP (.slice none 0 0), .int .i64 140]) ?_ rfl ⟨_, rfl, ItemsC.nil _, But.below HGW.out Hbut.out (by omega) (by omega)⟩
   obtain ⟨s0, s1, s2, s3, s4, s5, _⟩ := pgres Hset.out
   simp [results, Tryz.results30, go_sem, s0, s1, s2, s3, s4, s5, pgV, zeroP]
   try rfl
  | true =>
   have hAs : A1 = true ∧ A2 = true ∧ A3 = true ∧ A4 = true := by simpa using hM
   obtain ⟨rfl, rfl, rfl, rfl⟩ := hAs
   have HYes := keep (show rootN lv left (k, p, s) right = (⟨0, 3, lv, 0, [], [Y1, Y2]⟩, 0) from hd)
   have hs1 := HS1.out rfl
   have hs2 := HS2.out rfl rfl
   simp only [Prod.mk.injEq] at hs1 hs2
   obtain ⟨rfl, rfl⟩ := hs1
   obtain ⟨rfl, rfl⟩ := hs2
   clear hd hM HS1 HS2
   go_wp2_with fail
   refine (HY1.out w3).mono ?_
   rintro x w4 ⟨rfl, hb4⟩
   obtain ⟨e0, e1, e2, _⟩ := enres (HE0.out.fits (Grow.trans HG3.out hb4))
   go_wp2_with fail
   refine (HY2.out w4).mono ?_
   rintro x w5 ⟨rfl, hb5⟩
   have hgw := Grow.trans hb4 hb5
   have hR := HR0.out.fits (Grow.trans HG3.out hgw)
   have hbb := Grow.trans HGW.out hgw
   go_upto_region 5 with fail
   obtain ⟨wS, hwS⟩ : ∃ wS, wS = ((((((w5.setCell ⟨w_.heap.size + 1, 0, none⟩ (.int .i64 0)).setCell ⟨w_.heap.size + 1, 1, none⟩ (.int .i64 3)).setCell ⟨w_.heap.size + 1, 2, none⟩ (.int .i64 lv)).setCell ⟨w_.heap.size + 1, 3, none⟩ (.int .i64 0)).setCell ⟨w_.heap.size + 1, 4, none⟩ (.string ⟨#[]⟩)).setCell ⟨w_.heap.size + 1, 5, none⟩ (.slice (some ⟨w5.heap.size, 0, none⟩) 2 2)) := ⟨_, rfl⟩
   have hset : Blk wS (w_.heap.size + 1) 24 [.int .i64 0, .int .i64 3, .int .i64 lv, .int .i64 0, .string ⟨#[]⟩, .slice (some ⟨w5.heap.size, 0, none⟩) 2 2] := by subst hwS; exact pgset hR _ _ _ _ _ _
   have hbut : But (w_.heap.size + 1) w5 wS := by subst hwS; exact pgbut w5 _ _ _ _ _ _ _
   have hsz : wS.heap.size = w5.heap.size := by subst hwS; simp
   have hit : ItemsC (wS.alloc (.cells #[.string (str z1), .string (str z2)] 9)) (.slice (some ⟨w5.heap.size, 0, none⟩) 2 2) [z1, z2] := by
    have := two_items wS z1 z2
    rw [hsz] at this
    exact this
   have hlt2 := hR.lt
   have hbl := But.below hbb hbut (by omega) (by omega)
   have Hfin := keep (hset.alloc (.cells #[.string (str z1), .string (str z2)] 9))
   have Hit := keep hit
   have Hbl := keep (Below.alloc hbl (by rw [hsz]; omega) (.cells #[.string (str z1), .string (str z2)] 9))
   obtain ⟨r0, r1, r2, r3, r4, r5, f0, f1, f2, f3, f4, f5⟩ := pgres hR
   have hne : w_.heap.size + 1 ≠ w5.heap.size := by omega
   clear e0 e1 e2 hb4 hb5 hgw hR hbb hit hset hbut hsz hbl
   go_wp2_with fail
   rw [← hwS, HYes.out]
   refine bodyPost_ret (v := .tuple #[pgV ⟨0, 3, lv, 0, [], [z1, z2]⟩ (.slice (some ⟨w5.heap.size, 0, none⟩) 2 2), .int .i64 0]) ?_ rfl ⟨_, rfl, Hit.out, Hbl.out⟩
   obtain ⟨s0, s1, s2, s3, s4, s5, _⟩ := pgres Hfin.out
   simp [results, Tryz.results30, go_sem, s0, s1, s2, s3, s4, s5, pgV]
   rfl
end Go.Proofs.YtaninphcgeaepaaGreat
