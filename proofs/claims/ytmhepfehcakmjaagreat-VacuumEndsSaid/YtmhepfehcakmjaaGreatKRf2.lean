import Derived.Test.YtmhepfehcakmjaaGreatKRelk
import Derived.Test.YtmhepfehcakmjaaGreatKBits5
import Derived.Test.YtmhepfehcakmjaaGreatKBits6
import Derived.Deep.Cut
import Derived.Test.YtmhepfehcakmjaaGreatShelf
import Derived.Laws.StructEq
namespace Go.Proofs.YtmhepfehcakmjaaGreat
open Go.RowKit
abbrev En := List UInt8 × Int × Int
def enV (e : En) : Value := .agg #[.string (str e.1), .int .i64 e.2.1, .int .i64 e.2.2]
def enC (e : En) : List Value := [.string (str e.1), .int .i64 e.2.1, .int .i64 e.2.2]
def inB (n lo hi : Int) : Bool := decide (lo ≤ n) && decide (n ≤ hi)
def enOk (e : En) : Bool := inB e.1.length 1 24 && (inB e.2.1 0 65535 && inB e.2.2 0 65535)
def enBytes (e : En) (more : List Int) : List UInt8 := txt e.1 ++ sevs [e.2.1, e.2.2] ++ sevs more
theorem enres {w : World} {b t : Nat} {v0 v1 v2 : Value} (h : Blk w b t [v0, v1, v2]) :
  w.cell? ⟨b, 0, none⟩ = some v0 ∧ w.cell? ⟨b, 1, none⟩ = some v1 ∧ w.cell? ⟨b, 2, none⟩ = some v2 ∧ w.frozen? ⟨b, 0, none⟩ = false ∧ w.frozen? ⟨b, 1, none⟩ = false ∧ w.frozen? ⟨b, 2, none⟩ = false :=
 ⟨h.cell 0 (by simp), h.cell 1 (by simp), h.cell 2 (by simp), h.free 0, h.free 1, h.free 2⟩
theorem within_any (n lo hi : Int) (w : World) : Calls Tryz.prog 127 #[.int .i64 n, .int .i64 lo, .int .i64 hi] w fun e w' => e = .returned (.bool (inB n lo hi)) ∧ w = w' := by
 go_enter Tryz.func127, Tryz.ntmps127
 by_cases h1 : lo ≤ n
 ·by_cases h2 : n ≤ hi
  ·go_wp2_with fail
   go_ret
   exact ⟨by simp [inB, h1, h2], rfl⟩
  ·go_wp2_with fail
   go_ret
   exact ⟨by simp [inB, h1, h2], rfl⟩
 ·go_wp2_with fail
  go_ret
  exact ⟨by have : inB n lo hi = false := by (simp [inB]; omega)
            rw [this]; rfl, rfl⟩
theorem isChild_any (n : Int) (w : World) : Calls Tryz.prog 105 #[.int .i64 n] w fun e w' => e = .returned (.bool (inB n 1 65535)) ∧ w = w' := by
 go_enter Tryz.func105, Tryz.ntmps105
 go_wp2_with fail
 refine (within_any n 1 65535 w).mono ?_
 rintro e w' ⟨rfl, rfl⟩
 go_wp2_with fail
 go_ret
 exact ⟨rfl, rfl⟩
theorem isEntry_any (e : En) (w : World) : Calls Tryz.prog 107 #[enV e] w fun x w' => x = .returned (.bool (enOk e)) ∧ Below w.heap.size w w' := by
 obtain ⟨k, p, s⟩ := e
 obtain ⟨w0, hw0⟩ : ∃ w0, w0 = w.alloc (.cells #[.string (str k), .int .i64 p, .int .i64 s] 102) := ⟨_, rfl⟩
 have hg0 : Grow w w0 := by subst hw0; exact (Grow.refl w).alloc _
 have hB0 : Blk w0 w.heap.size 102 [.string (str k), .int .i64 p, .int .i64 s] := by subst hw0; exact Blk.new w _ [_, _, _]
 obtain ⟨c0, c1, c2, _⟩ := enres hB0
 have hd : enOk (k, p, s) = (inB k.length 1 24 && (inB p 0 65535 && inB s 0 65535)) := rfl
 have h1 := fun u => within_any (k.length : Int) 1 24 u
 have h2 := fun u => within_any p 0 65535 u
 have h3 := fun u => within_any s 0 65535 u
 generalize inB k.length 1 24 = A at *
 generalize inB p 0 65535 = B at *
 generalize inB s 0 65535 = C at *
 have HD := keep hd
 have H1 := keep h1
 have H2 := keep h2
 have H3 := keep h3
 clear hd h1 h2 h3
 unfold enV
 go_enter Tryz.func107, Tryz.ntmps107
 go_upto_region 1 with fail
 rw [← hw0]
 clear hw0
 go_wp2_with fail
 refine (H1.out w0).mono ?_
 rintro x w1 ⟨rfl, rfl⟩
 cases A with
 | false =>
  go_wp2_with fail
  go_ret
  rw [HD.out]
  exact ⟨rfl, hg0⟩
 | true =>
  go_wp2_with fail
  refine (H2.out w0).mono ?_
  rintro x w1 ⟨rfl, rfl⟩
  cases B with
  | false =>
   go_wp2_with fail
   go_ret
   rw [HD.out]
   exact ⟨rfl, hg0⟩
  | true =>
   go_wp2_with fail
   refine (H3.out w0).mono ?_
   rintro x w1 ⟨rfl, rfl⟩
   go_wp2_with fail
   go_ret
   rw [HD.out]
   exact ⟨rfl, hg0⟩
theorem least_any (w : World) : Calls Tryz.prog 106 #[] w fun x w' => x = .returned (enV ([], 0, 0)) ∧ Below w.heap.size w w' := by
 go_enter Tryz.func106, Tryz.ntmps106
 go_wp2_with fail
 refine bodyPost_ret (v := enV ([], 0, 0)) ?_ rfl ⟨rfl, (Grow.refl w).alloc _⟩
 obtain ⟨s0, s1, s2, _⟩ := enres (Blk.new w 102 [.string ⟨#[]⟩, .int .i64 0, .int .i64 0])
 simp [results, Tryz.results106, go_sem, s0, s1, s2, enV]
 try rfl
theorem wrNum_any (b : Nat) (l : List UInt8) (mv : Value) (ns : List Int) (w : World) (h : Wr w b l) (hm : IntsS w mv ns) (hb : ∀ n ∈ ns, 0 ≤ n ∧ n ≤ 9223372036854775807) (hlen : (l.length : Int) + 10 * ns.length ≤ 70368744177664) :
  Calls Tryz.prog 69 #[.pointer (some ⟨b, 0, none⟩), mv] w fun e w' => e = .returned (.tuple #[]) ∧ Wr w' b (l ++ sevs ns) ∧ Below b w w' := by
 rcases hm with ⟨h0, _, a, cap, rfl⟩ | ⟨c, off, cap, blk, f, rfl, hc, hcs⟩
 ·have : ns = [] := List.length_eq_zero_iff.1 h0
  subst this
  refine (wrNum_none b cap a w).mono ?_
  rintro e w' ⟨rfl, rfl⟩
  exact ⟨rfl, by simpa [sevs] using h, Below.refl _ _⟩
 ·refine wrNum_some b l ns c off cap blk f w h hc (fun j hj => ?_) (fun j hj => ?_) hlen
  ·rw [hcs j (by simpa using hj)]
   simp [iCells, hj]
  ·rw [List.getD_eq_getElem?_getD, List.getElem?_eq_getElem hj]
   exact hb _ (List.getElem_mem hj)
def enFine (e : En) : Prop := e.1.length ≤ 24 ∧ (0 ≤ e.2.1 ∧ e.2.1 ≤ 65535) ∧ (0 ≤ e.2.2 ∧ e.2.2 ≤ 65535)
theorem enOk_fine {e : En} (h : enOk e = true) : enFine e := by
 simp only [enOk, inB, Bool.and_eq_true, decide_eq_true_eq] at h
 unfold enFine
 omega
set_option maxRecDepth 100000 in
set_option maxHeartbeats 1000000 in
theorem bytes_any (e : En) (mv : Value) (more : List Int) (w : World) (he : enFine e) (hm : IntsS w mv more) (hb : ∀ n ∈ more, 0 ≤ n ∧ n ≤ 9223372036854775807) (hl : more.length ≤ 1000) :
  Calls Tryz.prog 111 #[enV e, mv] w fun x w' => x = .returned (.string (str (enBytes e more))) ∧ Below w.heap.size w w' := by
 obtain ⟨k, p, s⟩ := e
 obtain ⟨h24, ⟨hp0, hp1⟩, hs0, hs1⟩ := he
 dsimp only at h24 hp0 hp1 hs0 hs1
 obtain ⟨w0, hw0⟩ : ∃ w0, w0 = w.alloc (.cells #[.string (str k), .int .i64 p, .int .i64 s] 102) := ⟨_, rfl⟩
 have hg0 : Grow w w0 := by subst hw0; exact (Grow.refl w).alloc _
 have hB0 : Blk w0 w.heap.size 102 [.string (str k), .int .i64 p, .int .i64 s] := by subst hw0; exact Blk.new w _ [_, _, _]
 obtain ⟨ma, mc, hmv⟩ : ∃ a c, mv = .slice a more.length c := by
  rcases hm with ⟨h0, _, a, cap, rfl⟩ | ⟨c, off, cap, blk, f, rfl, hc, hcs⟩
  ·exact ⟨a, cap, by rw [h0]⟩
  ·exact ⟨_, _, rfl⟩
 subst hmv
 have HM := keep hm
 have HBd := keep hb
 have Hl := keep hl
 have hd : enBytes (k, p, s) more = txt k ++ (sevs [p, s] ++ sevs more) := List.append_assoc _ _ _
 have HD := keep hd
 clear hm hb hl hd
 unfold enV
 go_enter Tryz.func111, Tryz.ntmps111
 go_upto_region 1 with fail
 rw [← hw0]
 clear hw0
 go_wp2_with fail
 refine (wrNew w0).mono ?_
 rintro x w1 ⟨rfl, hW1, hb1⟩
 have hB1 := hB0.fits hb1
 have hg1 := Grow.trans hg0 hb1
 have hlt := hB0.lt
 obtain ⟨c0, c1, c2, _⟩ := enres hB1
 go_wp2_with fail
 refine (wrText _ _ _ _ hW1 (by simp; omega)).mono ?_
 rintro x w2 ⟨rfl, hW2, hb2⟩
 simp only [str_toList] at hW2
 have hB2 := hB1.below hb2 hlt
 have hg2 : Grow w w2 := Below.trans hg1 (hb2.mono (by omega))
 clear c0 c1 c2 hB0 hB1 hW1 hb1 hb2 hg1
 obtain ⟨c0, c1, c2, _⟩ := enres hB2
 go_wp2_with fail
 have hlt2 := hW2.lt
 refine (wrNum_some w0.heap.size ([] ++ txt k) [p, s] w2.heap.size 0 2 #[.int .i64 p, .int .i64 s] (0, 0) (w2.alloc (.cells #[.int .i64 p, .int .i64 s] 3)) (hW2.alloc _) (by show (w2.heap.push _)[_]? = _; simp)
  (by intro j hj; match j, hj with
      | 0, _ => rfl
      | 1, _ => rfl) (by intro j hj; match j, hj with
      | 0, _ => simp; omega
      | 1, _ => simp; omega) (by have := sev_length k.length; simp [txt]; omega)).mono ?_
 rintro x w3 ⟨rfl, hW3, hb3⟩
 have hg3 : Grow w w3 := Below.trans (hg2.alloc _) (hb3.mono (by omega))
 have hm3 : IntsS w3 (.slice ma more.length mc) more := RowS.fits HM.out hg3
 clear c0 c1 c2 hB2 hW2 hb3 hg2
 go_wp2_with fail
 refine (wrNum_any _ _ _ _ w3 hW3 hm3 HBd.out (by have := sev_length k.length; have := sevs_length [p, s]; have := Hl.out; simp [txt] at *; omega)).mono ?_
 rintro x w4 ⟨rfl, hW4, hb4⟩
 have hg4 : Grow w w4 := Below.trans hg3 (hb4.mono (by omega))
 clear hm3 hW3 hb4 hg3
 go_wp2_with fail
 refine (wrBytes _ _ _ hW4).mono ?_
 rintro x w5 ⟨rfl, rfl⟩
 go_wp2_with fail
 go_ret
 rw [HD.out]
 exact ⟨rfl, hg4⟩
def leastE : En := ([], 0, 0)
theorem none_ints (w : World) : IntsS w (.slice none 0 0) [] := RowS.nil _ _ _ _
theorem one_ints (w : World) (n : Int) : IntsS (w.alloc (.cells #[.int .i64 n] 3)) (.slice (some ⟨w.heap.size, 0, none⟩) 1 1) [n] :=
 RowS.blk (Blk.new w 3 [.int .i64 n]) 1 1 _ 0 (by intro j hj; rw [Nat.zero_add]; rfl)
end Go.Proofs.YtmhepfehcakmjaaGreat
namespace Go.Proofs.YtmhepfehcakmjaaGreat
open Go.RowKit
def or3 (a b c : Int) : Int := if a ≠ 0 then a else if b ≠ 0 then b else c
set_option maxRecDepth 100000 in
set_option maxHeartbeats 1000000 in
theorem or_any (b cap : Nat) (x y z : Int) (w : World) (h : Blk w b 3 [.int .i64 x, .int .i64 y, .int .i64 z]) :
  Calls Tryz.prog 129 #[.slice (some ⟨b, 0, none⟩) 3 cap] w fun e w' => e = .returned (.int .i64 (or3 x y z)) ∧ w = w' := by
 obtain ⟨c0, c1, c2, _⟩ := enres h
 by_cases hx : x = 0
 ·subst hx
  by_cases hy : y = 0
  ·subst hy
   by_cases hz : z = 0
   ·subst hz
    go_enter Tryz.func129, Tryz.ntmps129
    go_wp2_with fail
    refine wp_loop_rounds 4 ?_
    rw [rounds_succ]
    go_wp2_with fail
    rw [rounds_succ]
    go_wp2_with fail
    rw [rounds_succ]
    go_wp2_with fail
    rw [rounds_succ]
    go_wp2_with fail
    go_ret
    exact ⟨rfl, rfl⟩
   ·have qz : (z != 0) = true := by simp [hz]
    have hd : or3 0 0 z = z := by simp [or3]
    rw [hd]
    clear hd hz
    go_enter Tryz.func129, Tryz.ntmps129
    go_wp2_with fail
    refine wp_loop_rounds 3 ?_
    rw [rounds_succ]
    go_wp2_with fail
    rw [rounds_succ]
    go_wp2_with fail
    rw [rounds_succ]
    go_wp2_with fail
    go_ret
    exact ⟨rfl, rfl⟩
  ·have qy : (y != 0) = true := by simp [hy]
   have hd : or3 0 y z = y := by simp [or3, hy]
   rw [hd]
   clear hd hy
   go_enter Tryz.func129, Tryz.ntmps129
   go_wp2_with fail
   refine wp_loop_rounds 2 ?_
   rw [rounds_succ]
   go_wp2_with fail
   rw [rounds_succ]
   go_wp2_with fail
   go_ret
   exact ⟨rfl, rfl⟩
 ·have qx : (x != 0) = true := by simp [hx]
  have hd : or3 x y z = x := by simp [or3, hx]
  rw [hd]
  clear hd hx
  go_enter Tryz.func129, Tryz.ntmps129
  go_wp2_with fail
  refine wp_loop_rounds 1 ?_
  rw [rounds_succ]
  go_wp2_with fail
  go_ret
  exact ⟨rfl, rfl⟩
end Go.Proofs.YtmhepfehcakmjaaGreat
namespace Go.Proofs.YtmhepfehcakmjaaGreat
open Go.RowKit
attribute [local go_sem] gives givesUpon_value givesUpon_skip givesUpon_enter
def cmpE (a b : En) : Int := or3 (Lib.compareBytes a.1 b.1) (Lib.compareInt a.2.1 b.2.1) (Lib.compareInt a.2.2 b.2.2)
set_option maxRecDepth 100000 in
set_option maxHeartbeats 2000000 in
theorem compare_any (a b : En) (w_ : World) : Calls Tryz.prog 109 #[enV a, enV b] w_ fun x w' => x = .returned (.int .i64 (cmpE a b)) ∧ Below w_.heap.size w_ w' := by
 obtain ⟨k1, p1, s1⟩ := a
 obtain ⟨k2, p2, s2⟩ := b
 have hd : cmpE (k1, p1, s1) (k2, p2, s2) = or3 (Lib.compareBytes k1 k2) (Lib.compareInt p1 p2) (Lib.compareInt s1 s2) := rfl
 rw [hd]
 clear hd
 obtain ⟨w0, hw0⟩ : ∃ w0, w0 = (w_.alloc (.cells #[.string (str k1), .int .i64 p1, .int .i64 s1] 102)).alloc (.cells #[.string (str k2), .int .i64 p2, .int .i64 s2] 102) := ⟨_, rfl⟩
 have hg0 : Grow w_ w0 := by subst hw0; exact ((Grow.refl w_).alloc _).alloc _
 have hA0 : Blk w0 w_.heap.size 102 [.string (str k1), .int .i64 p1, .int .i64 s1] := by subst hw0; exact (Blk.new w_ _ [_, _, _]).alloc _
 have hB0 : Blk w0 (w_.heap.size + 1) 102 [.string (str k2), .int .i64 p2, .int .i64 s2] := by
  have := Blk.new (w_.alloc (.cells #[.string (str k1), .int .i64 p1, .int .i64 s1] 102)) 102 [.string (str k2), .int .i64 p2, .int .i64 s2]
  have e : (w_.alloc (.cells #[.string (str k1), .int .i64 p1, .int .i64 s1] 102)).heap.size = w_.heap.size + 1 := by simp
  rw [e] at this
  subst hw0; exact this
 have Ha0 := keep (fun (u : World) (hu : Grow w0.drew u) => (enres (Blk.fits (w := w0.drew) hA0 hu)).1)
 have Ha1 := keep (fun (u : World) (hu : Grow w0.drew u) => (enres (Blk.fits (w := w0.drew) hA0 hu)).2.1)
 have Ha2 := keep (fun (u : World) (hu : Grow w0.drew u) => (enres (Blk.fits (w := w0.drew) hA0 hu)).2.2.1)
 have Hb0 := keep (fun (u : World) (hu : Grow w0.drew u) => (enres (Blk.fits (w := w0.drew) hB0 hu)).1)
 have Hb1 := keep (fun (u : World) (hu : Grow w0.drew u) => (enres (Blk.fits (w := w0.drew) hB0 hu)).2.1)
 have Hb2 := keep (fun (u : World) (hu : Grow w0.drew u) => (enres (Blk.fits (w := w0.drew) hB0 hu)).2.2.1)
 clear hA0 hB0
 unfold enV
 go_enter Tryz.func109, Tryz.ntmps109
 go_upto_region 1 with fail
 rw [← hw0]
 clear hw0
 refine wp_region_grow (by kernel_rfl) 17 (by kernel_rfl) [(5, 0), (6, 1), (7, 2), (8, 3), (9, 4), (10, 5), (11, 6), (12, 7), (13, 8), (14, 9), (15, 10), (16, 11), (17, 12), (18, 13), (19, 14), (20, 15), (21, 16)] (by kernel_rfl) [(0, true), (1, true), (2, true), (3, true), (4, true), (5, true), (6, true), (7, true), (8, true), (9, true), (10, true), (11, true), (12, true), (13, true), (14, true), (15, true), (16, true)] (by kernel_rfl) rfl rfl ?_
 apply lex_eq [] [(7, 2), (8, 3), (9, 4), (10, 5), (11, 6), (12, 7), (13, 8), (14, 9), (15, 10), (16, 11), (17, 12), (18, 13), (19, 14), (20, 15), (21, 16)] (by kernel_rfl) (by kernel_rfl) rfl
 ·intro xs w hw hp K hK
  simp only [putAll]
  go_simp
  exact hK _ (Grow.refl _)
 apply lex_eq [(0, true)] [(5, 0), (7, 2), (8, 3), (10, 5), (11, 6), (12, 7), (13, 8), (14, 9), (15, 10), (16, 11), (17, 12), (18, 13), (19, 14), (20, 15), (21, 16)] (by kernel_rfl) (by kernel_rfl) rfl
 ·intro xs w hw hp K hK
  simp only [hz] at hp
  simp only [putAll]
  have hc := Ha0.out w hw
  go_simp
  exact hK _ (Grow.refl _)
 apply lex_eq [] [(5, 0), (6, 1), (9, 4), (10, 5), (11, 6), (12, 7), (13, 8), (14, 9), (15, 10), (16, 11), (17, 12), (18, 13), (19, 14), (20, 15), (21, 16)] (by kernel_rfl) (by kernel_rfl) rfl
 ·intro xs w hw hp K hK
  simp only [putAll]
  go_simp
  exact hK _ (Grow.refl _)
 apply lex_eq [(2, true)] [(5, 0), (6, 1), (7, 2), (10, 5), (11, 6), (12, 7), (13, 8), (14, 9), (15, 10), (16, 11), (17, 12), (18, 13), (19, 14), (20, 15), (21, 16)] (by kernel_rfl) (by kernel_rfl) rfl
 ·intro xs w hw hp K hK
  simp only [hz] at hp
  simp only [putAll]
  have hc := Hb0.out w hw
  go_simp
  exact hK _ (Grow.refl _)
 apply lex_eq [(1, true), (3, true)] [(5, 0), (6, 1), (7, 2), (8, 3), (10, 5), (11, 6), (12, 7), (13, 8), (15, 10), (16, 11), (17, 12), (18, 13), (19, 14), (21, 16)] (by kernel_rfl) (by kernel_rfl) rfl
 ·intro xs w hw hp K hK
  simp only [hz] at hp
  simp only [putAll]
  go_simp
  exact (Tryz.strings_Compare (str k1) (str k2) w).mono fun e w' h => ⟨_, h.1, hK _ (by rw [h.2]; exact Grow.refl _)⟩
 apply lex_eq [] [(5, 0), (6, 1), (7, 2), (8, 3), (9, 4), (12, 7), (13, 8), (14, 9), (15, 10), (16, 11), (17, 12), (18, 13), (19, 14), (20, 15), (21, 16)] (by kernel_rfl) (by kernel_rfl) rfl
 ·intro xs w hw hp K hK
  simp only [putAll]
  go_simp
  exact hK _ (Grow.refl _)
 apply lex_eq [(5, true)] [(5, 0), (6, 1), (7, 2), (8, 3), (9, 4), (10, 5), (12, 7), (13, 8), (15, 10), (16, 11), (17, 12), (18, 13), (19, 14), (20, 15), (21, 16)] (by kernel_rfl) (by kernel_rfl) rfl
 ·intro xs w hw hp K hK
  simp only [hz] at hp
  simp only [putAll]
  have hc := Ha1.out w hw
  go_simp
  exact hK _ (Grow.refl _)
 apply lex_eq [] [(5, 0), (6, 1), (7, 2), (8, 3), (9, 4), (10, 5), (11, 6), (14, 9), (15, 10), (16, 11), (17, 12), (18, 13), (19, 14), (20, 15), (21, 16)] (by kernel_rfl) (by kernel_rfl) rfl
 ·intro xs w hw hp K hK
  simp only [putAll]
  go_simp
  exact hK _ (Grow.refl _)
 apply lex_eq [(7, true)] [(5, 0), (6, 1), (7, 2), (8, 3), (9, 4), (10, 5), (11, 6), (12, 7), (15, 10), (16, 11), (17, 12), (18, 13), (19, 14), (20, 15), (21, 16)] (by kernel_rfl) (by kernel_rfl) rfl
 ·intro xs w hw hp K hK
  simp only [hz] at hp
  simp only [putAll]
  have hc := Hb1.out w hw
  go_simp
  exact hK _ (Grow.refl _)
 apply lex_eq [(6, true), (8, true)] [(5, 0), (6, 1), (7, 2), (8, 3), (9, 4), (10, 5), (11, 6), (12, 7), (13, 8), (15, 10), (16, 11), (17, 12), (18, 13), (21, 16)] (by kernel_rfl) (by kernel_rfl) rfl
 ·intro xs w hw hp K hK
  simp only [hz] at hp
  simp only [putAll]
  go_simp
  exact (Tryz.cmp_Compare_int p1 p2 w).mono fun e w' h => ⟨_, h.1, hK _ (by rw [h.2]; exact Grow.refl _)⟩
 apply lex_eq [] [(5, 0), (6, 1), (7, 2), (8, 3), (9, 4), (10, 5), (11, 6), (12, 7), (13, 8), (14, 9), (17, 12), (18, 13), (19, 14), (20, 15), (21, 16)] (by kernel_rfl) (by kernel_rfl) rfl
 ·intro xs w hw hp K hK
  simp only [putAll]
  go_simp
  exact hK _ (Grow.refl _)
 apply lex_eq [(10, true)] [(5, 0), (6, 1), (7, 2), (8, 3), (9, 4), (10, 5), (11, 6), (12, 7), (13, 8), (14, 9), (15, 10), (17, 12), (18, 13), (20, 15), (21, 16)] (by kernel_rfl) (by kernel_rfl) rfl
 ·intro xs w hw hp K hK
  simp only [hz] at hp
  simp only [putAll]
  have hc := Ha2.out w hw
  go_simp
  exact hK _ (Grow.refl _)
 apply lex_eq [] [(5, 0), (6, 1), (7, 2), (8, 3), (9, 4), (10, 5), (11, 6), (12, 7), (13, 8), (14, 9), (15, 10), (16, 11), (19, 14), (20, 15), (21, 16)] (by kernel_rfl) (by kernel_rfl) rfl
 ·intro xs w hw hp K hK
  simp only [putAll]
  go_simp
  exact hK _ (Grow.refl _)
 apply lex_eq [(12, true)] [(5, 0), (6, 1), (7, 2), (8, 3), (9, 4), (10, 5), (11, 6), (12, 7), (13, 8), (14, 9), (15, 10), (16, 11), (17, 12), (20, 15), (21, 16)] (by kernel_rfl) (by kernel_rfl) rfl
 ·intro xs w hw hp K hK
  simp only [hz] at hp
  simp only [putAll]
  have hc := Hb2.out w hw
  go_simp
  exact hK _ (Grow.refl _)
 apply lex_eq [(11, true), (13, true)] [(5, 0), (6, 1), (7, 2), (8, 3), (9, 4), (10, 5), (11, 6), (12, 7), (13, 8), (14, 9), (15, 10), (16, 11), (17, 12), (18, 13)] (by kernel_rfl) (by kernel_rfl) rfl
 ·intro xs w hw hp K hK
  simp only [hz] at hp
  simp only [putAll]
  go_simp
  exact (Tryz.cmp_Compare_int s1 s2 w).mono fun e w' h => ⟨_, h.1, hK _ (by rw [h.2]; exact Grow.refl _)⟩
 refine lex_says (fun v u => ∃ g c, v = .slice (some ⟨g, 0, none⟩) 3 c ∧ Blk u g 3 [.int .i64 (Lib.compareBytes k1 k2), .int .i64 (Lib.compareInt p1 p2), .int .i64 (Lib.compareInt s1 s2)]) (fun v u u' hg ⟨g, c, h1, h2⟩ => ⟨g, c, h1, h2.fits hg⟩) [(4, true), (9, true), (14, true)] [(5, 0), (6, 1), (7, 2), (8, 3), (9, 4), (10, 5), (11, 6), (12, 7), (13, 8), (14, 9), (15, 10), (16, 11), (17, 12), (18, 13), (19, 14)] (by kernel_rfl) (by kernel_rfl) rfl ?_ ?_
 ·intro xs w hw hp K hK
  simp only [hz] at hp
  simp only [putAll]
  go_simp
  exact hK _ _ ⟨_, _, rfl, Blk.new w 3 [_, _, _]⟩ ((Grow.refl w).alloc _)
 apply lex_eq [(15, true)] [(5, 0), (6, 1), (7, 2), (8, 3), (9, 4), (10, 5), (11, 6), (12, 7), (13, 8), (14, 9), (15, 10), (16, 11), (17, 12), (18, 13), (19, 14), (20, 15)] (by kernel_rfl) (by kernel_rfl) rfl
 ·intro xs w hw hp K hK
  simp only [hz] at hp
  generalize hA : putAll xs _ _ = A
  obtain ⟨g, c, hpv, hB⟩ := hp
  subst hA
  simp only [putAll, hpv]
  go_simp
  exact (or_any g c _ _ _ w hB).mono fun e w' h => ⟨_, h.1, hK _ (by rw [h.2]; exact Grow.refl _)⟩
 intro xs w hw hp
 generalize hA : putAll xs _ _ = A
 simp only [hz] at hp
 have h16 := hp.2.2.2.2.2.2.2.2.2.2.2.2.2.2.2.2
 clear hp
 subst hA
 simp only [putAll, h16]
 have hgw : Grow w_ w := Grow.trans hg0 hw.undrew
 clear hw h16
 go_wp2_with fail
 go_ret
 exact ⟨rfl, hgw⟩
end Go.Proofs.YtmhepfehcakmjaaGreat
namespace Go.Proofs.YtmhepfehcakmjaaGreat
open Go.RowKit
def takeK (l : List UInt8) : List UInt8 × List UInt8 × Int := rdTextS 24 l
def takeP (l : List UInt8) : Int × List UInt8 × Int := rdNum2 65535 ((takeK l).2.1, (takeK l).2.2)
def takeS (l : List UInt8) : Int × List UInt8 × Int := rdNum2 65535 ((takeP l).2.1, (takeP l).2.2)
def takeC (l : List UInt8) : Int × List UInt8 × Int := rdNum2 65535 ((takeS l).2.1, (takeS l).2.2)
def endE (x : List UInt8 × Int) : Int := if x.2 = 0 ∧ 0 < x.1.length then 12 else x.2
def partE (l : List UInt8) : En := ((takeK l).1, (takeP l).1, (takeS l).1)
def decOkN (l : List UInt8) : Bool := decide (endE ((takeS l).2.1, (takeS l).2.2) = 0) && enOk (partE l)
def decN (l : List UInt8) : En × Int := if decOkN l then (partE l, 0) else (leastE, 140)
theorem num2_le (most : Int) (x : List UInt8 × Int) : (rdNum2 most x).2.1.length ≤ x.1.length := by
 unfold rdNum2; split
 ·exact (rdNumS_facts most x.1).2.1
 ·exact Nat.le_refl _
theorem takeK_le (l : List UInt8) : (takeK l).2.1.length ≤ l.length := (rdTextS_le 24 l).2
theorem takeP_le (l : List UInt8) : (takeP l).2.1.length ≤ l.length := Nat.le_trans (num2_le _ _) (takeK_le l)
theorem takeS_le (l : List UInt8) : (takeS l).2.1.length ≤ l.length := Nat.le_trans (num2_le _ _) (takeP_le l)
theorem takeC_le (l : List UInt8) : (takeC l).2.1.length ≤ l.length := Nat.le_trans (num2_le _ _) (takeS_le l)
theorem enset {w : World} {b t : Nat} {a0 a1 a2 : Value} (h : Blk w b t [a0, a1, a2]) (v0 v1 v2 : Value) :
  Blk (((w.setCell ⟨b, 0, none⟩ v0).setCell ⟨b, 1, none⟩ v1).setCell ⟨b, 2, none⟩ v2) b t [v0, v1, v2] := ((h.set 0 v0).set 1 v1).set 2 v2
theorem enbut (w : World) (b : Nat) (v0 v1 v2 : Value) : But b w (((w.setCell ⟨b, 0, none⟩ v0).setCell ⟨b, 1, none⟩ v1).setCell ⟨b, 2, none⟩ v2) :=
 (((But.refl b w).setCell 0 v0).setCell 1 v1).setCell 2 v2
set_option maxRecDepth 100000 in
set_option maxHeartbeats 2000000 in
theorem decode_any (l : List UInt8) (w_ : World) (hs : (l.length : Int) ≤ 9223372036854775807) :
  Calls Tryz.prog 81 #[.string (str l)] w_ fun x w' => x = .returned (.tuple #[enV (decN l).1, .int .i64 (decN l).2]) ∧ Below w_.heap.size w_ w' := by
 obtain ⟨w0, hw0⟩ : ∃ w0, w0 = (w_.alloc (.cells #[.string ⟨#[]⟩, .int .i64 0, .int .i64 0] 102)) := ⟨_, rfl⟩
 have hg0 : Grow w_ w0 := by subst hw0; exact (Grow.refl w_).alloc _
 have hR0 : Blk w0 w_.heap.size 102 [.string ⟨#[]⟩, .int .i64 0, .int .i64 0] := by subst hw0; exact Blk.new w_ _ [_, _, _]
 have hz0 : w_.heap.size < w0.heap.size := hR0.lt
 have h1 := takeK_le l
 have h2 := takeP_le l
 have h3 := takeS_le l
 have hd : decN l = if decide (endE ((takeS l).2.1, (takeS l).2.2) = 0) && enOk ((takeK l).1, (takeP l).1, (takeS l).1) then (((takeK l).1, (takeP l).1, (takeS l).1), 0) else (leastE, 140) := rfl
 have hK := fun u b (h : Rd u b (str l) 0) => rdText_ok b (str l) 24 u h (by unfold maxLen; simp; omega) (by decide)
 have hP := fun u b (h : Rd u b (str (takeK l).2.1) (takeK l).2.2) => rdNum_any b 65535 ((takeK l).2.1, (takeK l).2.2) u h (by dsimp only; omega) (by decide)
 have hS := fun u b (h : Rd u b (str (takeP l).2.1) (takeP l).2.2) => rdNum_any b 65535 ((takeP l).2.1, (takeP l).2.2) u h (by dsimp only; omega) (by decide)
 have hE := fun u b (h : Rd u b (str (takeS l).2.1) (takeS l).2.2) => rdEnd b (str (takeS l).2.1) (takeS l).2.2 u h
 have hee : (if (takeS l).2.2 = 0 ∧ 0 < (str (takeS l).2.1).size then (12 : Int) else (takeS l).2.2) = endE ((takeS l).2.1, (takeS l).2.2) := rfl
 simp only [str_toList] at hK
 rw [hee] at hE
 change ∀ u b, Rd u b (str (takeK l).2.1) (takeK l).2.2 → Calls _ _ _ _ (fun e w' => e = .returned (.int .i64 (takeP l).1) ∧ Rd w' b (str (takeP l).2.1) (takeP l).2.2 ∧ But b u w') at hP
 change ∀ u b, Rd u b (str (takeP l).2.1) (takeP l).2.2 → Calls _ _ _ _ (fun e w' => e = .returned (.int .i64 (takeS l).1) ∧ Rd w' b (str (takeS l).2.1) (takeS l).2.2 ∧ But b u w') at hS
 change ∀ u b, Rd u b (str l) 0 → Calls _ _ _ _ (fun e w' => e = .returned (.string (str (takeK l).1)) ∧ Rd w' b (str (takeK l).2.1) (takeK l).2.2 ∧ But b u w') at hK
 clear hee h1 h2 h3
 generalize endE ((takeS l).2.1, (takeS l).2.2) = EE at *
 generalize takeS l = S at *
 generalize takeP l = P at *
 generalize takeK l = K at *
 obtain ⟨k, kr, ke⟩ := K
 obtain ⟨p, pr, pe⟩ := P
 obtain ⟨s, sr, se⟩ := S
 dsimp only at hd hK hP hS hE
 have HD := keep hd
 have HK := keep hK
 have HP := keep hP
 have HS := keep hS
 have HE := keep hE
 clear hd hK hP hS hE
 go_enter Tryz.func81, Tryz.ntmps81
 go_upto_region 1 with fail
 rw [← hw0]
 clear hw0
 go_wp2_with fail
 refine (rdRead (str l) w0).mono ?_
 rintro x w1 ⟨rfl, hw1⟩
 have hg1 : Grow w0 w1 := by subst hw1; exact (Grow.refl _).alloc _
 have hD1 : Rd w1 w0.heap.size (str l) 0 := by subst hw1; exact Blk.new w0 _ [_, _]
 clear hw1
 have hR1 := hR0.fits hg1
 go_wp2_with fail
 refine (HK.out w1 _ hD1).mono ?_
 rintro x w2 ⟨rfl, hD2, hb2⟩
 have hR2 := hR1.but hb2 (by omega)
 go_wp2_with fail
 refine (HP.out w2 _ hD2).mono ?_
 rintro x w3 ⟨rfl, hD3, hb3⟩
 have hR3 := hR2.but hb3 (by omega)
 go_wp2_with fail
 refine (HS.out w3 _ hD3).mono ?_
 rintro x w4 ⟨rfl, hD4, hb4⟩
 have hR4 := hR3.but hb4 (by omega)
 have hbt : But w0.heap.size w1 w4 := (hb2.trans hb3).trans hb4
 have hg4 : Below w_.heap.size w_ w4 := But.below (Below.trans hg0 (hg1.mono (by omega))) hbt (by omega) (by have := hR1.lt; omega)
 clear hD1 hD2 hD3 hb2 hb3 hb4 hR1 hR2 hR3 hR0 hg0 hg1 hbt
 go_upto_region 3 with fail
 obtain ⟨w5, hw5⟩ : ∃ w5, w5 = w4.alloc (.cells #[.string (str k), .int .i64 p, .int .i64 s] 102) := ⟨_, rfl⟩
 rw [← hw5]
 have hg5 : Grow w4 w5 := by subst hw5; exact (Grow.refl _).alloc _
 have hN5 : Blk w5 w4.heap.size 102 [.string (str k), .int .i64 p, .int .i64 s] := by subst hw5; exact Blk.new w4 _ [_, _, _]
 have hD5 : Rd w5 w0.heap.size (str sr) se := Blk.fits hD4 hg5
 have hR5 := hR4.fits hg5
 have hgg : Grow w_ w5 := Below.trans hg4 (hg5.mono (by have := hR4.lt; omega))
 clear hw5 hg5 hD4 hR4 hg4
 obtain ⟨c0, c1, c2, _⟩ := enres hN5
 go_wp2_with fail
 refine (HE.out w5 _ hD5).mono ?_
 rintro x w6 ⟨rfl, rfl⟩
 by_cases hEE : EE = 0
 ·subst hEE
  go_wp2_with fail
  refine (isEntry_any (k, p, s) w5).mono ?_
  rintro x w6 ⟨rfl, hb6⟩
  have hR6 := hR5.fits hb6
  have hN6 := hN5.fits hb6
  have hg6 := Grow.trans hgg hb6
  generalize enOk (k, p, s) = A at *
  clear c0 c1 c2 hR5 hN5 hD5 hb6 hgg
  obtain ⟨c0, c1, c2, _⟩ := enres hN6
  obtain ⟨r0, r1, r2, f0, f1, f2⟩ := enres hR6
  cases A with
  | true =>
   have Hset := keep (enset hR6 (.string (str k)) (.int .i64 p) (.int .i64 s))
   have Hbut := keep (enbut w6 w_.heap.size (.string (str k)) (.int .i64 p) (.int .i64 s))
   have Hlt := keep hR6.lt
   clear hR6 hN6
   go_wp2_with fail
   rw [HD.out]
   refine bodyPost_ret (v := .tuple #[enV (k, p, s), .int .i64 0]) ?_ rfl ⟨rfl, But.below hg6 Hbut.out (Nat.le_refl _) (Nat.le_of_lt Hlt.out)⟩
   obtain ⟨s0, s1, s2, _⟩ := enres Hset.out
   simp [results, Tryz.results81, go_sem, s0, s1, s2, enV]
  | false =>
   have Hset := keep (enset hR6 (.string ⟨#[]⟩) (.int .i64 0) (.int .i64 0))
   have Hbut := keep (enbut w6 w_.heap.size (.string ⟨#[]⟩) (.int .i64 0) (.int .i64 0))
   have Hlt := keep hR6.lt
   clear hR6 hN6
   go_wp2_with fail
   rw [HD.out]
   refine bodyPost_ret (v := .tuple #[enV leastE, .int .i64 140]) ?_ rfl ⟨rfl, But.below hg6 Hbut.out (Nat.le_refl _) (Nat.le_of_lt Hlt.out)⟩
   obtain ⟨s0, s1, s2, _⟩ := enres Hset.out
   simp [results, Tryz.results81, go_sem, s0, s1, s2, enV, leastE]
   rfl
 ·have qE : (EE != 0) = true := by simp [hEE]
  have hd : decN l = (leastE, 140) := by rw [HD.out, decide_eq_false hEE]; rfl
  have HD2 := keep hd
  clear hd HD
  obtain ⟨r0, r1, r2, f0, f1, f2⟩ := enres hR5
  have Hset := keep (enset hR5 (.string ⟨#[]⟩) (.int .i64 0) (.int .i64 0))
  have Hbut := keep (enbut w5 w_.heap.size (.string ⟨#[]⟩) (.int .i64 0) (.int .i64 0))
  have Hlt := keep hR5.lt
  clear hR5 hN5 hD5 hEE
  go_wp2_with fail
  rw [HD2.out]
  refine bodyPost_ret (v := .tuple #[enV leastE, .int .i64 140]) ?_ rfl ⟨rfl, But.below hgg Hbut.out (Nat.le_refl _) (Nat.le_of_lt Hlt.out)⟩
  obtain ⟨s0, s1, s2, _⟩ := enres Hset.out
  simp [results, Tryz.results81, go_sem, s0, s1, s2, enV, leastE]
  rfl
end Go.Proofs.YtmhepfehcakmjaaGreat
namespace Go.Proofs.YtmhepfehcakmjaaGreat
open Go.RowKit
def isL (e : En) : Bool := decide (e = leastE)
def sameE (a b : En) : Bool := decide (a = b)
theorem neq_entry (x0 q0 : List UInt8) (x1 x2 q1 q2 : Int) (w : World) : (binOp .neq 102 (.agg #[.string (str x0), .int .i64 x1, .int .i64 x2]) (.agg #[.string (str q0), .int .i64 q1, .int .i64 q2])).run Tryz.prog w = .ok (.bool (!sameE (x0, x1, x2) (q0, q1, q2))) w := by
 unfold sameE
 have hf : Tryz.prog.underlying 102 = some (.struct (Tryz.prog.fieldsOf 102)) := by kernel_rfl
 have hs : Tryz.prog.stoodInHeld 102 = false := by kernel_rfl
 rw [run_neq_struct, run_equalIn_agg w _ _ _ _ hf hs]
 simp [go_sem, Program.fieldsOf, Tryz.underlying102]
 by_cases h0 : x0 = q0
 ·by_cases h1 : x1 = q1
  ·by_cases h2 : x2 = q2
   ·simp [h0, h1, h2]
   ·simp [h0, h1, h2]
  ·simp [h0, h1]
 ·have : ¬ (str x0).toList = (str q0).toList := by rw [str_list, str_list]; exact h0
  simp [h0, this]
theorem eql_entry (x0 q0 : List UInt8) (x1 x2 q1 q2 : Int) (w : World) : (binOp .eql 102 (.agg #[.string (str x0), .int .i64 x1, .int .i64 x2]) (.agg #[.string (str q0), .int .i64 q1, .int .i64 q2])).run Tryz.prog w = .ok (.bool (sameE (x0, x1, x2) (q0, q1, q2))) w := by
 unfold sameE
 have hf : Tryz.prog.underlying 102 = some (.struct (Tryz.prog.fieldsOf 102)) := by kernel_rfl
 have hs : Tryz.prog.stoodInHeld 102 = false := by kernel_rfl
 rw [run_eql_struct, run_equalIn_agg w _ _ _ _ hf hs]
 simp [go_sem, Program.fieldsOf, Tryz.underlying102]
 by_cases h0 : x0 = q0
 ·by_cases h1 : x1 = q1
  ·by_cases h2 : x2 = q2
   ·simp [h0, h1, h2]
   ·simp [h0, h1, h2]
  ·simp [h0, h1]
 ·have : ¬ (str x0).toList = (str q0).toList := by rw [str_list, str_list]; exact h0
  simp [h0, this]
theorem guard_entry : Tryz.prog.eqGuardType Tryz.prog.depth 102 = false := by kernel_rfl
theorem neq_least (k : List UInt8) (p s : Int) (w : World) : (binOp .neq 102 (.agg #[.string (str k), .int .i64 p, .int .i64 s]) (.agg #[.string (str []), .int .i64 0, .int .i64 0])).run Tryz.prog w = .ok (.bool (!isL (k, p, s))) w := neq_entry _ _ _ _ _ _ w
theorem eql_least (k : List UInt8) (p s : Int) (w : World) : (binOp .eql 102 (.agg #[.string (str k), .int .i64 p, .int .i64 s]) (.agg #[.string (str []), .int .i64 0, .int .i64 0])).run Tryz.prog w = .ok (.bool (isL (k, p, s))) w := eql_entry _ _ _ _ _ _ w
end Go.Proofs.YtmhepfehcakmjaaGreat
namespace Go.Proofs.YtmhepfehcakmjaaGreat
open Go.RowKit
attribute [local go_sem] gives givesUpon_value givesUpon_skip givesUpon_enter
attribute [local simp] neq_least
attribute [local go_sem] guard_entry
def unsOk (l : List UInt8) : Bool := decide (endE ((takeC l).2.1, (takeC l).2.2) = 0) && (inB (takeC l).1 1 65535 && (decide (partE l = leastE) || enOk (partE l)))
def unsN (l : List UInt8) : En × Int × Int := if unsOk l then (partE l, (takeC l).1, 0) else (leastE, 0, 140)
set_option maxRecDepth 100000 in
set_option maxHeartbeats 2000000 in
theorem unsep_1 (l : List UInt8) (w_ : World) (hs : (l.length : Int) ≤ 9223372036854775807)
  (hE0 : endE ((takeC l).2.1, (takeC l).2.2) ≠ 0) :
  Calls Tryz.prog 79 #[.string (str l)] w_ fun x w' => x = .returned (.tuple #[enV (unsN l).1, .int .i64 (unsN l).2.1, .int .i64 (unsN l).2.2]) ∧ Below w_.heap.size w_ w' := by
 obtain ⟨w0, hw0⟩ : ∃ w0, w0 = (w_.alloc (.cells #[.string ⟨#[]⟩, .int .i64 0, .int .i64 0] 102)) := ⟨_, rfl⟩
 have hg0 : Grow w_ w0 := by subst hw0; exact (Grow.refl w_).alloc _
 have hR0 : Blk w0 w_.heap.size 102 [.string ⟨#[]⟩, .int .i64 0, .int .i64 0] := by subst hw0; exact Blk.new w_ _ [_, _, _]
 have hz0 : w_.heap.size < w0.heap.size := hR0.lt
 have h1 := takeK_le l
 have h2 := takeP_le l
 have h3 := takeS_le l
 have h4 := takeC_le l
 have hd : unsN l = if decide (endE ((takeC l).2.1, (takeC l).2.2) = 0) && (inB (takeC l).1 1 65535 && (decide (((takeK l).1, (takeP l).1, (takeS l).1) = leastE) || enOk ((takeK l).1, (takeP l).1, (takeS l).1))) then (((takeK l).1, (takeP l).1, (takeS l).1), (takeC l).1, 0) else (leastE, 0, 140) := rfl
 have hK := fun u b (h : Rd u b (str l) 0) => rdText_ok b (str l) 24 u h (by unfold maxLen; simp; omega) (by decide)
 have hP := fun u b (h : Rd u b (str (takeK l).2.1) (takeK l).2.2) => rdNum_any b 65535 ((takeK l).2.1, (takeK l).2.2) u h (by dsimp only; omega) (by decide)
 have hS := fun u b (h : Rd u b (str (takeP l).2.1) (takeP l).2.2) => rdNum_any b 65535 ((takeP l).2.1, (takeP l).2.2) u h (by dsimp only; omega) (by decide)
 have hC := fun u b (h : Rd u b (str (takeS l).2.1) (takeS l).2.2) => rdNum_any b 65535 ((takeS l).2.1, (takeS l).2.2) u h (by dsimp only; omega) (by decide)
 have hE := fun u b (h : Rd u b (str (takeC l).2.1) (takeC l).2.2) => rdEnd b (str (takeC l).2.1) (takeC l).2.2 u h
 have hee : (if (takeC l).2.2 = 0 ∧ 0 < (str (takeC l).2.1).size then (12 : Int) else (takeC l).2.2) = endE ((takeC l).2.1, (takeC l).2.2) := rfl
 simp only [str_toList] at hK
 rw [hee] at hE
 change ∀ u b, Rd u b (str (takeK l).2.1) (takeK l).2.2 → Calls _ _ _ _ (fun e w' => e = .returned (.int .i64 (takeP l).1) ∧ Rd w' b (str (takeP l).2.1) (takeP l).2.2 ∧ But b u w') at hP
 change ∀ u b, Rd u b (str (takeP l).2.1) (takeP l).2.2 → Calls _ _ _ _ (fun e w' => e = .returned (.int .i64 (takeS l).1) ∧ Rd w' b (str (takeS l).2.1) (takeS l).2.2 ∧ But b u w') at hS
 change ∀ u b, Rd u b (str (takeS l).2.1) (takeS l).2.2 → Calls _ _ _ _ (fun e w' => e = .returned (.int .i64 (takeC l).1) ∧ Rd w' b (str (takeC l).2.1) (takeC l).2.2 ∧ But b u w') at hC
 change ∀ u b, Rd u b (str l) 0 → Calls _ _ _ _ (fun e w' => e = .returned (.string (str (takeK l).1)) ∧ Rd w' b (str (takeK l).2.1) (takeK l).2.2 ∧ But b u w') at hK
 clear hee h1 h2 h3 h4
 generalize endE ((takeC l).2.1, (takeC l).2.2) = EE at *
 generalize takeC l = C at *
 generalize takeS l = S at *
 generalize takeP l = P at *
 generalize takeK l = K at *
 obtain ⟨k, kr, ke⟩ := K
 obtain ⟨p, pr, pe⟩ := P
 obtain ⟨s, sr, se⟩ := S
 obtain ⟨c, cr, ce⟩ := C
 dsimp only at hd hK hP hS hC hE
 have hd2 : unsN l = (leastE, 0, 140) := by rw [hd, decide_eq_false hE0]; rfl
 have HD2 := keep hd2
 clear hd hd2
 have HK := keep hK
 have HP := keep hP
 have HS := keep hS
 have HE := keep hE
 have HCn := keep hC
 clear hK hP hS hC hE
 go_enter Tryz.func79, Tryz.ntmps79
 go_upto_region 1 with fail
 rw [← hw0]
 clear hw0
 go_wp2_with fail
 refine (rdRead (str l) w0).mono ?_
 rintro x w1 ⟨rfl, hw1⟩
 have hg1 : Grow w0 w1 := by subst hw1; exact (Grow.refl _).alloc _
 have hD1 : Rd w1 w0.heap.size (str l) 0 := by subst hw1; exact Blk.new w0 _ [_, _]
 clear hw1
 have hR1 := hR0.fits hg1
 go_wp2_with fail
 refine (HK.out w1 _ hD1).mono ?_
 rintro x w2 ⟨rfl, hD2, hb2⟩
 have hR2 := hR1.but hb2 (by omega)
 go_wp2_with fail
 refine (HP.out w2 _ hD2).mono ?_
 rintro x w3 ⟨rfl, hD3, hb3⟩
 have hR3 := hR2.but hb3 (by omega)
 go_wp2_with fail
 refine (HS.out w3 _ hD3).mono ?_
 rintro x w4 ⟨rfl, hD4, hb4⟩
 have hR4 := hR3.but hb4 (by omega)
 have hbt : But w0.heap.size w1 w4 := (hb2.trans hb3).trans hb4
 have hg4 : Below w_.heap.size w_ w4 := But.below (Below.trans hg0 (hg1.mono (by omega))) hbt (by omega) (by have := hR1.lt; omega)
 clear hD1 hD2 hD3 hb2 hb3 hb4 hR1 hR2 hR3 hR0 hg0 hg1 hbt
 go_upto_region 3 with fail
 obtain ⟨w5, hw5⟩ : ∃ w5, w5 = w4.alloc (.cells #[.string (str k), .int .i64 p, .int .i64 s] 102) := ⟨_, rfl⟩
 rw [← hw5]
 have hg5 : Grow w4 w5 := by subst hw5; exact (Grow.refl _).alloc _
 have hN5 : Blk w5 w4.heap.size 102 [.string (str k), .int .i64 p, .int .i64 s] := by subst hw5; exact Blk.new w4 _ [_, _, _]
 have hD5 : Rd w5 w0.heap.size (str sr) se := Blk.fits hD4 hg5
 have hR5 := hR4.fits hg5
 have hlt4 := hD4.lt
 have hgg : Grow w_ w5 := Below.trans hg4 (hg5.mono (by have := hR4.lt; omega))
 clear hw5 hg5 hR4 hg4
 go_wp2_with fail
 refine (HCn.out w5 _ hD5).mono ?_
 rintro x w6 ⟨rfl, hD6, hb6⟩
 have hR6 := hR5.but hb6 (by omega)
 have hN6 := hN5.but hb6 (by omega)
 have hg6 : Grow w_ w6 := But.below hgg hb6 (by omega) (by have := hR5.lt; omega)
 clear hD4 hD5 hb6 hR5 hN5 hgg
 have HN0 := keep hN6
 have HN := keep (fun (u : World) (hu : Grow w6.drew u) => Blk.fits (w := w6.drew) hN6 hu)
 have HEu := keep (fun (u : World) (hu : Grow w6.drew u) => HE.out u w0.heap.size (Blk.fits (w := w6.drew) hD6 hu))
 clear hN6 hD6
 have qE : (EE != 0) = true := by simp [hE0]
 clear hE0
 go_wp2_with fail
 refine wp_region_grow (by kernel_rfl) 17 (by kernel_rfl) [(19, 0), (20, 1), (21, 2), (22, 3), (23, 4), (24, 5), (25, 6), (26, 7), (27, 8), (28, 9), (29, 10), (30, 11), (31, 12), (32, 13), (33, 14), (34, 15), (35, 16)] (by kernel_rfl) [(0, true), (1, true), (2, true), (3, true), (4, true), (5, true), (6, true), (7, true), (8, true), (9, true), (10, true), (11, true), (12, true), (13, true), (14, true), (15, true), (16, true)] (by kernel_rfl) rfl rfl ?_
 apply lex_eq [] [(21, 2), (22, 3), (23, 4), (24, 5), (25, 6), (26, 7), (27, 8), (28, 9), (29, 10), (30, 11), (31, 12), (32, 13), (33, 14), (34, 15), (35, 16), (36, 17)] (by kernel_rfl) (by kernel_rfl) rfl
 ·intro xs w hw hp K hK
  simp only [putAll]
  go_simp
  exact hK _ (Grow.refl _)
 apply lex_eq [(0, true)] [(19, 0), (23, 4), (24, 5), (25, 6), (26, 7), (27, 8), (28, 9), (29, 10), (30, 11), (31, 12), (32, 13), (33, 14), (34, 15), (35, 16), (36, 17)] (by kernel_rfl) (by kernel_rfl) rfl
 ·intro xs w hw hp K hK
  simp only [hz] at hp
  simp only [putAll]
  go_simp
  exact (HEu.out w hw).mono fun e w' h => ⟨_, h.1, hK _ (by rw [← h.2]; exact Grow.refl _)⟩
 apply lex_eq [(1, true)] [(19, 0), (20, 1), (23, 4), (24, 5), (25, 6), (26, 7), (27, 8), (28, 9), (29, 10), (30, 11), (31, 12), (32, 13), (33, 14), (34, 15), (35, 16), (36, 17)] (by kernel_rfl) (by kernel_rfl) rfl
 ·intro xs w hw hp K hK
  simp only [hz] at hp
  simp only [putAll]
  go_simp
  exact hK _ (Grow.refl _)
 apply lex_eq [(2, true)] [(19, 0), (20, 1), (21, 2), (27, 8), (28, 9), (29, 10), (30, 11), (31, 12), (32, 13), (33, 14), (34, 15), (35, 16), (36, 17)] (by kernel_rfl) (by kernel_rfl) rfl
 ·intro xs w hw hp K hK
  simp only [hz] at hp
  simp only [putAll]
  go_simp
  exact hK _ (Grow.refl _)
 apply lex_eq [(3, true)] [(19, 0), (20, 1), (21, 2), (22, 3), (25, 6), (26, 7), (27, 8), (28, 9), (29, 10), (30, 11), (31, 12), (32, 13), (33, 14), (34, 15), (35, 16), (36, 17)] (by kernel_rfl) (by kernel_rfl) rfl
 ·intro xs w hw hp K hK
  simp only [hz] at hp
  simp only [putAll]
  go_simp
  exact hK _ (Grow.refl _)
 apply lex_eq [(3, true), (4, true)] [(19, 0), (20, 1), (21, 2), (22, 3), (23, 4), (26, 7), (28, 9), (29, 10), (30, 11), (31, 12), (32, 13), (33, 14), (34, 15), (35, 16), (36, 17)] (by kernel_rfl) (by kernel_rfl) rfl
 ·intro xs w hw hp K hK
  simp only [hz] at hp
  simp only [putAll]
  go_simp
  exact hK _ (Grow.refl _)
 apply lex_eq [(3, true), (5, true)] [(19, 0), (20, 1), (21, 2), (22, 3), (23, 4), (24, 5), (27, 8), (28, 9), (29, 10), (30, 11), (31, 12), (32, 13), (33, 14), (34, 15), (35, 16), (36, 17)] (by kernel_rfl) (by kernel_rfl) rfl
 ·intro xs w hw hp K hK
  simp only [hz] at hp
  simp only [putAll]
  go_simp
  exact hK _ (Grow.refl _)
 apply lex_eq [(3, true), (6, true)] [(19, 0), (20, 1), (21, 2), (22, 3), (23, 4), (24, 5), (25, 6), (28, 9), (29, 10), (30, 11), (31, 12), (32, 13), (33, 14), (34, 15), (35, 16), (36, 17)] (by kernel_rfl) (by kernel_rfl) rfl
 ·intro xs w hw hp K hK
  simp only [hz] at hp
  simp only [putAll]
  go_simp
  exact hK _ (Grow.refl _)
 apply lex_eq [(7, true)] [(19, 0), (20, 1), (21, 2), (22, 3), (23, 4), (24, 5), (25, 6), (26, 7), (32, 13), (33, 14), (34, 15)] (by kernel_rfl) (by kernel_rfl) rfl
 ·intro xs w hw hp K hK
  simp only [hz] at hp
  simp only [putAll]
  go_simp
  exact hK _ (Grow.refl _)
 apply lex_eq [(8, true)] [(19, 0), (20, 1), (21, 2), (22, 3), (23, 4), (24, 5), (25, 6), (26, 7), (27, 8), (29, 10), (31, 12), (32, 13), (33, 14), (34, 15), (35, 16), (36, 17)] (by kernel_rfl) (by kernel_rfl) rfl
 ·intro xs w hw hp K hK
  simp only [hz] at hp
  simp only [putAll]
  go_simp
  exact hK _ (Grow.refl _)
 apply lex_eq [(8, true)] [(19, 0), (20, 1), (21, 2), (22, 3), (23, 4), (24, 5), (25, 6), (26, 7), (27, 8), (28, 9), (32, 13), (33, 14), (34, 15), (35, 16), (36, 17)] (by kernel_rfl) (by kernel_rfl) rfl
 ·intro xs w hw hp K hK
  simp only [hz] at hp
  simp only [putAll]
  go_simp
  exact hK _ (Grow.refl _)
 apply lex_eq [(8, true), (9, true), (10, true)] [(19, 0), (20, 1), (21, 2), (22, 3), (23, 4), (24, 5), (25, 6), (26, 7), (27, 8), (28, 9), (29, 10), (32, 13), (33, 14), (34, 15), (35, 16), (36, 17)] (by kernel_rfl) (by kernel_rfl) rfl
 ·intro xs w hw hp K hK
  simp only [hz] at hp
  simp only [putAll]
  go_simp
  exact hK _ (Grow.refl _)
 apply lex_eq [(8, true), (11, true)] [(19, 0), (20, 1), (21, 2), (22, 3), (23, 4), (24, 5), (25, 6), (26, 7), (27, 8), (28, 9), (29, 10), (30, 11), (36, 17)] (by kernel_rfl) (by kernel_rfl) rfl
 ·intro xs w hw hp K hK
  simp only [hz] at hp
  simp only [putAll]
  go_simp
  exact hK _ (Grow.refl _)
 apply lex_eq [(12, true)] [(19, 0), (20, 1), (21, 2), (22, 3), (23, 4), (24, 5), (25, 6), (26, 7), (27, 8), (28, 9), (29, 10), (30, 11), (31, 12), (34, 15), (35, 16), (36, 17)] (by kernel_rfl) (by kernel_rfl) rfl
 ·intro xs w hw hp K hK
  simp only [hz] at hp
  simp only [putAll]
  go_simp
  exact hK _ (Grow.refl _)
 apply lex_eq [(12, true), (13, true)] [(19, 0), (20, 1), (21, 2), (22, 3), (23, 4), (24, 5), (25, 6), (26, 7), (27, 8), (28, 9), (29, 10), (30, 11), (31, 12), (32, 13), (35, 16), (36, 17)] (by kernel_rfl) (by kernel_rfl) rfl
 ·intro xs w hw hp K hK
  simp only [hz] at hp
  simp only [putAll]
  go_simp
  exact hK _ (Grow.refl _)
 apply lex_eq [(12, true), (14, true)] [(19, 0), (20, 1), (21, 2), (22, 3), (23, 4), (24, 5), (25, 6), (26, 7), (27, 8), (28, 9), (29, 10), (30, 11), (31, 12), (32, 13), (33, 14), (36, 17)] (by kernel_rfl) (by kernel_rfl) rfl
 ·intro xs w hw hp K hK
  simp only [hz] at hp
  simp only [putAll]
  go_simp
  exact hK _ (Grow.refl _)
 apply lex_eq [(8, true), (12, true), (15, true)] [(19, 0), (20, 1), (21, 2), (22, 3), (23, 4), (24, 5), (25, 6), (26, 7), (27, 8), (28, 9), (29, 10), (30, 11), (31, 12), (32, 13), (33, 14), (34, 15)] (by kernel_rfl) (by kernel_rfl) rfl
 ·intro xs w hw hp K hK
  simp only [hz] at hp
  simp only [putAll]
  go_simp
  exact hK _ (Grow.refl _)
 intro xs w hw hp
 generalize hA : putAll xs _ _ = A
 simp only [hz] at hp
 have h8 := hp.2.2.2.2.2.2.2.2.1
 have h16 := hp.2.2.2.2.2.2.2.2.2.2.2.2.2.2.2.2
 clear hp
 subst hA
 simp only [putAll, h8, h16]
 have hgw : Grow w6 w := hw.undrew
 have hR7 := hR6.fits hgw
 have hN7 := HN0.out.fits hgw
 have hg7 := Grow.trans hg6 hgw
 have Hlt := keep hR7.lt
 clear hw h8 h16 hgw hR6 hg6
 obtain ⟨r0, r1, r2, f0, f1, f2⟩ := enres hR7
 have Hset := keep (enset hR7 (.string ⟨#[]⟩) (.int .i64 0) (.int .i64 0))
 have Hbut := keep (enbut w w_.heap.size (.string ⟨#[]⟩) (.int .i64 0) (.int .i64 0))
 clear hR7 hN7
 go_wp2_with fail
 rw [HD2.out]
 refine bodyPost_ret (v := .tuple #[enV leastE, .int .i64 0, .int .i64 140]) ?_ rfl ⟨rfl, But.below hg7 Hbut.out (Nat.le_refl _) (Nat.le_of_lt Hlt.out)⟩
 obtain ⟨s0, s1, s2, _⟩ := enres Hset.out
 simp [results, Tryz.results79, go_sem, s0, s1, s2, enV, leastE]
 rfl
set_option maxRecDepth 100000 in
set_option maxHeartbeats 2000000 in
theorem unsep_2 (l : List UInt8) (w_ : World) (hs : (l.length : Int) ≤ 9223372036854775807)
  (hE0 : endE ((takeC l).2.1, (takeC l).2.2) = 0) (hCi : inB (takeC l).1 1 65535 = false) :
  Calls Tryz.prog 79 #[.string (str l)] w_ fun x w' => x = .returned (.tuple #[enV (unsN l).1, .int .i64 (unsN l).2.1, .int .i64 (unsN l).2.2]) ∧ Below w_.heap.size w_ w' := by
 obtain ⟨w0, hw0⟩ : ∃ w0, w0 = (w_.alloc (.cells #[.string ⟨#[]⟩, .int .i64 0, .int .i64 0] 102)) := ⟨_, rfl⟩
 have hg0 : Grow w_ w0 := by subst hw0; exact (Grow.refl w_).alloc _
 have hR0 : Blk w0 w_.heap.size 102 [.string ⟨#[]⟩, .int .i64 0, .int .i64 0] := by subst hw0; exact Blk.new w_ _ [_, _, _]
 have hz0 : w_.heap.size < w0.heap.size := hR0.lt
 have h1 := takeK_le l
 have h2 := takeP_le l
 have h3 := takeS_le l
 have h4 := takeC_le l
 have hd : unsN l = if decide (endE ((takeC l).2.1, (takeC l).2.2) = 0) && (inB (takeC l).1 1 65535 && (decide (((takeK l).1, (takeP l).1, (takeS l).1) = leastE) || enOk ((takeK l).1, (takeP l).1, (takeS l).1))) then (((takeK l).1, (takeP l).1, (takeS l).1), (takeC l).1, 0) else (leastE, 0, 140) := rfl
 have hK := fun u b (h : Rd u b (str l) 0) => rdText_ok b (str l) 24 u h (by unfold maxLen; simp; omega) (by decide)
 have hP := fun u b (h : Rd u b (str (takeK l).2.1) (takeK l).2.2) => rdNum_any b 65535 ((takeK l).2.1, (takeK l).2.2) u h (by dsimp only; omega) (by decide)
 have hS := fun u b (h : Rd u b (str (takeP l).2.1) (takeP l).2.2) => rdNum_any b 65535 ((takeP l).2.1, (takeP l).2.2) u h (by dsimp only; omega) (by decide)
 have hC := fun u b (h : Rd u b (str (takeS l).2.1) (takeS l).2.2) => rdNum_any b 65535 ((takeS l).2.1, (takeS l).2.2) u h (by dsimp only; omega) (by decide)
 have hE := fun u b (h : Rd u b (str (takeC l).2.1) (takeC l).2.2) => rdEnd b (str (takeC l).2.1) (takeC l).2.2 u h
 have hee : (if (takeC l).2.2 = 0 ∧ 0 < (str (takeC l).2.1).size then (12 : Int) else (takeC l).2.2) = endE ((takeC l).2.1, (takeC l).2.2) := rfl
 simp only [str_toList] at hK
 rw [hee] at hE
 change ∀ u b, Rd u b (str (takeK l).2.1) (takeK l).2.2 → Calls _ _ _ _ (fun e w' => e = .returned (.int .i64 (takeP l).1) ∧ Rd w' b (str (takeP l).2.1) (takeP l).2.2 ∧ But b u w') at hP
 change ∀ u b, Rd u b (str (takeP l).2.1) (takeP l).2.2 → Calls _ _ _ _ (fun e w' => e = .returned (.int .i64 (takeS l).1) ∧ Rd w' b (str (takeS l).2.1) (takeS l).2.2 ∧ But b u w') at hS
 change ∀ u b, Rd u b (str (takeS l).2.1) (takeS l).2.2 → Calls _ _ _ _ (fun e w' => e = .returned (.int .i64 (takeC l).1) ∧ Rd w' b (str (takeC l).2.1) (takeC l).2.2 ∧ But b u w') at hC
 change ∀ u b, Rd u b (str l) 0 → Calls _ _ _ _ (fun e w' => e = .returned (.string (str (takeK l).1)) ∧ Rd w' b (str (takeK l).2.1) (takeK l).2.2 ∧ But b u w') at hK
 clear hee h1 h2 h3 h4
 generalize endE ((takeC l).2.1, (takeC l).2.2) = EE at *
 generalize takeC l = C at *
 generalize takeS l = S at *
 generalize takeP l = P at *
 generalize takeK l = K at *
 obtain ⟨k, kr, ke⟩ := K
 obtain ⟨p, pr, pe⟩ := P
 obtain ⟨s, sr, se⟩ := S
 obtain ⟨c, cr, ce⟩ := C
 dsimp only at hd hK hP hS hC hE
 have hd2 : unsN l = (leastE, 0, 140) := by rw [hd, hCi]; simp
 have HD2 := keep hd2
 have HC := keep hCi
 clear hd hd2 hCi
 have HK := keep hK
 have HP := keep hP
 have HS := keep hS
 have HE := keep hE
 have HCn := keep hC
 clear hK hP hS hC hE
 go_enter Tryz.func79, Tryz.ntmps79
 go_upto_region 1 with fail
 rw [← hw0]
 clear hw0
 go_wp2_with fail
 refine (rdRead (str l) w0).mono ?_
 rintro x w1 ⟨rfl, hw1⟩
 have hg1 : Grow w0 w1 := by subst hw1; exact (Grow.refl _).alloc _
 have hD1 : Rd w1 w0.heap.size (str l) 0 := by subst hw1; exact Blk.new w0 _ [_, _]
 clear hw1
 have hR1 := hR0.fits hg1
 go_wp2_with fail
 refine (HK.out w1 _ hD1).mono ?_
 rintro x w2 ⟨rfl, hD2, hb2⟩
 have hR2 := hR1.but hb2 (by omega)
 go_wp2_with fail
 refine (HP.out w2 _ hD2).mono ?_
 rintro x w3 ⟨rfl, hD3, hb3⟩
 have hR3 := hR2.but hb3 (by omega)
 go_wp2_with fail
 refine (HS.out w3 _ hD3).mono ?_
 rintro x w4 ⟨rfl, hD4, hb4⟩
 have hR4 := hR3.but hb4 (by omega)
 have hbt : But w0.heap.size w1 w4 := (hb2.trans hb3).trans hb4
 have hg4 : Below w_.heap.size w_ w4 := But.below (Below.trans hg0 (hg1.mono (by omega))) hbt (by omega) (by have := hR1.lt; omega)
 clear hD1 hD2 hD3 hb2 hb3 hb4 hR1 hR2 hR3 hR0 hg0 hg1 hbt
 go_upto_region 3 with fail
 obtain ⟨w5, hw5⟩ : ∃ w5, w5 = w4.alloc (.cells #[.string (str k), .int .i64 p, .int .i64 s] 102) := ⟨_, rfl⟩
 rw [← hw5]
 have hg5 : Grow w4 w5 := by subst hw5; exact (Grow.refl _).alloc _
 have hN5 : Blk w5 w4.heap.size 102 [.string (str k), .int .i64 p, .int .i64 s] := by subst hw5; exact Blk.new w4 _ [_, _, _]
 have hD5 : Rd w5 w0.heap.size (str sr) se := Blk.fits hD4 hg5
 have hR5 := hR4.fits hg5
 have hlt4 := hD4.lt
 have hgg : Grow w_ w5 := Below.trans hg4 (hg5.mono (by have := hR4.lt; omega))
 clear hw5 hg5 hR4 hg4
 go_wp2_with fail
 refine (HCn.out w5 _ hD5).mono ?_
 rintro x w6 ⟨rfl, hD6, hb6⟩
 have hR6 := hR5.but hb6 (by omega)
 have hN6 := hN5.but hb6 (by omega)
 have hg6 : Grow w_ w6 := But.below hgg hb6 (by omega) (by have := hR5.lt; omega)
 clear hD4 hD5 hb6 hR5 hN5 hgg
 have HN0 := keep hN6
 have HN := keep (fun (u : World) (hu : Grow w6.drew u) => Blk.fits (w := w6.drew) hN6 hu)
 have HEu := keep (fun (u : World) (hu : Grow w6.drew u) => HE.out u w0.heap.size (Blk.fits (w := w6.drew) hD6 hu))
 clear hN6 hD6
 subst hE0
 go_wp2_with fail
 refine wp_region_grow (by kernel_rfl) 17 (by kernel_rfl) [(19, 0), (20, 1), (21, 2), (22, 3), (23, 4), (24, 5), (25, 6), (26, 7), (27, 8), (28, 9), (29, 10), (30, 11), (31, 12), (32, 13), (33, 14), (34, 15), (35, 16)] (by kernel_rfl) [(0, true), (1, true), (2, true), (3, true), (4, true), (5, true), (6, true), (7, true), (8, true), (9, true), (10, true), (11, true), (12, true), (13, true), (14, true), (15, true), (16, true)] (by kernel_rfl) rfl rfl ?_
 apply lex_eq [] [(21, 2), (22, 3), (23, 4), (24, 5), (25, 6), (26, 7), (27, 8), (28, 9), (29, 10), (30, 11), (31, 12), (32, 13), (33, 14), (34, 15), (35, 16), (36, 17)] (by kernel_rfl) (by kernel_rfl) rfl
 ·intro xs w hw hp K hK
  simp only [putAll]
  go_simp
  exact hK _ (Grow.refl _)
 apply lex_eq [(0, true)] [(19, 0), (23, 4), (24, 5), (25, 6), (26, 7), (27, 8), (28, 9), (29, 10), (30, 11), (31, 12), (32, 13), (33, 14), (34, 15), (35, 16), (36, 17)] (by kernel_rfl) (by kernel_rfl) rfl
 ·intro xs w hw hp K hK
  simp only [hz] at hp
  simp only [putAll]
  go_simp
  exact (HEu.out w hw).mono fun e w' h => ⟨_, h.1, hK _ (by rw [← h.2]; exact Grow.refl _)⟩
 apply lex_eq [(1, true)] [(19, 0), (20, 1), (23, 4), (24, 5), (25, 6), (26, 7), (27, 8), (28, 9), (29, 10), (30, 11), (31, 12), (32, 13), (33, 14), (34, 15), (35, 16), (36, 17)] (by kernel_rfl) (by kernel_rfl) rfl
 ·intro xs w hw hp K hK
  simp only [hz] at hp
  simp only [putAll]
  go_simp
  exact hK _ (Grow.refl _)
 apply lex_eq [(2, true)] [(19, 0), (20, 1), (21, 2), (27, 8), (28, 9), (29, 10), (30, 11), (31, 12), (32, 13), (33, 14), (34, 15), (35, 16), (36, 17)] (by kernel_rfl) (by kernel_rfl) rfl
 ·intro xs w hw hp K hK
  simp only [hz] at hp
  simp only [putAll]
  go_simp
  exact hK _ (Grow.refl _)
 apply lex_eq [(3, true)] [(19, 0), (20, 1), (21, 2), (22, 3), (25, 6), (26, 7), (27, 8), (28, 9), (29, 10), (30, 11), (31, 12), (32, 13), (33, 14), (34, 15), (35, 16), (36, 17)] (by kernel_rfl) (by kernel_rfl) rfl
 ·intro xs w hw hp K hK
  simp only [hz] at hp
  simp only [putAll]
  go_simp
  exact hK _ (Grow.refl _)
 apply lex_eq [(3, true), (4, true)] [(19, 0), (20, 1), (21, 2), (22, 3), (23, 4), (26, 7), (28, 9), (29, 10), (30, 11), (31, 12), (32, 13), (33, 14), (34, 15), (35, 16), (36, 17)] (by kernel_rfl) (by kernel_rfl) rfl
 ·intro xs w hw hp K hK
  simp only [hz] at hp
  simp only [putAll]
  go_simp
  exact (isChild_any c w).mono fun e w' h => ⟨_, h.1.trans (by rw [HC.out]), hK _ (by rw [← h.2]; exact Grow.refl _)⟩
 apply lex_eq [(3, true), (5, true)] [(19, 0), (20, 1), (21, 2), (22, 3), (23, 4), (24, 5), (27, 8), (28, 9), (29, 10), (30, 11), (31, 12), (32, 13), (33, 14), (34, 15), (35, 16), (36, 17)] (by kernel_rfl) (by kernel_rfl) rfl
 ·intro xs w hw hp K hK
  simp only [hz] at hp
  simp only [putAll]
  go_simp
  exact hK _ (Grow.refl _)
 apply lex_eq [(3, true), (6, true)] [(19, 0), (20, 1), (21, 2), (22, 3), (23, 4), (24, 5), (25, 6), (28, 9), (29, 10), (30, 11), (31, 12), (32, 13), (33, 14), (34, 15), (35, 16), (36, 17)] (by kernel_rfl) (by kernel_rfl) rfl
 ·intro xs w hw hp K hK
  simp only [hz] at hp
  simp only [putAll]
  go_simp
  exact hK _ (Grow.refl _)
 apply lex_eq [(7, true)] [(19, 0), (20, 1), (21, 2), (22, 3), (23, 4), (24, 5), (25, 6), (26, 7), (32, 13), (33, 14), (34, 15)] (by kernel_rfl) (by kernel_rfl) rfl
 ·intro xs w hw hp K hK
  simp only [hz] at hp
  simp only [putAll]
  go_simp
  exact hK _ (Grow.refl _)
 apply lex_eq [(8, true)] [(19, 0), (20, 1), (21, 2), (22, 3), (23, 4), (24, 5), (25, 6), (26, 7), (27, 8), (29, 10), (31, 12), (32, 13), (33, 14), (34, 15), (35, 16), (36, 17)] (by kernel_rfl) (by kernel_rfl) rfl
 ·intro xs w hw hp K hK
  simp only [hz] at hp
  simp only [putAll]
  go_simp
  exact hK _ (Grow.refl _)
 apply lex_eq [(8, true)] [(19, 0), (20, 1), (21, 2), (22, 3), (23, 4), (24, 5), (25, 6), (26, 7), (27, 8), (28, 9), (32, 13), (33, 14), (34, 15), (35, 16), (36, 17)] (by kernel_rfl) (by kernel_rfl) rfl
 ·intro xs w hw hp K hK
  simp only [hz] at hp
  simp only [putAll]
  go_simp
  exact hK _ (Grow.refl _)
 apply lex_eq [(8, true), (9, true), (10, true)] [(19, 0), (20, 1), (21, 2), (22, 3), (23, 4), (24, 5), (25, 6), (26, 7), (27, 8), (28, 9), (29, 10), (32, 13), (33, 14), (34, 15), (35, 16), (36, 17)] (by kernel_rfl) (by kernel_rfl) rfl
 ·intro xs w hw hp K hK
  simp only [hz] at hp
  simp only [putAll]
  go_simp
  exact hK _ (Grow.refl _)
 apply lex_eq [(8, true), (11, true)] [(19, 0), (20, 1), (21, 2), (22, 3), (23, 4), (24, 5), (25, 6), (26, 7), (27, 8), (28, 9), (29, 10), (30, 11), (36, 17)] (by kernel_rfl) (by kernel_rfl) rfl
 ·intro xs w hw hp K hK
  simp only [hz] at hp
  simp only [putAll]
  go_simp
  exact hK _ (Grow.refl _)
 apply lex_eq [(12, true)] [(19, 0), (20, 1), (21, 2), (22, 3), (23, 4), (24, 5), (25, 6), (26, 7), (27, 8), (28, 9), (29, 10), (30, 11), (31, 12), (34, 15), (35, 16), (36, 17)] (by kernel_rfl) (by kernel_rfl) rfl
 ·intro xs w hw hp K hK
  simp only [hz] at hp
  simp only [putAll]
  go_simp
  exact hK _ (Grow.refl _)
 apply lex_eq [(12, true), (13, true)] [(19, 0), (20, 1), (21, 2), (22, 3), (23, 4), (24, 5), (25, 6), (26, 7), (27, 8), (28, 9), (29, 10), (30, 11), (31, 12), (32, 13), (35, 16), (36, 17)] (by kernel_rfl) (by kernel_rfl) rfl
 ·intro xs w hw hp K hK
  simp only [hz] at hp
  simp only [putAll]
  go_simp
  exact hK _ (Grow.refl _)
 apply lex_eq [(12, true), (14, true)] [(19, 0), (20, 1), (21, 2), (22, 3), (23, 4), (24, 5), (25, 6), (26, 7), (27, 8), (28, 9), (29, 10), (30, 11), (31, 12), (32, 13), (33, 14), (36, 17)] (by kernel_rfl) (by kernel_rfl) rfl
 ·intro xs w hw hp K hK
  simp only [hz] at hp
  simp only [putAll]
  go_simp
  exact hK _ (Grow.refl _)
 apply lex_eq [(8, true), (12, true), (15, true)] [(19, 0), (20, 1), (21, 2), (22, 3), (23, 4), (24, 5), (25, 6), (26, 7), (27, 8), (28, 9), (29, 10), (30, 11), (31, 12), (32, 13), (33, 14), (34, 15)] (by kernel_rfl) (by kernel_rfl) rfl
 ·intro xs w hw hp K hK
  simp only [hz] at hp
  simp only [putAll]
  go_simp
  exact hK _ (Grow.refl _)
 intro xs w hw hp
 generalize hA : putAll xs _ _ = A
 simp only [hz] at hp
 have h8 := hp.2.2.2.2.2.2.2.2.1
 have h16 := hp.2.2.2.2.2.2.2.2.2.2.2.2.2.2.2.2
 clear hp
 subst hA
 simp only [putAll, h8, h16]
 have hgw : Grow w6 w := hw.undrew
 have hR7 := hR6.fits hgw
 have hN7 := HN0.out.fits hgw
 have hg7 := Grow.trans hg6 hgw
 have Hlt := keep hR7.lt
 clear hw h8 h16 hgw hR6 hg6
 obtain ⟨r0, r1, r2, f0, f1, f2⟩ := enres hR7
 have Hset := keep (enset hR7 (.string ⟨#[]⟩) (.int .i64 0) (.int .i64 0))
 have Hbut := keep (enbut w w_.heap.size (.string ⟨#[]⟩) (.int .i64 0) (.int .i64 0))
 clear hR7 hN7
 go_wp2_with fail
 rw [HD2.out]
 refine bodyPost_ret (v := .tuple #[enV leastE, .int .i64 0, .int .i64 140]) ?_ rfl ⟨rfl, But.below hg7 Hbut.out (Nat.le_refl _) (Nat.le_of_lt Hlt.out)⟩
 obtain ⟨s0, s1, s2, _⟩ := enres Hset.out
 simp [results, Tryz.results79, go_sem, s0, s1, s2, enV, leastE]
 rfl
set_option maxRecDepth 100000 in
set_option maxHeartbeats 2000000 in
theorem unsep_3 (l : List UInt8) (w_ : World) (hs : (l.length : Int) ≤ 9223372036854775807)
  (hE0 : endE ((takeC l).2.1, (takeC l).2.2) = 0) (hCi : inB (takeC l).1 1 65535 = true) (hL : isL ((takeK l).1, (takeP l).1, (takeS l).1) = true) :
  Calls Tryz.prog 79 #[.string (str l)] w_ fun x w' => x = .returned (.tuple #[enV (unsN l).1, .int .i64 (unsN l).2.1, .int .i64 (unsN l).2.2]) ∧ Below w_.heap.size w_ w' := by
 obtain ⟨w0, hw0⟩ : ∃ w0, w0 = (w_.alloc (.cells #[.string ⟨#[]⟩, .int .i64 0, .int .i64 0] 102)) := ⟨_, rfl⟩
 have hg0 : Grow w_ w0 := by subst hw0; exact (Grow.refl w_).alloc _
 have hR0 : Blk w0 w_.heap.size 102 [.string ⟨#[]⟩, .int .i64 0, .int .i64 0] := by subst hw0; exact Blk.new w_ _ [_, _, _]
 have hz0 : w_.heap.size < w0.heap.size := hR0.lt
 have h1 := takeK_le l
 have h2 := takeP_le l
 have h3 := takeS_le l
 have h4 := takeC_le l
 have hd : unsN l = if decide (endE ((takeC l).2.1, (takeC l).2.2) = 0) && (inB (takeC l).1 1 65535 && (decide (((takeK l).1, (takeP l).1, (takeS l).1) = leastE) || enOk ((takeK l).1, (takeP l).1, (takeS l).1))) then (((takeK l).1, (takeP l).1, (takeS l).1), (takeC l).1, 0) else (leastE, 0, 140) := rfl
 have hK := fun u b (h : Rd u b (str l) 0) => rdText_ok b (str l) 24 u h (by unfold maxLen; simp; omega) (by decide)
 have hP := fun u b (h : Rd u b (str (takeK l).2.1) (takeK l).2.2) => rdNum_any b 65535 ((takeK l).2.1, (takeK l).2.2) u h (by dsimp only; omega) (by decide)
 have hS := fun u b (h : Rd u b (str (takeP l).2.1) (takeP l).2.2) => rdNum_any b 65535 ((takeP l).2.1, (takeP l).2.2) u h (by dsimp only; omega) (by decide)
 have hC := fun u b (h : Rd u b (str (takeS l).2.1) (takeS l).2.2) => rdNum_any b 65535 ((takeS l).2.1, (takeS l).2.2) u h (by dsimp only; omega) (by decide)
 have hE := fun u b (h : Rd u b (str (takeC l).2.1) (takeC l).2.2) => rdEnd b (str (takeC l).2.1) (takeC l).2.2 u h
 have hee : (if (takeC l).2.2 = 0 ∧ 0 < (str (takeC l).2.1).size then (12 : Int) else (takeC l).2.2) = endE ((takeC l).2.1, (takeC l).2.2) := rfl
 simp only [str_toList] at hK
 rw [hee] at hE
 change ∀ u b, Rd u b (str (takeK l).2.1) (takeK l).2.2 → Calls _ _ _ _ (fun e w' => e = .returned (.int .i64 (takeP l).1) ∧ Rd w' b (str (takeP l).2.1) (takeP l).2.2 ∧ But b u w') at hP
 change ∀ u b, Rd u b (str (takeP l).2.1) (takeP l).2.2 → Calls _ _ _ _ (fun e w' => e = .returned (.int .i64 (takeS l).1) ∧ Rd w' b (str (takeS l).2.1) (takeS l).2.2 ∧ But b u w') at hS
 change ∀ u b, Rd u b (str (takeS l).2.1) (takeS l).2.2 → Calls _ _ _ _ (fun e w' => e = .returned (.int .i64 (takeC l).1) ∧ Rd w' b (str (takeC l).2.1) (takeC l).2.2 ∧ But b u w') at hC
 change ∀ u b, Rd u b (str l) 0 → Calls _ _ _ _ (fun e w' => e = .returned (.string (str (takeK l).1)) ∧ Rd w' b (str (takeK l).2.1) (takeK l).2.2 ∧ But b u w') at hK
 clear hee h1 h2 h3 h4
 generalize endE ((takeC l).2.1, (takeC l).2.2) = EE at *
 generalize takeC l = C at *
 generalize takeS l = S at *
 generalize takeP l = P at *
 generalize takeK l = K at *
 obtain ⟨k, kr, ke⟩ := K
 obtain ⟨p, pr, pe⟩ := P
 obtain ⟨s, sr, se⟩ := S
 obtain ⟨c, cr, ce⟩ := C
 dsimp only at hd hK hP hS hC hE
 have hd2 : unsN l = ((k, p, s), c, 0) := by rw [hd, hCi, hE0, show decide ((k, p, s) = leastE) = true from hL]; rfl
 have HD2 := keep hd2
 have HC := keep hCi
 have HQ := keep hL
 clear hd hd2 hCi hL
 have HK := keep hK
 have HP := keep hP
 have HS := keep hS
 have HE := keep hE
 have HCn := keep hC
 clear hK hP hS hC hE
 go_enter Tryz.func79, Tryz.ntmps79
 go_upto_region 1 with fail
 rw [← hw0]
 clear hw0
 go_wp2_with fail
 refine (rdRead (str l) w0).mono ?_
 rintro x w1 ⟨rfl, hw1⟩
 have hg1 : Grow w0 w1 := by subst hw1; exact (Grow.refl _).alloc _
 have hD1 : Rd w1 w0.heap.size (str l) 0 := by subst hw1; exact Blk.new w0 _ [_, _]
 clear hw1
 have hR1 := hR0.fits hg1
 go_wp2_with fail
 refine (HK.out w1 _ hD1).mono ?_
 rintro x w2 ⟨rfl, hD2, hb2⟩
 have hR2 := hR1.but hb2 (by omega)
 go_wp2_with fail
 refine (HP.out w2 _ hD2).mono ?_
 rintro x w3 ⟨rfl, hD3, hb3⟩
 have hR3 := hR2.but hb3 (by omega)
 go_wp2_with fail
 refine (HS.out w3 _ hD3).mono ?_
 rintro x w4 ⟨rfl, hD4, hb4⟩
 have hR4 := hR3.but hb4 (by omega)
 have hbt : But w0.heap.size w1 w4 := (hb2.trans hb3).trans hb4
 have hg4 : Below w_.heap.size w_ w4 := But.below (Below.trans hg0 (hg1.mono (by omega))) hbt (by omega) (by have := hR1.lt; omega)
 clear hD1 hD2 hD3 hb2 hb3 hb4 hR1 hR2 hR3 hR0 hg0 hg1 hbt
 go_upto_region 3 with fail
 obtain ⟨w5, hw5⟩ : ∃ w5, w5 = w4.alloc (.cells #[.string (str k), .int .i64 p, .int .i64 s] 102) := ⟨_, rfl⟩
 rw [← hw5]
 have hg5 : Grow w4 w5 := by subst hw5; exact (Grow.refl _).alloc _
 have hN5 : Blk w5 w4.heap.size 102 [.string (str k), .int .i64 p, .int .i64 s] := by subst hw5; exact Blk.new w4 _ [_, _, _]
 have hD5 : Rd w5 w0.heap.size (str sr) se := Blk.fits hD4 hg5
 have hR5 := hR4.fits hg5
 have hlt4 := hD4.lt
 have hgg : Grow w_ w5 := Below.trans hg4 (hg5.mono (by have := hR4.lt; omega))
 clear hw5 hg5 hR4 hg4
 go_wp2_with fail
 refine (HCn.out w5 _ hD5).mono ?_
 rintro x w6 ⟨rfl, hD6, hb6⟩
 have hR6 := hR5.but hb6 (by omega)
 have hN6 := hN5.but hb6 (by omega)
 have hg6 : Grow w_ w6 := But.below hgg hb6 (by omega) (by have := hR5.lt; omega)
 clear hD4 hD5 hb6 hR5 hN5 hgg
 have HN0 := keep hN6
 have HN := keep (fun (u : World) (hu : Grow w6.drew u) => Blk.fits (w := w6.drew) hN6 hu)
 have HEu := keep (fun (u : World) (hu : Grow w6.drew u) => HE.out u w0.heap.size (Blk.fits (w := w6.drew) hD6 hu))
 clear hN6 hD6
 subst hE0
 go_wp2_with fail
 refine wp_region_grow (by kernel_rfl) 17 (by kernel_rfl) [(19, 0), (20, 1), (21, 2), (22, 3), (23, 4), (24, 5), (25, 6), (26, 7), (27, 8), (28, 9), (29, 10), (30, 11), (31, 12), (32, 13), (33, 14), (34, 15), (35, 16)] (by kernel_rfl) [(0, true), (1, true), (2, true), (3, true), (4, true), (5, true), (6, true), (7, true), (8, true), (9, true), (10, true), (11, true), (12, true), (13, true), (14, true), (15, true), (16, true)] (by kernel_rfl) rfl rfl ?_
 apply lex_eq [] [(21, 2), (22, 3), (23, 4), (24, 5), (25, 6), (26, 7), (27, 8), (28, 9), (29, 10), (30, 11), (31, 12), (32, 13), (33, 14), (34, 15), (35, 16), (36, 17)] (by kernel_rfl) (by kernel_rfl) rfl
 ·intro xs w hw hp K hK
  simp only [putAll]
  go_simp
  exact hK _ (Grow.refl _)
 apply lex_eq [(0, true)] [(19, 0), (23, 4), (24, 5), (25, 6), (26, 7), (27, 8), (28, 9), (29, 10), (30, 11), (31, 12), (32, 13), (33, 14), (34, 15), (35, 16), (36, 17)] (by kernel_rfl) (by kernel_rfl) rfl
 ·intro xs w hw hp K hK
  simp only [hz] at hp
  simp only [putAll]
  go_simp
  exact (HEu.out w hw).mono fun e w' h => ⟨_, h.1, hK _ (by rw [← h.2]; exact Grow.refl _)⟩
 apply lex_eq [(1, true)] [(19, 0), (20, 1), (23, 4), (24, 5), (25, 6), (26, 7), (27, 8), (28, 9), (29, 10), (30, 11), (31, 12), (32, 13), (33, 14), (34, 15), (35, 16), (36, 17)] (by kernel_rfl) (by kernel_rfl) rfl
 ·intro xs w hw hp K hK
  simp only [hz] at hp
  simp only [putAll]
  go_simp
  exact hK _ (Grow.refl _)
 apply lex_eq [(2, true)] [(19, 0), (20, 1), (21, 2), (27, 8), (28, 9), (29, 10), (30, 11), (31, 12), (32, 13), (33, 14), (34, 15), (35, 16), (36, 17)] (by kernel_rfl) (by kernel_rfl) rfl
 ·intro xs w hw hp K hK
  simp only [hz] at hp
  simp only [putAll]
  go_simp
  exact hK _ (Grow.refl _)
 apply lex_eq [(3, true)] [(19, 0), (20, 1), (21, 2), (22, 3), (25, 6), (26, 7), (27, 8), (28, 9), (29, 10), (30, 11), (31, 12), (32, 13), (33, 14), (34, 15), (35, 16), (36, 17)] (by kernel_rfl) (by kernel_rfl) rfl
 ·intro xs w hw hp K hK
  simp only [hz] at hp
  simp only [putAll]
  go_simp
  exact hK _ (Grow.refl _)
 apply lex_eq [(3, true), (4, true)] [(19, 0), (20, 1), (21, 2), (22, 3), (23, 4), (26, 7), (28, 9), (29, 10), (30, 11), (31, 12), (32, 13), (33, 14), (34, 15), (35, 16), (36, 17)] (by kernel_rfl) (by kernel_rfl) rfl
 ·intro xs w hw hp K hK
  simp only [hz] at hp
  simp only [putAll]
  go_simp
  exact (isChild_any c w).mono fun e w' h => ⟨_, h.1.trans (by rw [HC.out]), hK _ (by rw [← h.2]; exact Grow.refl _)⟩
 apply lex_eq [(3, true), (5, true)] [(19, 0), (20, 1), (21, 2), (22, 3), (23, 4), (24, 5), (27, 8), (28, 9), (29, 10), (30, 11), (31, 12), (32, 13), (33, 14), (34, 15), (35, 16), (36, 17)] (by kernel_rfl) (by kernel_rfl) rfl
 ·intro xs w hw hp K hK
  simp only [hz] at hp
  simp only [putAll]
  go_simp
  exact hK _ (Grow.refl _)
 apply lex_eq [(3, true), (6, true)] [(19, 0), (20, 1), (21, 2), (22, 3), (23, 4), (24, 5), (25, 6), (28, 9), (29, 10), (30, 11), (31, 12), (32, 13), (33, 14), (34, 15), (35, 16), (36, 17)] (by kernel_rfl) (by kernel_rfl) rfl
 ·intro xs w hw hp K hK
  simp only [hz] at hp
  simp only [putAll]
  go_simp
  exact hK _ (Grow.refl _)
 apply lex_eq [(7, true)] [(19, 0), (20, 1), (21, 2), (22, 3), (23, 4), (24, 5), (25, 6), (26, 7), (32, 13), (33, 14), (34, 15)] (by kernel_rfl) (by kernel_rfl) rfl
 ·intro xs w hw hp K hK
  simp only [hz] at hp
  simp only [putAll]
  go_simp
  exact hK _ (Grow.refl _)
 apply lex_eq [(8, true)] [(19, 0), (20, 1), (21, 2), (22, 3), (23, 4), (24, 5), (25, 6), (26, 7), (27, 8), (29, 10), (31, 12), (32, 13), (33, 14), (34, 15), (35, 16), (36, 17)] (by kernel_rfl) (by kernel_rfl) rfl
 ·intro xs w hw hp K hK
  simp only [hz] at hp
  simp only [putAll]
  have h2 := enres (HN.out w hw)
  have c0 := h2.1
  have c1 := h2.2.1
  have c2 := h2.2.2.1
  go_simp
  exact hK _ (Grow.refl _)
 apply lex_eq [(8, true)] [(19, 0), (20, 1), (21, 2), (22, 3), (23, 4), (24, 5), (25, 6), (26, 7), (27, 8), (28, 9), (32, 13), (33, 14), (34, 15), (35, 16), (36, 17)] (by kernel_rfl) (by kernel_rfl) rfl
 ·intro xs w hw hp K hK
  simp only [hz] at hp
  simp only [putAll]
  go_simp
  exact (least_any w).mono fun e w' h => ⟨_, h.1, hK _ h.2⟩
 apply lex_eq [(8, true), (9, true), (10, true)] [(19, 0), (20, 1), (21, 2), (22, 3), (23, 4), (24, 5), (25, 6), (26, 7), (27, 8), (28, 9), (29, 10), (32, 13), (33, 14), (34, 15), (35, 16), (36, 17)] (by kernel_rfl) (by kernel_rfl) rfl
 ·intro xs w hw hp K hK
  simp only [hz] at hp
  unfold enV at hp
  simp only [putAll]
  go_simp
  simp only [HQ.out, Bool.not_true]
  exact hK _ (Grow.refl _)
 apply lex_eq [(8, true), (11, true)] [(19, 0), (20, 1), (21, 2), (22, 3), (23, 4), (24, 5), (25, 6), (26, 7), (27, 8), (28, 9), (29, 10), (30, 11), (36, 17)] (by kernel_rfl) (by kernel_rfl) rfl
 ·intro xs w hw hp K hK
  simp only [hz] at hp
  simp only [putAll]
  go_simp
  exact hK _ (Grow.refl _)
 apply lex_eq [(12, true)] [(19, 0), (20, 1), (21, 2), (22, 3), (23, 4), (24, 5), (25, 6), (26, 7), (27, 8), (28, 9), (29, 10), (30, 11), (31, 12), (34, 15), (35, 16), (36, 17)] (by kernel_rfl) (by kernel_rfl) rfl
 ·intro xs w hw hp K hK
  simp only [hz] at hp
  simp only [putAll]
  go_simp
  exact hK _ (Grow.refl _)
 apply lex_eq [(12, true), (13, true)] [(19, 0), (20, 1), (21, 2), (22, 3), (23, 4), (24, 5), (25, 6), (26, 7), (27, 8), (28, 9), (29, 10), (30, 11), (31, 12), (32, 13), (35, 16), (36, 17)] (by kernel_rfl) (by kernel_rfl) rfl
 ·intro xs w hw hp K hK
  simp only [hz] at hp
  simp only [putAll]
  go_simp
  exact hK _ (Grow.refl _)
 apply lex_eq [(12, true), (14, true)] [(19, 0), (20, 1), (21, 2), (22, 3), (23, 4), (24, 5), (25, 6), (26, 7), (27, 8), (28, 9), (29, 10), (30, 11), (31, 12), (32, 13), (33, 14), (36, 17)] (by kernel_rfl) (by kernel_rfl) rfl
 ·intro xs w hw hp K hK
  simp only [hz] at hp
  simp only [putAll]
  go_simp
  exact hK _ (Grow.refl _)
 apply lex_eq [(8, true), (12, true), (15, true)] [(19, 0), (20, 1), (21, 2), (22, 3), (23, 4), (24, 5), (25, 6), (26, 7), (27, 8), (28, 9), (29, 10), (30, 11), (31, 12), (32, 13), (33, 14), (34, 15)] (by kernel_rfl) (by kernel_rfl) rfl
 ·intro xs w hw hp K hK
  simp only [hz] at hp
  simp only [putAll]
  go_simp
  exact hK _ (Grow.refl _)
 intro xs w hw hp
 generalize hA : putAll xs _ _ = A
 simp only [hz] at hp
 have h8 := hp.2.2.2.2.2.2.2.2.1
 have h16 := hp.2.2.2.2.2.2.2.2.2.2.2.2.2.2.2.2
 clear hp
 subst hA
 simp only [putAll, h8, h16]
 have hgw : Grow w6 w := hw.undrew
 have hR7 := hR6.fits hgw
 have hN7 := HN0.out.fits hgw
 have hg7 := Grow.trans hg6 hgw
 have Hlt := keep hR7.lt
 clear hw h8 h16 hgw hR6 hg6
 obtain ⟨r0, r1, r2, f0, f1, f2⟩ := enres hR7
 obtain ⟨c0, c1, c2, _⟩ := enres hN7
 have Hset := keep (enset hR7 (.string (str k)) (.int .i64 p) (.int .i64 s))
 have Hbut := keep (enbut w w_.heap.size (.string (str k)) (.int .i64 p) (.int .i64 s))
 clear hR7 hN7
 go_wp2_with fail
 rw [HD2.out]
 refine bodyPost_ret (v := .tuple #[enV (k, p, s), .int .i64 c, .int .i64 0]) ?_ rfl ⟨rfl, But.below hg7 Hbut.out (Nat.le_refl _) (Nat.le_of_lt Hlt.out)⟩
 obtain ⟨s0, s1, s2, _⟩ := enres Hset.out
 simp [results, Tryz.results79, go_sem, s0, s1, s2, enV]
set_option maxRecDepth 100000 in
set_option maxHeartbeats 2000000 in
theorem unsep_4 (l : List UInt8) (w_ : World) (hs : (l.length : Int) ≤ 9223372036854775807)
  (hE0 : endE ((takeC l).2.1, (takeC l).2.2) = 0) (hCi : inB (takeC l).1 1 65535 = true) (hL : isL ((takeK l).1, (takeP l).1, (takeS l).1) = false) (hA : enOk ((takeK l).1, (takeP l).1, (takeS l).1) = true) :
  Calls Tryz.prog 79 #[.string (str l)] w_ fun x w' => x = .returned (.tuple #[enV (unsN l).1, .int .i64 (unsN l).2.1, .int .i64 (unsN l).2.2]) ∧ Below w_.heap.size w_ w' := by
 obtain ⟨w0, hw0⟩ : ∃ w0, w0 = (w_.alloc (.cells #[.string ⟨#[]⟩, .int .i64 0, .int .i64 0] 102)) := ⟨_, rfl⟩
 have hg0 : Grow w_ w0 := by subst hw0; exact (Grow.refl w_).alloc _
 have hR0 : Blk w0 w_.heap.size 102 [.string ⟨#[]⟩, .int .i64 0, .int .i64 0] := by subst hw0; exact Blk.new w_ _ [_, _, _]
 have hz0 : w_.heap.size < w0.heap.size := hR0.lt
 have h1 := takeK_le l
 have h2 := takeP_le l
 have h3 := takeS_le l
 have h4 := takeC_le l
 have hd : unsN l = if decide (endE ((takeC l).2.1, (takeC l).2.2) = 0) && (inB (takeC l).1 1 65535 && (decide (((takeK l).1, (takeP l).1, (takeS l).1) = leastE) || enOk ((takeK l).1, (takeP l).1, (takeS l).1))) then (((takeK l).1, (takeP l).1, (takeS l).1), (takeC l).1, 0) else (leastE, 0, 140) := rfl
 have hK := fun u b (h : Rd u b (str l) 0) => rdText_ok b (str l) 24 u h (by unfold maxLen; simp; omega) (by decide)
 have hP := fun u b (h : Rd u b (str (takeK l).2.1) (takeK l).2.2) => rdNum_any b 65535 ((takeK l).2.1, (takeK l).2.2) u h (by dsimp only; omega) (by decide)
 have hS := fun u b (h : Rd u b (str (takeP l).2.1) (takeP l).2.2) => rdNum_any b 65535 ((takeP l).2.1, (takeP l).2.2) u h (by dsimp only; omega) (by decide)
 have hC := fun u b (h : Rd u b (str (takeS l).2.1) (takeS l).2.2) => rdNum_any b 65535 ((takeS l).2.1, (takeS l).2.2) u h (by dsimp only; omega) (by decide)
 have hE := fun u b (h : Rd u b (str (takeC l).2.1) (takeC l).2.2) => rdEnd b (str (takeC l).2.1) (takeC l).2.2 u h
 have hee : (if (takeC l).2.2 = 0 ∧ 0 < (str (takeC l).2.1).size then (12 : Int) else (takeC l).2.2) = endE ((takeC l).2.1, (takeC l).2.2) := rfl
 simp only [str_toList] at hK
 rw [hee] at hE
 change ∀ u b, Rd u b (str (takeK l).2.1) (takeK l).2.2 → Calls _ _ _ _ (fun e w' => e = .returned (.int .i64 (takeP l).1) ∧ Rd w' b (str (takeP l).2.1) (takeP l).2.2 ∧ But b u w') at hP
 change ∀ u b, Rd u b (str (takeP l).2.1) (takeP l).2.2 → Calls _ _ _ _ (fun e w' => e = .returned (.int .i64 (takeS l).1) ∧ Rd w' b (str (takeS l).2.1) (takeS l).2.2 ∧ But b u w') at hS
 change ∀ u b, Rd u b (str (takeS l).2.1) (takeS l).2.2 → Calls _ _ _ _ (fun e w' => e = .returned (.int .i64 (takeC l).1) ∧ Rd w' b (str (takeC l).2.1) (takeC l).2.2 ∧ But b u w') at hC
 change ∀ u b, Rd u b (str l) 0 → Calls _ _ _ _ (fun e w' => e = .returned (.string (str (takeK l).1)) ∧ Rd w' b (str (takeK l).2.1) (takeK l).2.2 ∧ But b u w') at hK
 clear hee h1 h2 h3 h4
 generalize endE ((takeC l).2.1, (takeC l).2.2) = EE at *
 generalize takeC l = C at *
 generalize takeS l = S at *
 generalize takeP l = P at *
 generalize takeK l = K at *
 obtain ⟨k, kr, ke⟩ := K
 obtain ⟨p, pr, pe⟩ := P
 obtain ⟨s, sr, se⟩ := S
 obtain ⟨c, cr, ce⟩ := C
 dsimp only at hd hK hP hS hC hE
 have hd2 : unsN l = ((k, p, s), c, 0) := by rw [hd, hCi, hE0, hA]; simp
 have HD2 := keep hd2
 have HC := keep hCi
 have HQ := keep hL
 have HA := keep hA
 clear hd hd2 hCi hL hA
 have HK := keep hK
 have HP := keep hP
 have HS := keep hS
 have HE := keep hE
 have HCn := keep hC
 clear hK hP hS hC hE
 go_enter Tryz.func79, Tryz.ntmps79
 go_upto_region 1 with fail
 rw [← hw0]
 clear hw0
 go_wp2_with fail
 refine (rdRead (str l) w0).mono ?_
 rintro x w1 ⟨rfl, hw1⟩
 have hg1 : Grow w0 w1 := by subst hw1; exact (Grow.refl _).alloc _
 have hD1 : Rd w1 w0.heap.size (str l) 0 := by subst hw1; exact Blk.new w0 _ [_, _]
 clear hw1
 have hR1 := hR0.fits hg1
 go_wp2_with fail
 refine (HK.out w1 _ hD1).mono ?_
 rintro x w2 ⟨rfl, hD2, hb2⟩
 have hR2 := hR1.but hb2 (by omega)
 go_wp2_with fail
 refine (HP.out w2 _ hD2).mono ?_
 rintro x w3 ⟨rfl, hD3, hb3⟩
 have hR3 := hR2.but hb3 (by omega)
 go_wp2_with fail
 refine (HS.out w3 _ hD3).mono ?_
 rintro x w4 ⟨rfl, hD4, hb4⟩
 have hR4 := hR3.but hb4 (by omega)
 have hbt : But w0.heap.size w1 w4 := (hb2.trans hb3).trans hb4
 have hg4 : Below w_.heap.size w_ w4 := But.below (Below.trans hg0 (hg1.mono (by omega))) hbt (by omega) (by have := hR1.lt; omega)
 clear hD1 hD2 hD3 hb2 hb3 hb4 hR1 hR2 hR3 hR0 hg0 hg1 hbt
 go_upto_region 3 with fail
 obtain ⟨w5, hw5⟩ : ∃ w5, w5 = w4.alloc (.cells #[.string (str k), .int .i64 p, .int .i64 s] 102) := ⟨_, rfl⟩
 rw [← hw5]
 have hg5 : Grow w4 w5 := by subst hw5; exact (Grow.refl _).alloc _
 have hN5 : Blk w5 w4.heap.size 102 [.string (str k), .int .i64 p, .int .i64 s] := by subst hw5; exact Blk.new w4 _ [_, _, _]
 have hD5 : Rd w5 w0.heap.size (str sr) se := Blk.fits hD4 hg5
 have hR5 := hR4.fits hg5
 have hlt4 := hD4.lt
 have hgg : Grow w_ w5 := Below.trans hg4 (hg5.mono (by have := hR4.lt; omega))
 clear hw5 hg5 hR4 hg4
 go_wp2_with fail
 refine (HCn.out w5 _ hD5).mono ?_
 rintro x w6 ⟨rfl, hD6, hb6⟩
 have hR6 := hR5.but hb6 (by omega)
 have hN6 := hN5.but hb6 (by omega)
 have hg6 : Grow w_ w6 := But.below hgg hb6 (by omega) (by have := hR5.lt; omega)
 clear hD4 hD5 hb6 hR5 hN5 hgg
 have HN0 := keep hN6
 have HN := keep (fun (u : World) (hu : Grow w6.drew u) => Blk.fits (w := w6.drew) hN6 hu)
 have HEu := keep (fun (u : World) (hu : Grow w6.drew u) => HE.out u w0.heap.size (Blk.fits (w := w6.drew) hD6 hu))
 clear hN6 hD6
 subst hE0
 go_wp2_with fail
 refine wp_region_grow (by kernel_rfl) 17 (by kernel_rfl) [(19, 0), (20, 1), (21, 2), (22, 3), (23, 4), (24, 5), (25, 6), (26, 7), (27, 8), (28, 9), (29, 10), (30, 11), (31, 12), (32, 13), (33, 14), (34, 15), (35, 16)] (by kernel_rfl) [(0, true), (1, true), (2, true), (3, true), (4, true), (5, true), (6, true), (7, true), (8, true), (9, true), (10, true), (11, true), (12, true), (13, true), (14, true), (15, true), (16, true)] (by kernel_rfl) rfl rfl ?_
 apply lex_eq [] [(21, 2), (22, 3), (23, 4), (24, 5), (25, 6), (26, 7), (27, 8), (28, 9), (29, 10), (30, 11), (31, 12), (32, 13), (33, 14), (34, 15), (35, 16), (36, 17)] (by kernel_rfl) (by kernel_rfl) rfl
 ·intro xs w hw hp K hK
  simp only [putAll]
  go_simp
  exact hK _ (Grow.refl _)
 apply lex_eq [(0, true)] [(19, 0), (23, 4), (24, 5), (25, 6), (26, 7), (27, 8), (28, 9), (29, 10), (30, 11), (31, 12), (32, 13), (33, 14), (34, 15), (35, 16), (36, 17)] (by kernel_rfl) (by kernel_rfl) rfl
 ·intro xs w hw hp K hK
  simp only [hz] at hp
  simp only [putAll]
  go_simp
  exact (HEu.out w hw).mono fun e w' h => ⟨_, h.1, hK _ (by rw [← h.2]; exact Grow.refl _)⟩
 apply lex_eq [(1, true)] [(19, 0), (20, 1), (23, 4), (24, 5), (25, 6), (26, 7), (27, 8), (28, 9), (29, 10), (30, 11), (31, 12), (32, 13), (33, 14), (34, 15), (35, 16), (36, 17)] (by kernel_rfl) (by kernel_rfl) rfl
 ·intro xs w hw hp K hK
  simp only [hz] at hp
  simp only [putAll]
  go_simp
  exact hK _ (Grow.refl _)
 apply lex_eq [(2, true)] [(19, 0), (20, 1), (21, 2), (27, 8), (28, 9), (29, 10), (30, 11), (31, 12), (32, 13), (33, 14), (34, 15), (35, 16), (36, 17)] (by kernel_rfl) (by kernel_rfl) rfl
 ·intro xs w hw hp K hK
  simp only [hz] at hp
  simp only [putAll]
  go_simp
  exact hK _ (Grow.refl _)
 apply lex_eq [(3, true)] [(19, 0), (20, 1), (21, 2), (22, 3), (25, 6), (26, 7), (27, 8), (28, 9), (29, 10), (30, 11), (31, 12), (32, 13), (33, 14), (34, 15), (35, 16), (36, 17)] (by kernel_rfl) (by kernel_rfl) rfl
 ·intro xs w hw hp K hK
  simp only [hz] at hp
  simp only [putAll]
  go_simp
  exact hK _ (Grow.refl _)
 apply lex_eq [(3, true), (4, true)] [(19, 0), (20, 1), (21, 2), (22, 3), (23, 4), (26, 7), (28, 9), (29, 10), (30, 11), (31, 12), (32, 13), (33, 14), (34, 15), (35, 16), (36, 17)] (by kernel_rfl) (by kernel_rfl) rfl
 ·intro xs w hw hp K hK
  simp only [hz] at hp
  simp only [putAll]
  go_simp
  exact (isChild_any c w).mono fun e w' h => ⟨_, h.1.trans (by rw [HC.out]), hK _ (by rw [← h.2]; exact Grow.refl _)⟩
 apply lex_eq [(3, true), (5, true)] [(19, 0), (20, 1), (21, 2), (22, 3), (23, 4), (24, 5), (27, 8), (28, 9), (29, 10), (30, 11), (31, 12), (32, 13), (33, 14), (34, 15), (35, 16), (36, 17)] (by kernel_rfl) (by kernel_rfl) rfl
 ·intro xs w hw hp K hK
  simp only [hz] at hp
  simp only [putAll]
  go_simp
  exact hK _ (Grow.refl _)
 apply lex_eq [(3, true), (6, true)] [(19, 0), (20, 1), (21, 2), (22, 3), (23, 4), (24, 5), (25, 6), (28, 9), (29, 10), (30, 11), (31, 12), (32, 13), (33, 14), (34, 15), (35, 16), (36, 17)] (by kernel_rfl) (by kernel_rfl) rfl
 ·intro xs w hw hp K hK
  simp only [hz] at hp
  simp only [putAll]
  go_simp
  exact hK _ (Grow.refl _)
 apply lex_eq [(7, true)] [(19, 0), (20, 1), (21, 2), (22, 3), (23, 4), (24, 5), (25, 6), (26, 7), (32, 13), (33, 14), (34, 15)] (by kernel_rfl) (by kernel_rfl) rfl
 ·intro xs w hw hp K hK
  simp only [hz] at hp
  simp only [putAll]
  go_simp
  exact hK _ (Grow.refl _)
 apply lex_eq [(8, true)] [(19, 0), (20, 1), (21, 2), (22, 3), (23, 4), (24, 5), (25, 6), (26, 7), (27, 8), (29, 10), (31, 12), (32, 13), (33, 14), (34, 15), (35, 16), (36, 17)] (by kernel_rfl) (by kernel_rfl) rfl
 ·intro xs w hw hp K hK
  simp only [hz] at hp
  simp only [putAll]
  have h2 := enres (HN.out w hw)
  have c0 := h2.1
  have c1 := h2.2.1
  have c2 := h2.2.2.1
  go_simp
  exact hK _ (Grow.refl _)
 apply lex_eq [(8, true)] [(19, 0), (20, 1), (21, 2), (22, 3), (23, 4), (24, 5), (25, 6), (26, 7), (27, 8), (28, 9), (32, 13), (33, 14), (34, 15), (35, 16), (36, 17)] (by kernel_rfl) (by kernel_rfl) rfl
 ·intro xs w hw hp K hK
  simp only [hz] at hp
  simp only [putAll]
  go_simp
  exact (least_any w).mono fun e w' h => ⟨_, h.1, hK _ h.2⟩
 apply lex_eq [(8, true), (9, true), (10, true)] [(19, 0), (20, 1), (21, 2), (22, 3), (23, 4), (24, 5), (25, 6), (26, 7), (27, 8), (28, 9), (29, 10), (32, 13), (33, 14), (34, 15), (35, 16), (36, 17)] (by kernel_rfl) (by kernel_rfl) rfl
 ·intro xs w hw hp K hK
  simp only [hz] at hp
  unfold enV at hp
  simp only [putAll]
  go_simp
  simp only [HQ.out, Bool.not_false]
  exact hK _ (Grow.refl _)
 apply lex_eq [(8, true), (11, true)] [(19, 0), (20, 1), (21, 2), (22, 3), (23, 4), (24, 5), (25, 6), (26, 7), (27, 8), (28, 9), (29, 10), (30, 11), (36, 17)] (by kernel_rfl) (by kernel_rfl) rfl
 ·intro xs w hw hp K hK
  simp only [hz] at hp
  simp only [putAll]
  go_simp
  exact hK _ (Grow.refl _)
 apply lex_eq [(12, true)] [(19, 0), (20, 1), (21, 2), (22, 3), (23, 4), (24, 5), (25, 6), (26, 7), (27, 8), (28, 9), (29, 10), (30, 11), (31, 12), (34, 15), (35, 16), (36, 17)] (by kernel_rfl) (by kernel_rfl) rfl
 ·intro xs w hw hp K hK
  simp only [hz] at hp
  simp only [putAll]
  have h2 := enres (HN.out w hw)
  have c0 := h2.1
  have c1 := h2.2.1
  have c2 := h2.2.2.1
  go_simp
  exact hK _ (Grow.refl _)
 apply lex_eq [(12, true), (13, true)] [(19, 0), (20, 1), (21, 2), (22, 3), (23, 4), (24, 5), (25, 6), (26, 7), (27, 8), (28, 9), (29, 10), (30, 11), (31, 12), (32, 13), (35, 16), (36, 17)] (by kernel_rfl) (by kernel_rfl) rfl
 ·intro xs w hw hp K hK
  simp only [hz] at hp
  simp only [putAll]
  go_simp
  exact (isEntry_any (k, p, s) w).mono fun e w' h => ⟨_, h.1.trans (by rw [HA.out]), hK _ h.2⟩
 apply lex_eq [(12, true), (14, true)] [(19, 0), (20, 1), (21, 2), (22, 3), (23, 4), (24, 5), (25, 6), (26, 7), (27, 8), (28, 9), (29, 10), (30, 11), (31, 12), (32, 13), (33, 14), (36, 17)] (by kernel_rfl) (by kernel_rfl) rfl
 ·intro xs w hw hp K hK
  simp only [hz] at hp
  simp only [putAll]
  go_simp
  exact hK _ (Grow.refl _)
 apply lex_eq [(8, true), (12, true), (15, true)] [(19, 0), (20, 1), (21, 2), (22, 3), (23, 4), (24, 5), (25, 6), (26, 7), (27, 8), (28, 9), (29, 10), (30, 11), (31, 12), (32, 13), (33, 14), (34, 15)] (by kernel_rfl) (by kernel_rfl) rfl
 ·intro xs w hw hp K hK
  simp only [hz] at hp
  simp only [putAll]
  go_simp
  exact hK _ (Grow.refl _)
 intro xs w hw hp
 generalize hA : putAll xs _ _ = A
 simp only [hz] at hp
 have h8 := hp.2.2.2.2.2.2.2.2.1
 have h16 := hp.2.2.2.2.2.2.2.2.2.2.2.2.2.2.2.2
 clear hp
 subst hA
 simp only [putAll, h8, h16]
 have hgw : Grow w6 w := hw.undrew
 have hR7 := hR6.fits hgw
 have hN7 := HN0.out.fits hgw
 have hg7 := Grow.trans hg6 hgw
 have Hlt := keep hR7.lt
 clear hw h8 h16 hgw hR6 hg6
 obtain ⟨r0, r1, r2, f0, f1, f2⟩ := enres hR7
 obtain ⟨c0, c1, c2, _⟩ := enres hN7
 have Hset := keep (enset hR7 (.string (str k)) (.int .i64 p) (.int .i64 s))
 have Hbut := keep (enbut w w_.heap.size (.string (str k)) (.int .i64 p) (.int .i64 s))
 clear hR7 hN7
 go_wp2_with fail
 rw [HD2.out]
 refine bodyPost_ret (v := .tuple #[enV (k, p, s), .int .i64 c, .int .i64 0]) ?_ rfl ⟨rfl, But.below hg7 Hbut.out (Nat.le_refl _) (Nat.le_of_lt Hlt.out)⟩
 obtain ⟨s0, s1, s2, _⟩ := enres Hset.out
 simp [results, Tryz.results79, go_sem, s0, s1, s2, enV]
set_option maxRecDepth 100000 in
set_option maxHeartbeats 2000000 in
theorem unsep_5 (l : List UInt8) (w_ : World) (hs : (l.length : Int) ≤ 9223372036854775807)
  (hE0 : endE ((takeC l).2.1, (takeC l).2.2) = 0) (hCi : inB (takeC l).1 1 65535 = true) (hL : isL ((takeK l).1, (takeP l).1, (takeS l).1) = false) (hA : enOk ((takeK l).1, (takeP l).1, (takeS l).1) = false) :
  Calls Tryz.prog 79 #[.string (str l)] w_ fun x w' => x = .returned (.tuple #[enV (unsN l).1, .int .i64 (unsN l).2.1, .int .i64 (unsN l).2.2]) ∧ Below w_.heap.size w_ w' := by
 obtain ⟨w0, hw0⟩ : ∃ w0, w0 = (w_.alloc (.cells #[.string ⟨#[]⟩, .int .i64 0, .int .i64 0] 102)) := ⟨_, rfl⟩
 have hg0 : Grow w_ w0 := by subst hw0; exact (Grow.refl w_).alloc _
 have hR0 : Blk w0 w_.heap.size 102 [.string ⟨#[]⟩, .int .i64 0, .int .i64 0] := by subst hw0; exact Blk.new w_ _ [_, _, _]
 have hz0 : w_.heap.size < w0.heap.size := hR0.lt
 have h1 := takeK_le l
 have h2 := takeP_le l
 have h3 := takeS_le l
 have h4 := takeC_le l
 have hd : unsN l = if decide (endE ((takeC l).2.1, (takeC l).2.2) = 0) && (inB (takeC l).1 1 65535 && (decide (((takeK l).1, (takeP l).1, (takeS l).1) = leastE) || enOk ((takeK l).1, (takeP l).1, (takeS l).1))) then (((takeK l).1, (takeP l).1, (takeS l).1), (takeC l).1, 0) else (leastE, 0, 140) := rfl
 have hK := fun u b (h : Rd u b (str l) 0) => rdText_ok b (str l) 24 u h (by unfold maxLen; simp; omega) (by decide)
 have hP := fun u b (h : Rd u b (str (takeK l).2.1) (takeK l).2.2) => rdNum_any b 65535 ((takeK l).2.1, (takeK l).2.2) u h (by dsimp only; omega) (by decide)
 have hS := fun u b (h : Rd u b (str (takeP l).2.1) (takeP l).2.2) => rdNum_any b 65535 ((takeP l).2.1, (takeP l).2.2) u h (by dsimp only; omega) (by decide)
 have hC := fun u b (h : Rd u b (str (takeS l).2.1) (takeS l).2.2) => rdNum_any b 65535 ((takeS l).2.1, (takeS l).2.2) u h (by dsimp only; omega) (by decide)
 have hE := fun u b (h : Rd u b (str (takeC l).2.1) (takeC l).2.2) => rdEnd b (str (takeC l).2.1) (takeC l).2.2 u h
 have hee : (if (takeC l).2.2 = 0 ∧ 0 < (str (takeC l).2.1).size then (12 : Int) else (takeC l).2.2) = endE ((takeC l).2.1, (takeC l).2.2) := rfl
 simp only [str_toList] at hK
 rw [hee] at hE
 change ∀ u b, Rd u b (str (takeK l).2.1) (takeK l).2.2 → Calls _ _ _ _ (fun e w' => e = .returned (.int .i64 (takeP l).1) ∧ Rd w' b (str (takeP l).2.1) (takeP l).2.2 ∧ But b u w') at hP
 change ∀ u b, Rd u b (str (takeP l).2.1) (takeP l).2.2 → Calls _ _ _ _ (fun e w' => e = .returned (.int .i64 (takeS l).1) ∧ Rd w' b (str (takeS l).2.1) (takeS l).2.2 ∧ But b u w') at hS
 change ∀ u b, Rd u b (str (takeS l).2.1) (takeS l).2.2 → Calls _ _ _ _ (fun e w' => e = .returned (.int .i64 (takeC l).1) ∧ Rd w' b (str (takeC l).2.1) (takeC l).2.2 ∧ But b u w') at hC
 change ∀ u b, Rd u b (str l) 0 → Calls _ _ _ _ (fun e w' => e = .returned (.string (str (takeK l).1)) ∧ Rd w' b (str (takeK l).2.1) (takeK l).2.2 ∧ But b u w') at hK
 clear hee h1 h2 h3 h4
 generalize endE ((takeC l).2.1, (takeC l).2.2) = EE at *
 generalize takeC l = C at *
 generalize takeS l = S at *
 generalize takeP l = P at *
 generalize takeK l = K at *
 obtain ⟨k, kr, ke⟩ := K
 obtain ⟨p, pr, pe⟩ := P
 obtain ⟨s, sr, se⟩ := S
 obtain ⟨c, cr, ce⟩ := C
 dsimp only at hd hK hP hS hC hE
 have hd2 : unsN l = (leastE, 0, 140) := by rw [hd, hCi, hE0, hA, show decide ((k, p, s) = leastE) = false from hL]; rfl
 have HD2 := keep hd2
 have HC := keep hCi
 have HQ := keep hL
 have HA := keep hA
 clear hd hd2 hCi hL hA
 have HK := keep hK
 have HP := keep hP
 have HS := keep hS
 have HE := keep hE
 have HCn := keep hC
 clear hK hP hS hC hE
 go_enter Tryz.func79, Tryz.ntmps79
 go_upto_region 1 with fail
 rw [← hw0]
 clear hw0
 go_wp2_with fail
 refine (rdRead (str l) w0).mono ?_
 rintro x w1 ⟨rfl, hw1⟩
 have hg1 : Grow w0 w1 := by subst hw1; exact (Grow.refl _).alloc _
 have hD1 : Rd w1 w0.heap.size (str l) 0 := by subst hw1; exact Blk.new w0 _ [_, _]
 clear hw1
 have hR1 := hR0.fits hg1
 go_wp2_with fail
 refine (HK.out w1 _ hD1).mono ?_
 rintro x w2 ⟨rfl, hD2, hb2⟩
 have hR2 := hR1.but hb2 (by omega)
 go_wp2_with fail
 refine (HP.out w2 _ hD2).mono ?_
 rintro x w3 ⟨rfl, hD3, hb3⟩
 have hR3 := hR2.but hb3 (by omega)
 go_wp2_with fail
 refine (HS.out w3 _ hD3).mono ?_
 rintro x w4 ⟨rfl, hD4, hb4⟩
 have hR4 := hR3.but hb4 (by omega)
 have hbt : But w0.heap.size w1 w4 := (hb2.trans hb3).trans hb4
 have hg4 : Below w_.heap.size w_ w4 := But.below (Below.trans hg0 (hg1.mono (by omega))) hbt (by omega) (by have := hR1.lt; omega)
 clear hD1 hD2 hD3 hb2 hb3 hb4 hR1 hR2 hR3 hR0 hg0 hg1 hbt
 go_upto_region 3 with fail
 obtain ⟨w5, hw5⟩ : ∃ w5, w5 = w4.alloc (.cells #[.string (str k), .int .i64 p, .int .i64 s] 102) := ⟨_, rfl⟩
 rw [← hw5]
 have hg5 : Grow w4 w5 := by subst hw5; exact (Grow.refl _).alloc _
 have hN5 : Blk w5 w4.heap.size 102 [.string (str k), .int .i64 p, .int .i64 s] := by subst hw5; exact Blk.new w4 _ [_, _, _]
 have hD5 : Rd w5 w0.heap.size (str sr) se := Blk.fits hD4 hg5
 have hR5 := hR4.fits hg5
 have hlt4 := hD4.lt
 have hgg : Grow w_ w5 := Below.trans hg4 (hg5.mono (by have := hR4.lt; omega))
 clear hw5 hg5 hR4 hg4
 go_wp2_with fail
 refine (HCn.out w5 _ hD5).mono ?_
 rintro x w6 ⟨rfl, hD6, hb6⟩
 have hR6 := hR5.but hb6 (by omega)
 have hN6 := hN5.but hb6 (by omega)
 have hg6 : Grow w_ w6 := But.below hgg hb6 (by omega) (by have := hR5.lt; omega)
 clear hD4 hD5 hb6 hR5 hN5 hgg
 have HN0 := keep hN6
 have HN := keep (fun (u : World) (hu : Grow w6.drew u) => Blk.fits (w := w6.drew) hN6 hu)
 have HEu := keep (fun (u : World) (hu : Grow w6.drew u) => HE.out u w0.heap.size (Blk.fits (w := w6.drew) hD6 hu))
 clear hN6 hD6
 subst hE0
 go_wp2_with fail
 refine wp_region_grow (by kernel_rfl) 17 (by kernel_rfl) [(19, 0), (20, 1), (21, 2), (22, 3), (23, 4), (24, 5), (25, 6), (26, 7), (27, 8), (28, 9), (29, 10), (30, 11), (31, 12), (32, 13), (33, 14), (34, 15), (35, 16)] (by kernel_rfl) [(0, true), (1, true), (2, true), (3, true), (4, true), (5, true), (6, true), (7, true), (8, true), (9, true), (10, true), (11, true), (12, true), (13, true), (14, true), (15, true), (16, true)] (by kernel_rfl) rfl rfl ?_
 apply lex_eq [] [(21, 2), (22, 3), (23, 4), (24, 5), (25, 6), (26, 7), (27, 8), (28, 9), (29, 10), (30, 11), (31, 12), (32, 13), (33, 14), (34, 15), (35, 16), (36, 17)] (by kernel_rfl) (by kernel_rfl) rfl
 ·intro xs w hw hp K hK
  simp only [putAll]
  go_simp
  exact hK _ (Grow.refl _)
 apply lex_eq [(0, true)] [(19, 0), (23, 4), (24, 5), (25, 6), (26, 7), (27, 8), (28, 9), (29, 10), (30, 11), (31, 12), (32, 13), (33, 14), (34, 15), (35, 16), (36, 17)] (by kernel_rfl) (by kernel_rfl) rfl
 ·intro xs w hw hp K hK
  simp only [hz] at hp
  simp only [putAll]
  go_simp
  exact (HEu.out w hw).mono fun e w' h => ⟨_, h.1, hK _ (by rw [← h.2]; exact Grow.refl _)⟩
 apply lex_eq [(1, true)] [(19, 0), (20, 1), (23, 4), (24, 5), (25, 6), (26, 7), (27, 8), (28, 9), (29, 10), (30, 11), (31, 12), (32, 13), (33, 14), (34, 15), (35, 16), (36, 17)] (by kernel_rfl) (by kernel_rfl) rfl
 ·intro xs w hw hp K hK
  simp only [hz] at hp
  simp only [putAll]
  go_simp
  exact hK _ (Grow.refl _)
 apply lex_eq [(2, true)] [(19, 0), (20, 1), (21, 2), (27, 8), (28, 9), (29, 10), (30, 11), (31, 12), (32, 13), (33, 14), (34, 15), (35, 16), (36, 17)] (by kernel_rfl) (by kernel_rfl) rfl
 ·intro xs w hw hp K hK
  simp only [hz] at hp
  simp only [putAll]
  go_simp
  exact hK _ (Grow.refl _)
 apply lex_eq [(3, true)] [(19, 0), (20, 1), (21, 2), (22, 3), (25, 6), (26, 7), (27, 8), (28, 9), (29, 10), (30, 11), (31, 12), (32, 13), (33, 14), (34, 15), (35, 16), (36, 17)] (by kernel_rfl) (by kernel_rfl) rfl
 ·intro xs w hw hp K hK
  simp only [hz] at hp
  simp only [putAll]
  go_simp
  exact hK _ (Grow.refl _)
 apply lex_eq [(3, true), (4, true)] [(19, 0), (20, 1), (21, 2), (22, 3), (23, 4), (26, 7), (28, 9), (29, 10), (30, 11), (31, 12), (32, 13), (33, 14), (34, 15), (35, 16), (36, 17)] (by kernel_rfl) (by kernel_rfl) rfl
 ·intro xs w hw hp K hK
  simp only [hz] at hp
  simp only [putAll]
  go_simp
  exact (isChild_any c w).mono fun e w' h => ⟨_, h.1.trans (by rw [HC.out]), hK _ (by rw [← h.2]; exact Grow.refl _)⟩
 apply lex_eq [(3, true), (5, true)] [(19, 0), (20, 1), (21, 2), (22, 3), (23, 4), (24, 5), (27, 8), (28, 9), (29, 10), (30, 11), (31, 12), (32, 13), (33, 14), (34, 15), (35, 16), (36, 17)] (by kernel_rfl) (by kernel_rfl) rfl
 ·intro xs w hw hp K hK
  simp only [hz] at hp
  simp only [putAll]
  go_simp
  exact hK _ (Grow.refl _)
 apply lex_eq [(3, true), (6, true)] [(19, 0), (20, 1), (21, 2), (22, 3), (23, 4), (24, 5), (25, 6), (28, 9), (29, 10), (30, 11), (31, 12), (32, 13), (33, 14), (34, 15), (35, 16), (36, 17)] (by kernel_rfl) (by kernel_rfl) rfl
 ·intro xs w hw hp K hK
  simp only [hz] at hp
  simp only [putAll]
  go_simp
  exact hK _ (Grow.refl _)
 apply lex_eq [(7, true)] [(19, 0), (20, 1), (21, 2), (22, 3), (23, 4), (24, 5), (25, 6), (26, 7), (32, 13), (33, 14), (34, 15)] (by kernel_rfl) (by kernel_rfl) rfl
 ·intro xs w hw hp K hK
  simp only [hz] at hp
  simp only [putAll]
  go_simp
  exact hK _ (Grow.refl _)
 apply lex_eq [(8, true)] [(19, 0), (20, 1), (21, 2), (22, 3), (23, 4), (24, 5), (25, 6), (26, 7), (27, 8), (29, 10), (31, 12), (32, 13), (33, 14), (34, 15), (35, 16), (36, 17)] (by kernel_rfl) (by kernel_rfl) rfl
 ·intro xs w hw hp K hK
  simp only [hz] at hp
  simp only [putAll]
  have h2 := enres (HN.out w hw)
  have c0 := h2.1
  have c1 := h2.2.1
  have c2 := h2.2.2.1
  go_simp
  exact hK _ (Grow.refl _)
 apply lex_eq [(8, true)] [(19, 0), (20, 1), (21, 2), (22, 3), (23, 4), (24, 5), (25, 6), (26, 7), (27, 8), (28, 9), (32, 13), (33, 14), (34, 15), (35, 16), (36, 17)] (by kernel_rfl) (by kernel_rfl) rfl
 ·intro xs w hw hp K hK
  simp only [hz] at hp
  simp only [putAll]
  go_simp
  exact (least_any w).mono fun e w' h => ⟨_, h.1, hK _ h.2⟩
 apply lex_eq [(8, true), (9, true), (10, true)] [(19, 0), (20, 1), (21, 2), (22, 3), (23, 4), (24, 5), (25, 6), (26, 7), (27, 8), (28, 9), (29, 10), (32, 13), (33, 14), (34, 15), (35, 16), (36, 17)] (by kernel_rfl) (by kernel_rfl) rfl
 ·intro xs w hw hp K hK
  simp only [hz] at hp
  unfold enV at hp
  simp only [putAll]
  go_simp
  simp only [HQ.out, Bool.not_false]
  exact hK _ (Grow.refl _)
 apply lex_eq [(8, true), (11, true)] [(19, 0), (20, 1), (21, 2), (22, 3), (23, 4), (24, 5), (25, 6), (26, 7), (27, 8), (28, 9), (29, 10), (30, 11), (36, 17)] (by kernel_rfl) (by kernel_rfl) rfl
 ·intro xs w hw hp K hK
  simp only [hz] at hp
  simp only [putAll]
  go_simp
  exact hK _ (Grow.refl _)
 apply lex_eq [(12, true)] [(19, 0), (20, 1), (21, 2), (22, 3), (23, 4), (24, 5), (25, 6), (26, 7), (27, 8), (28, 9), (29, 10), (30, 11), (31, 12), (34, 15), (35, 16), (36, 17)] (by kernel_rfl) (by kernel_rfl) rfl
 ·intro xs w hw hp K hK
  simp only [hz] at hp
  simp only [putAll]
  have h2 := enres (HN.out w hw)
  have c0 := h2.1
  have c1 := h2.2.1
  have c2 := h2.2.2.1
  go_simp
  exact hK _ (Grow.refl _)
 apply lex_eq [(12, true), (13, true)] [(19, 0), (20, 1), (21, 2), (22, 3), (23, 4), (24, 5), (25, 6), (26, 7), (27, 8), (28, 9), (29, 10), (30, 11), (31, 12), (32, 13), (35, 16), (36, 17)] (by kernel_rfl) (by kernel_rfl) rfl
 ·intro xs w hw hp K hK
  simp only [hz] at hp
  simp only [putAll]
  go_simp
  exact (isEntry_any (k, p, s) w).mono fun e w' h => ⟨_, h.1.trans (by rw [HA.out]), hK _ h.2⟩
 apply lex_eq [(12, true), (14, true)] [(19, 0), (20, 1), (21, 2), (22, 3), (23, 4), (24, 5), (25, 6), (26, 7), (27, 8), (28, 9), (29, 10), (30, 11), (31, 12), (32, 13), (33, 14), (36, 17)] (by kernel_rfl) (by kernel_rfl) rfl
 ·intro xs w hw hp K hK
  simp only [hz] at hp
  simp only [putAll]
  go_simp
  exact hK _ (Grow.refl _)
 apply lex_eq [(8, true), (12, true), (15, true)] [(19, 0), (20, 1), (21, 2), (22, 3), (23, 4), (24, 5), (25, 6), (26, 7), (27, 8), (28, 9), (29, 10), (30, 11), (31, 12), (32, 13), (33, 14), (34, 15)] (by kernel_rfl) (by kernel_rfl) rfl
 ·intro xs w hw hp K hK
  simp only [hz] at hp
  simp only [putAll]
  go_simp
  exact hK _ (Grow.refl _)
 intro xs w hw hp
 generalize hA : putAll xs _ _ = A
 simp only [hz] at hp
 have h8 := hp.2.2.2.2.2.2.2.2.1
 have h16 := hp.2.2.2.2.2.2.2.2.2.2.2.2.2.2.2.2
 clear hp
 subst hA
 simp only [putAll, h8, h16]
 have hgw : Grow w6 w := hw.undrew
 have hR7 := hR6.fits hgw
 have hN7 := HN0.out.fits hgw
 have hg7 := Grow.trans hg6 hgw
 have Hlt := keep hR7.lt
 clear hw h8 h16 hgw hR6 hg6
 obtain ⟨r0, r1, r2, f0, f1, f2⟩ := enres hR7
 have Hset := keep (enset hR7 (.string ⟨#[]⟩) (.int .i64 0) (.int .i64 0))
 have Hbut := keep (enbut w w_.heap.size (.string ⟨#[]⟩) (.int .i64 0) (.int .i64 0))
 clear hR7 hN7
 go_wp2_with fail
 rw [HD2.out]
 refine bodyPost_ret (v := .tuple #[enV leastE, .int .i64 0, .int .i64 140]) ?_ rfl ⟨rfl, But.below hg7 Hbut.out (Nat.le_refl _) (Nat.le_of_lt Hlt.out)⟩
 obtain ⟨s0, s1, s2, _⟩ := enres Hset.out
 simp [results, Tryz.results79, go_sem, s0, s1, s2, enV, leastE]
 rfl
theorem unsep_any (l : List UInt8) (w_ : World) (hs : (l.length : Int) ≤ 9223372036854775807) :
  Calls Tryz.prog 79 #[.string (str l)] w_ fun x w' => x = .returned (.tuple #[enV (unsN l).1, .int .i64 (unsN l).2.1, .int .i64 (unsN l).2.2]) ∧ Below w_.heap.size w_ w' := by
 by_cases hE : endE ((takeC l).2.1, (takeC l).2.2) = 0
 ·cases hC : inB (takeC l).1 1 65535 with
  | false => exact unsep_2 l w_ hs hE hC
  | true =>
   cases hL : isL ((takeK l).1, (takeP l).1, (takeS l).1) with
   | true => exact unsep_3 l w_ hs hE hC hL
   | false =>
    cases hA : enOk ((takeK l).1, (takeP l).1, (takeS l).1) with
    | true => exact unsep_4 l w_ hs hE hC hL hA
    | false => exact unsep_5 l w_ hs hE hC hL hA
 ·exact unsep_1 l w_ hs hE
end Go.Proofs.YtmhepfehcakmjaaGreat
namespace Go.Proofs.YtmhepfehcakmjaaGreat
open Go.RowKit
end Go.Proofs.YtmhepfehcakmjaaGreat
namespace Go.Proofs.YtmhepfehcakmjaaGreat
open Go.RowKit
theorem ints_at {w : World} {v : Value} {l : List Int} (h : Row w 3 v l.length (iCells l)) {k : Nat} (hk : k < l.length) : ∃ c off cap, v = .slice (some ⟨c, off, none⟩) l.length cap ∧ ∀ u, Grow w u → u.cell? ⟨c, off + k, none⟩ = some (.int .i64 l[k]) := by
 rcases h with ⟨h1, _⟩ | ⟨c, off, cap, h1, h2⟩
 ·omega
 ·refine ⟨c, off, cap, h1, fun u hu => ?_⟩
  have h3 := h2 k (by simpa [iCells] using hk)
  have h4 : (iCells l)[k]'(by simpa [iCells] using hk) = .int .i64 l[k] := by simp [iCells]
  rw [h4] at h3
  exact (Below.cell hu (World.block_lt_of_cell? w _ h3)).trans h3
theorem row_slice {w : World} {t n : Nat} {v : Value} {cs : List Value} (h : Row w t v n cs) : ∃ a cap, v = .slice a n cap := by
 rcases h with ⟨h1, _, a, cap, h2⟩ | ⟨c, off, cap, h1, _⟩
 ·exact ⟨a, cap, by rw [h2, h1]⟩
 ·exact ⟨_, _, h1⟩
theorem own_grown {w wr w1 : World} {B e s n : Nat} {v : Value} {xs : List Value} {o : Obj} (hB : B ≤ wr.heap.size) (hg : Below B w wr) (ho : wr.ownsRow B e s v n xs) (h : (wr.alloc o).grownBy w1 v.ownBlock) : Below B w w1 := by
 refine (hg.alloc hB o).grown h (by simp; omega) fun k e => ?_
 have := ho.lt k e
 omega
end Go.Proofs.YtmhepfehcakmjaaGreat
