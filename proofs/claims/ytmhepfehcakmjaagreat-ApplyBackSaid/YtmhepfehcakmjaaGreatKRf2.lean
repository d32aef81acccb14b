import Derived.Test.YtmhepfehcakmjaaGreatKPgn
import Derived.Test.YtmhepfehcakmjaaGreatKBits5
import Derived.Test.YtmhepfehcakmjaaGreatKBits6
import Derived.Test.YtmhepfehcakmjaaGreatKRelk
import Derived.Deep.Cut
namespace Go.Proofs.YtmhepfehcakmjaaGreat
open Go.RowKit
abbrev En := List UInt8 × Int × Int
def enV (e : En) : Value := .agg #[.string (str e.1), .int .i64 e.2.1, .int .i64 e.2.2]
def enC (e : En) : List Value := [.string (str e.1), .int .i64 e.2.1, .int .i64 e.2.2]
def inB (n lo hi : Int) : Bool := decide (lo <= n) && decide (n <= hi)
def enOk (e : En) : Bool := inB e.1.length 1 24 && (inB e.2.1 0 65535 && inB e.2.2 0 65535)
def enBytes (e : En) (more : List Int) : List UInt8 := txt e.1 ++ sevs [e.2.1, e.2.2] ++ sevs more
theorem enres {w : World} {b t : Nat} {v0 v1 v2 : Value} (h : Blk w b t [v0, v1, v2]) :
  w.cell? ⟨b, 0, none⟩ = some v0 /\ w.cell? ⟨b, 1, none⟩ = some v1 /\ w.cell? ⟨b, 2, none⟩ = some v2 /\ w.frozen? ⟨b, 0, none⟩ = false /\ w.frozen? ⟨b, 1, none⟩ = false /\ w.frozen? ⟨b, 2, none⟩ = false :=
 ⟨h.cell 0 (by simp), h.cell 1 (by simp), h.cell 2 (by simp), h.free 0, h.free 1, h.free 2⟩
theorem within_any (n lo hi : Int) (w : World) : Calls Tryz.prog 127 #[.int .i64 n, .int .i64 lo, .int .i64 hi] w fun e w' => e = .returned (.bool (inB n lo hi)) /\ w = w' := by
 go_enter Tryz.func127, Tryz.ntmps127
 by_cases h1 : lo <= n
 ·by_cases h2 : n <= hi
  ·go_wp2_with fail;go_ret;exact ⟨by simp [inB, h1, h2], rfl⟩
  ·go_wp2_with fail;go_ret;exact ⟨by simp [inB, h1, h2], rfl⟩
 ·go_wp2_with fail;go_ret
  exact ⟨by have : inB n lo hi = false := by (simp [inB]; omega)
            rw [this]; rfl, rfl⟩
theorem isChild_any (n : Int) (w : World) : Calls Tryz.prog 105 #[.int .i64 n] w fun e w' => e = .returned (.bool (inB n 1 65535)) /\ w = w' := by
 go_enter Tryz.func105, Tryz.ntmps105;go_wp2_with fail;refine (within_any n 1 65535 w).mono ?_;rintro e w' ⟨rfl, rfl⟩;go_wp2_with fail;go_ret;exact ⟨rfl, rfl⟩
theorem isEntry_any (e : En) (w : World) : Calls Tryz.prog 107 #[enV e] w fun x w' => x = .returned (.bool (enOk e)) /\ Below w.heap.size w w' := by
 obtain ⟨k, p, s⟩ := e;obtain ⟨w0, hw0⟩ : ∃ w0, w0 = w.alloc (.cells #[.string (str k), .int .i64 p, .int .i64 s] 102) := ⟨_, rfl⟩;have hg0 : Grow w w0 := by subst hw0; exact (Grow.refl w).alloc _
 have hB0 : Blk w0 w.heap.size 102 [.string (str k), .int .i64 p, .int .i64 s] := by subst hw0; exact Blk.new w _ [_, _, _]
 obtain ⟨c0, c1, c2, _⟩ := enres hB0;have hd : enOk (k, p, s) = (inB k.length 1 24 && (inB p 0 65535 && inB s 0 65535)) := rfl;have h1 := fun u => within_any (k.length : Int) 1 24 u
 have h2 := fun u => within_any p 0 65535 u
 have h3 := fun u => within_any s 0 65535 u
 generalize inB k.length 1 24 = A at *;generalize inB p 0 65535 = B at *;generalize inB s 0 65535 = C at *;have HD := keep hd;have H1 := keep h1;have H2 := keep h2;have H3 := keep h3;clear hd h1 h2 h3;unfold enV;go_enter Tryz.func107, Tryz.ntmps107;go_upto_region 1 with fail;rw [<- hw0];clear hw0;go_wp2_with fail;refine (H1.out w0).mono ?_;rintro x w1 ⟨rfl, rfl⟩;cases A with
 | false =>
  go_wp2_with fail;go_ret;rw [HD.out];exact ⟨rfl, hg0⟩
 | true =>
  go_wp2_with fail;refine (H2.out w0).mono ?_;rintro x w1 ⟨rfl, rfl⟩;cases B with
  | false =>
   go_wp2_with fail;go_ret;rw [HD.out];exact ⟨rfl, hg0⟩
  | true =>
   go_wp2_with fail;refine (H3.out w0).mono ?_;rintro x w1 ⟨rfl, rfl⟩;go_wp2_with fail;go_ret;rw [HD.out];exact ⟨rfl, hg0⟩
theorem least_any (w : World) : Calls Tryz.prog 106 #[] w fun x w' => x = .returned (enV ([], 0, 0)) /\ Below w.heap.size w w' := by
 go_enter Tryz.func106, Tryz.ntmps106;go_wp2_with fail;refine bodyPost_ret (v := enV ([], 0, 0)) ?_ rfl ⟨rfl, (Grow.refl w).alloc _⟩;obtain ⟨s0, s1, s2, _⟩ := enres (Blk.new w 102 [.string ⟨#[]⟩, .int .i64 0, .int .i64 0]);simp [results, Tryz.results106, go_sem, s0, s1, s2, enV]
 try rfl
theorem wrNum_any (b : Nat) (l : List UInt8) (mv : Value) (ns : List Int) (w : World) (h : Wr w b l) (hm : IntsS w mv ns) (hb : ∀ n ∈ ns, 0 <= n /\ n <= 9223372036854775807) (hlen : (l.length : Int) + 10 * ns.length <= 70368744177664) :
  Calls Tryz.prog 69 #[.pointer (some ⟨b, 0, none⟩), mv] w fun e w' => e = .returned (.tuple #[]) /\ Wr w' b (l ++ sevs ns) /\ Below b w w' := by
 rcases hm with ⟨h0, _, a, cap, rfl⟩ | ⟨c, off, cap, blk, f, rfl, hc, hcs⟩
 ·have : ns = [] := List.length_eq_zero_iff.1 h0;subst this;refine (wrNum_none b cap a w).mono ?_;rintro e w' ⟨rfl, rfl⟩;exact ⟨rfl, by simpa [sevs] using h, Below.refl _ _⟩
 ·refine wrNum_some b l ns c off cap blk f w h hc (fun j hj => ?_) (fun j hj => ?_) hlen
  ·rw [hcs j (by simpa using hj)];simp [iCells, hj]
  ·rw [List.getD_eq_getElem?_getD, List.getElem?_eq_getElem hj];exact hb _ (List.getElem_mem hj)
def enFine (e : En) : Prop := e.1.length <= 24 /\ (0 <= e.2.1 /\ e.2.1 <= 65535) /\ (0 <= e.2.2 /\ e.2.2 <= 65535)
theorem enOk_fine {e : En} (h : enOk e = true) : enFine e := by
 simp only [enOk, inB, Bool.and_eq_true, decide_eq_true_eq] at h;unfold enFine;omega
set_option maxRecDepth 100000 in
set_option maxHeartbeats 1000000 in
theorem bytes_any (e : En) (mv : Value) (more : List Int) (w : World) (he : enFine e) (hm : IntsS w mv more) (hb : ∀ n ∈ more, 0 <= n /\ n <= 9223372036854775807) (hl : more.length <= 1000) :
  Calls Tryz.prog 111 #[enV e, mv] w fun x w' => x = .returned (.string (str (enBytes e more))) /\ Below w.heap.size w w' := by
 obtain ⟨k, p, s⟩ := e;obtain ⟨h24, ⟨hp0, hp1⟩, hs0, hs1⟩ := he;dsimp only at h24 hp0 hp1 hs0 hs1;obtain ⟨w0, hw0⟩ : ∃ w0, w0 = w.alloc (.cells #[.string (str k), .int .i64 p, .int .i64 s] 102) := ⟨_, rfl⟩;have hg0 : Grow w w0 := by subst hw0; exact (Grow.refl w).alloc _
 have hB0 : Blk w0 w.heap.size 102 [.string (str k), .int .i64 p, .int .i64 s] := by subst hw0; exact Blk.new w _ [_, _, _]
 obtain ⟨ma, mc, hmv⟩ : ∃ a c, mv = .slice a more.length c := by
  rcases hm with ⟨h0, _, a, cap, rfl⟩ | ⟨c, off, cap, blk, f, rfl, hc, hcs⟩
  ·exact ⟨a, cap, by rw [h0]⟩
  ·exact ⟨_, _, rfl⟩
 subst hmv;have HM := keep hm;have HBd := keep hb;have Hl := keep hl;have hd : enBytes (k, p, s) more = txt k ++ (sevs [p, s] ++ sevs more) := List.append_assoc _ _ _;have HD := keep hd;clear hm hb hl hd;unfold enV;go_enter Tryz.func111, Tryz.ntmps111;go_upto_region 1 with fail;rw [<- hw0];clear hw0;go_wp2_with fail;refine (wrNew w0).mono ?_;rintro x w1 ⟨rfl, hW1, hb1⟩;have hB1 := hB0.fits hb1;have hg1 := Grow.trans hg0 hb1;have hlt := hB0.lt;obtain ⟨c0, c1, c2, _⟩ := enres hB1;go_wp2_with fail;refine (wrText _ _ _ _ hW1 (by simp; omega)).mono ?_;rintro x w2 ⟨rfl, hW2, hb2⟩;simp only [str_toList] at hW2;have hB2 := hB1.below hb2 hlt;have hg2 : Grow w w2 := Below.trans hg1 (hb2.mono (by omega));clear c0 c1 c2 hB0 hB1 hW1 hb1 hb2 hg1;obtain ⟨c0, c1, c2, _⟩ := enres hB2;go_wp2_with fail;have hlt2 := hW2.lt
 refine (wrNum_some w0.heap.size ([] ++ txt k) [p, s] w2.heap.size 0 2 #[.int .i64 p, .int .i64 s] (0, 0) (w2.alloc (.cells #[.int .i64 p, .int .i64 s] 3)) (hW2.alloc _) (by show (w2.heap.push _)[_]? = _; simp)
  (by intro j hj; match j, hj with
      | 0, _ => rfl
      | 1, _ => rfl) (by intro j hj; match j, hj with
      | 0, _ => simp; omega
      | 1, _ => simp; omega) (by have := sev_length k.length; simp [txt]; omega)).mono ?_
 rintro x w3 ⟨rfl, hW3, hb3⟩;have hg3 : Grow w w3 := Below.trans (hg2.alloc _) (hb3.mono (by omega));have hm3 : IntsS w3 (.slice ma more.length mc) more := RowS.fits HM.out hg3;clear c0 c1 c2 hB2 hW2 hb3 hg2;go_wp2_with fail;refine (wrNum_any _ _ _ _ w3 hW3 hm3 HBd.out (by have := sev_length k.length; have := sevs_length [p, s]; have := Hl.out; simp [txt] at *; omega)).mono ?_;rintro x w4 ⟨rfl, hW4, hb4⟩;have hg4 : Grow w w4 := Below.trans hg3 (hb4.mono (by omega));clear hm3 hW3 hb4 hg3;go_wp2_with fail;refine (wrBytes _ _ _ hW4).mono ?_;rintro x w5 ⟨rfl, rfl⟩;go_wp2_with fail;go_ret;rw [HD.out];exact ⟨rfl, hg4⟩
def leastE : En := ([], 0, 0)
theorem none_ints (w : World) : IntsS w (.slice none 0 0) [] := RowS.nil _ _ _ _
theorem one_ints (w : World) (n : Int) : IntsS (w.alloc (.cells #[.int .i64 n] 3)) (.slice (some ⟨w.heap.size, 0, none⟩) 1 1) [n] :=
 RowS.blk (Blk.new w 3 [.int .i64 n]) 1 1 _ 0 (by intro j hj; rw [Nat.zero_add]; rfl)
def or3 (a b c : Int) : Int := if a ≠ 0 then a else if b ≠ 0 then b else c
set_option maxRecDepth 100000 in
set_option maxHeartbeats 1000000 in
theorem or_any (b cap : Nat) (x y z : Int) (w : World) (h : Blk w b 3 [.int .i64 x, .int .i64 y, .int .i64 z]) :
  Calls Tryz.prog 129 #[.slice (some ⟨b, 0, none⟩) 3 cap] w fun e w' => e = .returned (.int .i64 (or3 x y z)) /\ w = w' := by
 obtain ⟨c0, c1, c2, _⟩ := enres h
 by_cases hx : x = 0
 ·subst hx
  by_cases hy : y = 0
  ·subst hy
   by_cases hz : z = 0
   ·subst hz;go_enter Tryz.func129, Tryz.ntmps129;go_wp2_with fail;refine wp_loop_rounds 4 ?_;rw [rounds_succ];go_wp2_with fail;rw [rounds_succ];go_wp2_with fail;rw [rounds_succ];go_wp2_with fail;rw [rounds_succ];go_wp2_with fail;go_ret;exact ⟨rfl, rfl⟩
   ·have qz : (z != 0) = true := by simp [hz]
    have hd : or3 0 0 z = z := by simp [or3]
    rw [hd];clear hd hz;go_enter Tryz.func129, Tryz.ntmps129;go_wp2_with fail;refine wp_loop_rounds 3 ?_;rw [rounds_succ];go_wp2_with fail;rw [rounds_succ];go_wp2_with fail;rw [rounds_succ];go_wp2_with fail;go_ret;exact ⟨rfl, rfl⟩
  ·have qy : (y != 0) = true := by simp [hy]
   have hd : or3 0 y z = y := by simp [or3, hy]
   rw [hd];clear hd hy;go_enter Tryz.func129, Tryz.ntmps129;go_wp2_with fail;refine wp_loop_rounds 2 ?_;rw [rounds_succ];go_wp2_with fail;rw [rounds_succ];go_wp2_with fail;go_ret;exact ⟨rfl, rfl⟩
 ·have qx : (x != 0) = true := by simp [hx]
  have hd : or3 x y z = x := by simp [or3, hx]
  rw [hd];clear hd hx;go_enter Tryz.func129, Tryz.ntmps129;go_wp2_with fail;refine wp_loop_rounds 1 ?_;rw [rounds_succ];go_wp2_with fail;go_ret;exact ⟨rfl, rfl⟩
theorem ints_at {w : World} {v : Value} {l : List Int} (h : Row w 3 v l.length (iCells l)) {k : Nat} (hk : k < l.length) : ∃ c off cap, v = .slice (some ⟨c, off, none⟩) l.length cap /\ ∀ u, Grow w u -> u.cell? ⟨c, off + k, none⟩ = some (.int .i64 l[k]) := by
 rcases h with ⟨h1, _⟩ | ⟨c, off, cap, h1, h2⟩
 ·omega
 ·refine ⟨c, off, cap, h1, fun u hu => ?_⟩;have h3 := h2 k (by simpa [iCells] using hk);have h4 : (iCells l)[k]'(by simpa [iCells] using hk) = .int .i64 l[k] := by simp [iCells]
  rw [h4] at h3;exact (Below.cell hu (World.block_lt_of_cell? w _ h3)).trans h3
theorem row_slice {w : World} {t n : Nat} {v : Value} {cs : List Value} (h : Row w t v n cs) : ∃ a cap, v = .slice a n cap := by
 rcases h with ⟨h1, _, a, cap, h2⟩ | ⟨c, off, cap, h1, _⟩
 ·exact ⟨a, cap, by rw [h2, h1]⟩
 ·exact ⟨_, _, h1⟩
end Go.Proofs.YtmhepfehcakmjaaGreat
