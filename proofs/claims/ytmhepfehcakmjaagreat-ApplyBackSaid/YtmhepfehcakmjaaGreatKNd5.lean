import Derived.Test.YtmhepfehcakmjaaGreatKRf2
import Derived.Test.YtmhepfehcakmjaaGreatShelf
import Derived.Laws.StructEq
namespace Go.Proofs.YtmhepfehcakmjaaGreat
open Go.RowKit
attribute [local go_sem] gives givesUpon_value givesUpon_skip givesUpon_enter
def cmpE (a b : En) : Int := or3 (Lib.compareBytes a.1 b.1) (Lib.compareInt a.2.1 b.2.1) (Lib.compareInt a.2.2 b.2.2)
set_option maxRecDepth 100000 in
set_option maxHeartbeats 2000000 in
theorem compare_any (a b : En) (w_ : World) : Calls Tryz.prog 109 #[enV a, enV b] w_ fun x w' => x = .returned (.int .i64 (cmpE a b)) /\ Below w_.heap.size w_ w' := by
 obtain ⟨k1, p1, s1⟩ := a;obtain ⟨k2, p2, s2⟩ := b;have hd : cmpE (k1, p1, s1) (k2, p2, s2) = or3 (Lib.compareBytes k1 k2) (Lib.compareInt p1 p2) (Lib.compareInt s1 s2) := rfl;rw [hd];clear hd;obtain ⟨w0, hw0⟩ : ∃ w0, w0 = (w_.alloc (.cells #[.string (str k1), .int .i64 p1, .int .i64 s1] 102)).alloc (.cells #[.string (str k2), .int .i64 p2, .int .i64 s2] 102) := ⟨_, rfl⟩;have hg0 : Grow w_ w0 := by subst hw0; exact ((Grow.refl w_).alloc _).alloc _
 have hA0 : Blk w0 w_.heap.size 102 [.string (str k1), .int .i64 p1, .int .i64 s1] := by subst hw0; exact (Blk.new w_ _ [_, _, _]).alloc _
 have hB0 : Blk w0 (w_.heap.size + 1) 102 [.string (str k2), .int .i64 p2, .int .i64 s2] := by
  have := Blk.new (w_.alloc (.cells #[.string (str k1), .int .i64 p1, .int .i64 s1] 102)) 102 [.string (str k2), .int .i64 p2, .int .i64 s2];have e : (w_.alloc (.cells #[.string (str k1), .int .i64 p1, .int .i64 s1] 102)).heap.size = w_.heap.size + 1 := by simp
  rw [e] at this;subst hw0; exact this
 have Ha0 := keep (fun (u : World) (hu : Grow w0.drew u) => (enres (Blk.fits (w := w0.drew) hA0 hu)).1);have Ha1 := keep (fun (u : World) (hu : Grow w0.drew u) => (enres (Blk.fits (w := w0.drew) hA0 hu)).2.1);have Ha2 := keep (fun (u : World) (hu : Grow w0.drew u) => (enres (Blk.fits (w := w0.drew) hA0 hu)).2.2.1);have Hb0 := keep (fun (u : World) (hu : Grow w0.drew u) => (enres (Blk.fits (w := w0.drew) hB0 hu)).1);have Hb1 := keep (fun (u : World) (hu : Grow w0.drew u) => (enres (Blk.fits (w := w0.drew) hB0 hu)).2.1);have Hb2 := keep (fun (u : World) (hu : Grow w0.drew u) => (enres (Blk.fits (w := w0.drew) hB0 hu)).2.2.1);clear hA0 hB0;unfold enV;go_enter Tryz.func109, Tryz.ntmps109;go_upto_region 1 with fail;rw [<- hw0];clear hw0;refine wp_region_grow (by kernel_rfl) 17 (by kernel_rfl) [(5, 0), (6, 1), (7, 2), (8, 3), (9, 4), (10, 5), (11, 6), (12, 7), (13, 8), (14, 9), (15, 10), (16, 11), (17, 12), (18, 13), (19, 14), (20, 15), (21, 16)] (by kernel_rfl) [(0, true), (1, true), (2, true), (3, true), (4, true), (5, true), (6, true), (7, true), (8, true), (9, true), (10, true), (11, true), (12, true), (13, true), (14, true), (15, true), (16, true)] (by kernel_rfl) rfl rfl ?_;apply lex_eq [] [(7, 2), (8, 3), (9, 4), (10, 5), (11, 6), (12, 7), (13, 8), (14, 9), (15, 10), (16, 11), (17, 12), (18, 13), (19, 14), (20, 15), (21, 16)] (by kernel_rfl) (by kernel_rfl) rfl
 ·intro xs w hw hp K hK;simp only [putAll];go_simp;exact hK _ (Grow.refl _)
 apply lex_eq [(0, true)] [(5, 0), (7, 2), (8, 3), (10, 5), (11, 6), (12, 7), (13, 8), (14, 9), (15, 10), (16, 11), (17, 12), (18, 13), (19, 14), (20, 15), (21, 16)] (by kernel_rfl) (by kernel_rfl) rfl
 ·intro xs w hw hp K hK;simp only [hz] at hp;simp only [putAll];have hc := Ha0.out w hw;go_simp;exact hK _ (Grow.refl _)
 apply lex_eq [] [(5, 0), (6, 1), (9, 4), (10, 5), (11, 6), (12, 7), (13, 8), (14, 9), (15, 10), (16, 11), (17, 12), (18, 13), (19, 14), (20, 15), (21, 16)] (by kernel_rfl) (by kernel_rfl) rfl
 ·intro xs w hw hp K hK;simp only [putAll];go_simp;exact hK _ (Grow.refl _)
 apply lex_eq [(2, true)] [(5, 0), (6, 1), (7, 2), (10, 5), (11, 6), (12, 7), (13, 8), (14, 9), (15, 10), (16, 11), (17, 12), (18, 13), (19, 14), (20, 15), (21, 16)] (by kernel_rfl) (by kernel_rfl) rfl
 ·intro xs w hw hp K hK;simp only [hz] at hp;simp only [putAll];have hc := Hb0.out w hw;go_simp;exact hK _ (Grow.refl _)
 apply lex_eq [(1, true), (3, true)] [(5, 0), (6, 1), (7, 2), (8, 3), (10, 5), (11, 6), (12, 7), (13, 8), (15, 10), (16, 11), (17, 12), (18, 13), (19, 14), (21, 16)] (by kernel_rfl) (by kernel_rfl) rfl
 ·intro xs w hw hp K hK;simp only [hz] at hp;simp only [putAll];go_simp;exact (Tryz.strings_Compare (str k1) (str k2) w).mono fun e w' h => ⟨_, h.1, hK _ (by rw [h.2]; exact Grow.refl _)⟩
 apply lex_eq [] [(5, 0), (6, 1), (7, 2), (8, 3), (9, 4), (12, 7), (13, 8), (14, 9), (15, 10), (16, 11), (17, 12), (18, 13), (19, 14), (20, 15), (21, 16)] (by kernel_rfl) (by kernel_rfl) rfl
 ·intro xs w hw hp K hK;simp only [putAll];go_simp;exact hK _ (Grow.refl _)
 apply lex_eq [(5, true)] [(5, 0), (6, 1), (7, 2), (8, 3), (9, 4), (10, 5), (12, 7), (13, 8), (15, 10), (16, 11), (17, 12), (18, 13), (19, 14), (20, 15), (21, 16)] (by kernel_rfl) (by kernel_rfl) rfl
 ·intro xs w hw hp K hK;simp only [hz] at hp;simp only [putAll];have hc := Ha1.out w hw;go_simp;exact hK _ (Grow.refl _)
 apply lex_eq [] [(5, 0), (6, 1), (7, 2), (8, 3), (9, 4), (10, 5), (11, 6), (14, 9), (15, 10), (16, 11), (17, 12), (18, 13), (19, 14), (20, 15), (21, 16)] (by kernel_rfl) (by kernel_rfl) rfl
 ·intro xs w hw hp K hK;simp only [putAll];go_simp;exact hK _ (Grow.refl _)
 apply lex_eq [(7, true)] [(5, 0), (6, 1), (7, 2), (8, 3), (9, 4), (10, 5), (11, 6), (12, 7), (15, 10), (16, 11), (17, 12), (18, 13), (19, 14), (20, 15), (21, 16)] (by kernel_rfl) (by kernel_rfl) rfl
 ·intro xs w hw hp K hK;simp only [hz] at hp;simp only [putAll];have hc := Hb1.out w hw;go_simp;exact hK _ (Grow.refl _)
 apply lex_eq [(6, true), (8, true)] [(5, 0), (6, 1), (7, 2), (8, 3), (9, 4), (10, 5), (11, 6), (12, 7), (13, 8), (15, 10), (16, 11), (17, 12), (18, 13), (21, 16)] (by kernel_rfl) (by kernel_rfl) rfl
 ·intro xs w hw hp K hK;simp only [hz] at hp;simp only [putAll];go_simp;exact (Tryz.cmp_Compare_int p1 p2 w).mono fun e w' h => ⟨_, h.1, hK _ (by rw [h.2]; exact Grow.refl _)⟩
 apply lex_eq [] [(5, 0), (6, 1), (7, 2), (8, 3), (9, 4), (10, 5), (11, 6), (12, 7), (13, 8), (14, 9), (17, 12), (18, 13), (19, 14), (20, 15), (21, 16)] (by kernel_rfl) (by kernel_rfl) rfl
 ·intro xs w hw hp K hK;simp only [putAll];go_simp;exact hK _ (Grow.refl _)
 apply lex_eq [(10, true)] [(5, 0), (6, 1), (7, 2), (8, 3), (9, 4), (10, 5), (11, 6), (12, 7), (13, 8), (14, 9), (15, 10), (17, 12), (18, 13), (20, 15), (21, 16)] (by kernel_rfl) (by kernel_rfl) rfl
 ·intro xs w hw hp K hK;simp only [hz] at hp;simp only [putAll];have hc := Ha2.out w hw;go_simp;exact hK _ (Grow.refl _)
 apply lex_eq [] [(5, 0), (6, 1), (7, 2), (8, 3), (9, 4), (10, 5), (11, 6), (12, 7), (13, 8), (14, 9), (15, 10), (16, 11), (19, 14), (20, 15), (21, 16)] (by kernel_rfl) (by kernel_rfl) rfl
 ·intro xs w hw hp K hK;simp only [putAll];go_simp;exact hK _ (Grow.refl _)
 apply lex_eq [(12, true)] [(5, 0), (6, 1), (7, 2), (8, 3), (9, 4), (10, 5), (11, 6), (12, 7), (13, 8), (14, 9), (15, 10), (16, 11), (17, 12), (20, 15), (21, 16)] (by kernel_rfl) (by kernel_rfl) rfl
 ·intro xs w hw hp K hK;simp only [hz] at hp;simp only [putAll];have hc := Hb2.out w hw;go_simp;exact hK _ (Grow.refl _)
 apply lex_eq [(11, true), (13, true)] [(5, 0), (6, 1), (7, 2), (8, 3), (9, 4), (10, 5), (11, 6), (12, 7), (13, 8), (14, 9), (15, 10), (16, 11), (17, 12), (18, 13)] (by kernel_rfl) (by kernel_rfl) rfl
 ·intro xs w hw hp K hK;simp only [hz] at hp;simp only [putAll];go_simp;exact (Tryz.cmp_Compare_int s1 s2 w).mono fun e w' h => ⟨_, h.1, hK _ (by rw [h.2]; exact Grow.refl _)⟩
 refine lex_says (fun v u => ∃ g c, v = .slice (some ⟨g, 0, none⟩) 3 c /\ Blk u g 3 [.int .i64 (Lib.compareBytes k1 k2), .int .i64 (Lib.compareInt p1 p2), .int .i64 (Lib.compareInt s1 s2)]) (fun v u u' hg ⟨g, c, h1, h2⟩ => ⟨g, c, h1, h2.fits hg⟩) [(4, true), (9, true), (14, true)] [(5, 0), (6, 1), (7, 2), (8, 3), (9, 4), (10, 5), (11, 6), (12, 7), (13, 8), (14, 9), (15, 10), (16, 11), (17, 12), (18, 13), (19, 14)] (by kernel_rfl) (by kernel_rfl) rfl ?_ ?_
 ·intro xs w hw hp K hK;simp only [hz] at hp;simp only [putAll];go_simp;exact hK _ _ ⟨_, _, rfl, Blk.new w 3 [_, _, _]⟩ ((Grow.refl w).alloc _)
 apply lex_eq [(15, true)] [(5, 0), (6, 1), (7, 2), (8, 3), (9, 4), (10, 5), (11, 6), (12, 7), (13, 8), (14, 9), (15, 10), (16, 11), (17, 12), (18, 13), (19, 14), (20, 15)] (by kernel_rfl) (by kernel_rfl) rfl
 ·intro xs w hw hp K hK;simp only [hz] at hp;generalize hA : putAll xs _ _ = A;obtain ⟨g, c, hpv, hB⟩ := hp;subst hA;simp only [putAll, hpv];go_simp;exact (or_any g c _ _ _ w hB).mono fun e w' h => ⟨_, h.1, hK _ (by rw [h.2]; exact Grow.refl _)⟩
 intro xs w hw hp;generalize hA : putAll xs _ _ = A;simp only [hz] at hp;have h16 := hp.2.2.2.2.2.2.2.2.2.2.2.2.2.2.2.2;clear hp;subst hA;simp only [putAll, h16];have hgw : Grow w_ w := Grow.trans hg0 hw.undrew;clear hw h16;go_wp2_with fail;go_ret;exact ⟨rfl, hgw⟩
end Go.Proofs.YtmhepfehcakmjaaGreat
namespace Go.Proofs.YtmhepfehcakmjaaGreat
open Go.RowKit
def takeK (l : List UInt8) : List UInt8 × List UInt8 × Int := rdTextS 24 l
def takeP (l : List UInt8) : Int × List UInt8 × Int := rdNum2 65535 ((takeK l).2.1, (takeK l).2.2)
def takeS (l : List UInt8) : Int × List UInt8 × Int := rdNum2 65535 ((takeP l).2.1, (takeP l).2.2)
def takeC (l : List UInt8) : Int × List UInt8 × Int := rdNum2 65535 ((takeS l).2.1, (takeS l).2.2)
def endE (x : List UInt8 × Int) : Int := if x.2 = 0 /\ 0 < x.1.length then 12 else x.2
def partE (l : List UInt8) : En := ((takeK l).1, (takeP l).1, (takeS l).1)
def decOkN (l : List UInt8) : Bool := decide (endE ((takeS l).2.1, (takeS l).2.2) = 0) && enOk (partE l)
def decN (l : List UInt8) : En × Int := if decOkN l then (partE l, 0) else (leastE, 140)
theorem num2_le (most : Int) (x : List UInt8 × Int) : (rdNum2 most x).2.1.length <= x.1.length := by
 unfold rdNum2; split
 ·exact (rdNumS_facts most x.1).2.1
 ·exact Nat.le_refl _
theorem takeK_le (l : List UInt8) : (takeK l).2.1.length <= l.length := (rdTextS_le 24 l).2
theorem takeP_le (l : List UInt8) : (takeP l).2.1.length <= l.length := Nat.le_trans (num2_le _ _) (takeK_le l)
theorem takeS_le (l : List UInt8) : (takeS l).2.1.length <= l.length := Nat.le_trans (num2_le _ _) (takeP_le l)
theorem takeC_le (l : List UInt8) : (takeC l).2.1.length <= l.length := Nat.le_trans (num2_le _ _) (takeS_le l)
theorem enset {w : World} {b t : Nat} {a0 a1 a2 : Value} (h : Blk w b t [a0, a1, a2]) (v0 v1 v2 : Value) :
  Blk (((w.setCell ⟨b, 0, none⟩ v0).setCell ⟨b, 1, none⟩ v1).setCell ⟨b, 2, none⟩ v2) b t [v0, v1, v2] := ((h.set 0 v0).set 1 v1).set 2 v2
theorem enbut (w : World) (b : Nat) (v0 v1 v2 : Value) : But b w (((w.setCell ⟨b, 0, none⟩ v0).setCell ⟨b, 1, none⟩ v1).setCell ⟨b, 2, none⟩ v2) :=
 (((But.refl b w).setCell 0 v0).setCell 1 v1).setCell 2 v2
set_option maxRecDepth 100000 in
set_option maxHeartbeats 2000000 in
theorem decode_any (l : List UInt8) (w_ : World) (hs : (l.length : Int) <= 9223372036854775807) :
  Calls Tryz.prog 81 #[.string (str l)] w_ fun x w' => x = .returned (.tuple #[enV (decN l).1, .int .i64 (decN l).2]) /\ Below w_.heap.size w_ w' := by
 obtain ⟨w0, hw0⟩ : ∃ w0, w0 = (w_.alloc (.cells #[.string ⟨#[]⟩, .int .i64 0, .int .i64 0] 102)) := ⟨_, rfl⟩;have hg0 : Grow w_ w0 := by subst hw0; exact (Grow.refl w_).alloc _
 have hR0 : Blk w0 w_.heap.size 102 [.string ⟨#[]⟩, .int .i64 0, .int .i64 0] := by subst hw0; exact Blk.new w_ _ [_, _, _]
 have hz0 : w_.heap.size < w0.heap.size := hR0.lt;have h1 := takeK_le l;have h2 := takeP_le l;have h3 := takeS_le l;have hd : decN l = if decide (endE ((takeS l).2.1, (takeS l).2.2) = 0) && enOk ((takeK l).1, (takeP l).1, (takeS l).1) then (((takeK l).1, (takeP l).1, (takeS l).1), 0) else (leastE, 140) := rfl
 have hK := fun u b (h : Rd u b (str l) 0) => rdText_ok b (str l) 24 u h (by unfold maxLen; simp; omega) (by decide)
 have hP := fun u b (h : Rd u b (str (takeK l).2.1) (takeK l).2.2) => rdNum_any b 65535 ((takeK l).2.1, (takeK l).2.2) u h (by dsimp only; omega) (by decide)
 have hS := fun u b (h : Rd u b (str (takeP l).2.1) (takeP l).2.2) => rdNum_any b 65535 ((takeP l).2.1, (takeP l).2.2) u h (by dsimp only; omega) (by decide)
 have hE := fun u b (h : Rd u b (str (takeS l).2.1) (takeS l).2.2) => rdEnd b (str (takeS l).2.1) (takeS l).2.2 u h
 have hee : (if (takeS l).2.2 = 0 /\ 0 < (str (takeS l).2.1).size then (12 : Int) else (takeS l).2.2) = endE ((takeS l).2.1, (takeS l).2.2) := rfl;simp only [str_toList] at hK;rw [hee] at hE;change ∀ u b, Rd u b (str (takeK l).2.1) (takeK l).2.2 -> Calls _ _ _ _ (fun e w' => e = .returned (.int .i64 (takeP l).1) /\ Rd w' b (str (takeP l).2.1) (takeP l).2.2 /\ But b u w') at hP;change ∀ u b, Rd u b (str (takeP l).2.1) (takeP l).2.2 -> Calls _ _ _ _ (fun e w' => e = .returned (.int .i64 (takeS l).1) /\ Rd w' b (str (takeS l).2.1) (takeS l).2.2 /\ But b u w') at hS;change ∀ u b, Rd u b (str l) 0 -> Calls _ _ _ _ (fun e w' => e = .returned (.string (str (takeK l).1)) /\ Rd w' b (str (takeK l).2.1) (takeK l).2.2 /\ But b u w') at hK;clear hee h1 h2 h3;generalize endE ((takeS l).2.1, (takeS l).2.2) = EE at *;generalize takeS l = S at *;generalize takeP l = P at *;generalize takeK l = K at *;obtain ⟨k, kr, ke⟩ := K;obtain ⟨p, pr, pe⟩ := P;obtain ⟨s, sr, se⟩ := S;dsimp only at hd hK hP hS hE;have HD := keep hd;have HK := keep hK;have HP := keep hP;have HS := keep hS;have HE := keep hE;clear hd hK hP hS hE;go_enter Tryz.func81, Tryz.ntmps81;go_upto_region 1 with fail;rw [<- hw0];clear hw0;go_wp2_with fail;refine (rdRead (str l) w0).mono ?_;rintro x w1 ⟨rfl, hw1⟩;have hg1 : Grow w0 w1 := by subst hw1; exact (Grow.refl _).alloc _
 have hD1 : Rd w1 w0.heap.size (str l) 0 := by subst hw1; exact Blk.new w0 _ [_, _]
 clear hw1;have hR1 := hR0.fits hg1;go_wp2_with fail;refine (HK.out w1 _ hD1).mono ?_;rintro x w2 ⟨rfl, hD2, hb2⟩;have hR2 := hR1.but hb2 (by omega);go_wp2_with fail;refine (HP.out w2 _ hD2).mono ?_;rintro x w3 ⟨rfl, hD3, hb3⟩;have hR3 := hR2.but hb3 (by omega);go_wp2_with fail;refine (HS.out w3 _ hD3).mono ?_;rintro x w4 ⟨rfl, hD4, hb4⟩;have hR4 := hR3.but hb4 (by omega);have hbt : But w0.heap.size w1 w4 := (hb2.trans hb3).trans hb4;have hg4 : Below w_.heap.size w_ w4 := But.below (Below.trans hg0 (hg1.mono (by omega))) hbt (by omega) (by have := hR1.lt; omega);clear hD1 hD2 hD3 hb2 hb3 hb4 hR1 hR2 hR3 hR0 hg0 hg1 hbt;go_upto_region 3 with fail;obtain ⟨w5, hw5⟩ : ∃ w5, w5 = w4.alloc (.cells #[.string (str k), .int .i64 p, .int .i64 s] 102) := ⟨_, rfl⟩;rw [<- hw5];have hg5 : Grow w4 w5 := by subst hw5; exact (Grow.refl _).alloc _
 have hN5 : Blk w5 w4.heap.size 102 [.string (str k), .int .i64 p, .int .i64 s] := by subst hw5; exact Blk.new w4 _ [_, _, _]
 have hD5 : Rd w5 w0.heap.size (str sr) se := Blk.fits hD4 hg5;have hR5 := hR4.fits hg5;have hgg : Grow w_ w5 := Below.trans hg4 (hg5.mono (by have := hR4.lt; omega));clear hw5 hg5 hD4 hR4 hg4;obtain ⟨c0, c1, c2, _⟩ := enres hN5;go_wp2_with fail;refine (HE.out w5 _ hD5).mono ?_;rintro x w6 ⟨rfl, rfl⟩
 by_cases hEE : EE = 0
 ·subst hEE;go_wp2_with fail;refine (isEntry_any (k, p, s) w5).mono ?_;rintro x w6 ⟨rfl, hb6⟩;have hR6 := hR5.fits hb6;have hN6 := hN5.fits hb6;have hg6 := Grow.trans hgg hb6;generalize enOk (k, p, s) = A at *;clear c0 c1 c2 hR5 hN5 hD5 hb6 hgg;obtain ⟨c0, c1, c2, _⟩ := enres hN6;obtain ⟨r0, r1, r2, f0, f1, f2⟩ := enres hR6;cases A with
  | true =>
   have Hset := keep (enset hR6 (.string (str k)) (.int .i64 p) (.int .i64 s));have Hbut := keep (enbut w6 w_.heap.size (.string (str k)) (.int .i64 p) (.int .i64 s));have Hlt := keep hR6.lt;clear hR6 hN6;go_wp2_with fail;rw [HD.out];refine bodyPost_ret (v := .tuple #[enV (k, p, s), .int .i64 0]) ?_ rfl ⟨rfl, But.below hg6 Hbut.out (Nat.le_refl _) (Nat.le_of_lt Hlt.out)⟩;obtain ⟨s0, s1, s2, _⟩ := enres Hset.out;simp [results, Tryz.results81, go_sem, s0, s1, s2, enV]
  | false =>
   have Hset := keep (enset hR6 (.string ⟨#[]⟩) (.int .i64 0) (.int .i64 0));have Hbut := keep (enbut w6 w_.heap.size (.string ⟨#[]⟩) (.int .i64 0) (.int .i64 0));have Hlt := keep hR6.lt;clear hR6 hN6;go_wp2_with fail;rw [HD.out];refine bodyPost_ret (v := .tuple #[enV leastE, .int .i64 140]) ?_ rfl ⟨rfl, But.below hg6 Hbut.out (Nat.le_refl _) (Nat.le_of_lt Hlt.out)⟩;obtain ⟨s0, s1, s2, _⟩ := enres Hset.out;simp [results, Tryz.results81, go_sem, s0, s1, s2, enV, leastE]
   rfl
 ·have qE : (EE != 0) = true := by simp [hEE]
  have hd : decN l = (leastE, 140) := by rw [HD.out, decide_eq_false hEE]; rfl
  have HD2 := keep hd;clear hd HD;obtain ⟨r0, r1, r2, f0, f1, f2⟩ := enres hR5;have Hset := keep (enset hR5 (.string ⟨#[]⟩) (.int .i64 0) (.int .i64 0));have Hbut := keep (enbut w5 w_.heap.size (.string ⟨#[]⟩) (.int .i64 0) (.int .i64 0));have Hlt := keep hR5.lt;clear hR5 hN5 hD5 hEE;go_wp2_with fail;rw [HD2.out];refine bodyPost_ret (v := .tuple #[enV leastE, .int .i64 140]) ?_ rfl ⟨rfl, But.below hgg Hbut.out (Nat.le_refl _) (Nat.le_of_lt Hlt.out)⟩;obtain ⟨s0, s1, s2, _⟩ := enres Hset.out;simp [results, Tryz.results81, go_sem, s0, s1, s2, enV, leastE]
  rfl
def isL (e : En) : Bool := decide (e = leastE)
def sameE (a b : En) : Bool := decide (a = b)
theorem neq_entry (x0 q0 : List UInt8) (x1 x2 q1 q2 : Int) (w : World) : (binOp .neq 102 (.agg #[.string (str x0), .int .i64 x1, .int .i64 x2]) (.agg #[.string (str q0), .int .i64 q1, .int .i64 q2])).run Tryz.prog w = .ok (.bool (!sameE (x0, x1, x2) (q0, q1, q2))) w := by
 unfold sameE;have hf : Tryz.prog.underlying 102 = some (.struct (Tryz.prog.fieldsOf 102)) := by kernel_rfl
 have hs : Tryz.prog.stoodInHeld 102 = false := by kernel_rfl
 rw [run_neq_struct, run_equalIn_agg w _ _ _ _ hf hs];simp [go_sem, Program.fieldsOf, Tryz.underlying102]
 by_cases h0 : x0 = q0
 ·by_cases h1 : x1 = q1
  ·by_cases h2 : x2 = q2
   ·simp [h0, h1, h2]
   ·simp [h0, h1, h2]
  ·simp [h0, h1]
 ·have : ¬ (str x0).toList = (str q0).toList := by rw [str_list, str_list]; exact h0
  simp [h0, this]
theorem eql_entry (x0 q0 : List UInt8) (x1 x2 q1 q2 : Int) (w : World) : (binOp .eql 102 (.agg #[.string (str x0), .int .i64 x1, .int .i64 x2]) (.agg #[.string (str q0), .int .i64 q1, .int .i64 q2])).run Tryz.prog w = .ok (.bool (sameE (x0, x1, x2) (q0, q1, q2))) w := by
 unfold sameE;have hf : Tryz.prog.underlying 102 = some (.struct (Tryz.prog.fieldsOf 102)) := by kernel_rfl
 have hs : Tryz.prog.stoodInHeld 102 = false := by kernel_rfl
 rw [run_eql_struct, run_equalIn_agg w _ _ _ _ hf hs];simp [go_sem, Program.fieldsOf, Tryz.underlying102]
 by_cases h0 : x0 = q0
 ·by_cases h1 : x1 = q1
  ·by_cases h2 : x2 = q2
   ·simp [h0, h1, h2]
   ·simp [h0, h1, h2]
  ·simp [h0, h1]
 ·have : ¬ (str x0).toList = (str q0).toList := by rw [str_list, str_list]; exact h0
  simp [h0, this]
theorem guard_entry : Tryz.prog.eqGuardType Tryz.prog.depth 102 = false := by kernel_rfl
theorem neq_least (k : List UInt8) (p s : Int) (w : World) : (binOp .neq 102 (.agg #[.string (str k), .int .i64 p, .int .i64 s]) (.agg #[.string (str []), .int .i64 0, .int .i64 0])).run Tryz.prog w = .ok (.bool (!isL (k, p, s))) w := neq_entry _ _ _ _ _ _ w
theorem eql_least (k : List UInt8) (p s : Int) (w : World) : (binOp .eql 102 (.agg #[.string (str k), .int .i64 p, .int .i64 s]) (.agg #[.string (str []), .int .i64 0, .int .i64 0])).run Tryz.prog w = .ok (.bool (isL (k, p, s))) w := eql_entry _ _ _ _ _ _ w
attribute [local go_sem] gives givesUpon_value givesUpon_skip givesUpon_enter
attribute [local simp] neq_least
attribute [local go_sem] guard_entry
def unsOk (l : List UInt8) : Bool := decide (endE ((takeC l).2.1, (takeC l).2.2) = 0) && (inB (takeC l).1 1 65535 && (decide (partE l = leastE) || enOk (partE l)))
def unsN (l : List UInt8) : En × Int × Int := if unsOk l then (partE l, (takeC l).1, 0) else (leastE, 0, 140)
set_option maxRecDepth 100000 in
set_option maxHeartbeats 2000000 in
theorem unsep_1 (l : List UInt8) (w_ : World) (hs : (l.length : Int) <= 9223372036854775807)
  (hE0 : endE ((takeC l).2.1, (takeC l).2.2) ≠ 0) :
  Calls Tryz.prog 79 #[.string (str l)] w_ fun x w' => x = .returned (.tuple #[enV (unsN l).1, .int .i64 (unsN l).2.1, .int .i64 (unsN l).2.2]) /\ Below w_.heap.size w_ w' := by
 obtain ⟨w0, hw0⟩ : ∃ w0, w0 = (w_.alloc (.cells #[.string ⟨#[]⟩, .int .i64 0, .int .i64 0] 102)) := ⟨_, rfl⟩;have hg0 : Grow w_ w0 := by subst hw0; exact (Grow.refl w_).alloc _
 have hR0 : Blk w0 w_.heap.size 102 [.string ⟨#[]⟩, .int .i64 0, .int .i64 0] := by subst hw0; exact Blk.new w_ _ [_, _, _]
 have hz0 : w_.heap.size < w0.heap.size := hR0.lt;have h1 := takeK_le l;have h2 := takeP_le l;have h3 := takeS_le l;have h4 := takeC_le l;have hd : unsN l = if decide (endE ((takeC l).2.1, (takeC l).2.2) = 0) && (inB (takeC l).1 1 65535 && (decide (((takeK l).1, (takeP l).1, (takeS l).1) = leastE) || enOk ((takeK l).1, (takeP l).1, (takeS l).1))) then (((takeK l).1, (takeP l).1, (takeS l).1), (takeC l).1, 0) else (leastE, 0, 140) := rfl
 have hK := fun u b (h : Rd u b (str l) 0) => rdText_ok b (str l) 24 u h (by unfold maxLen; simp; omega) (by decide)
 have hP := fun u b (h : Rd u b (str (takeK l).2.1) (takeK l).2.2) => rdNum_any b 65535 ((takeK l).2.1, (takeK l).2.2) u h (by dsimp only; omega) (by decide)
 have hS := fun u b (h : Rd u b (str (takeP l).2.1) (takeP l).2.2) => rdNum_any b 65535 ((takeP l).2.1, (takeP l).2.2) u h (by dsimp only; omega) (by decide)
 have hC := fun u b (h : Rd u b (str (takeS l).2.1) (takeS l).2.2) => rdNum_any b 65535 ((takeS l).2.1, (takeS l).2.2) u h (by dsimp only; omega) (by decide)
 have hE := fun u b (h : Rd u b (str (takeC l).2.1) (takeC l).2.2) => rdEnd b (str (takeC l).2.1) (takeC l).2.2 u h
 have hee : (if (takeC l).2.2 = 0 /\ 0 < (str (takeC l).2.1).size then (12 : Int) else (takeC l).2.2) = endE ((takeC l).2.1, (takeC l).2.2) := rfl;simp only [str_toList] at hK;rw [hee] at hE;change ∀ u b, Rd u b (str (takeK l).2.1) (takeK l).2.2 -> Calls _ _ _ _ (fun e w' => e = .returned (.int .i64 (takeP l).1) /\ Rd w' b (str (takeP l).2.1) (takeP l).2.2 /\ But b u w') at hP;change ∀ u b, Rd u b (str (takeP l).2.1) (takeP l).2.2 -> Calls _ _ _ _ (fun e w' => e = .returned (.int .i64 (takeS l).1) /\ Rd w' b (str (takeS l).2.1) (takeS l).2.2 /\ But b u w') at hS;change ∀ u b, Rd u b (str (takeS l).2.1) (takeS l).2.2 -> Calls _ _ _ _ (fun e w' => e = .returned (.int .i64 (takeC l).1) /\ Rd w' b (str (takeC l).2.1) (takeC l).2.2 /\ But b u w') at hC;change ∀ u b, Rd u b (str l) 0 -> Calls _ _ _ _ (fun e w' => e = .returned (.string (str (takeK l).1)) /\ Rd w' b (str (takeK l).2.1) (takeK l).2.2 /\ But b u w') at hK;clear hee h1 h2 h3 h4;generalize endE ((takeC l).2.1, (takeC l).2.2) = EE at *;generalize takeC l = C at *;generalize takeS l = S at *;generalize takeP l = P at *;generalize takeK l = K at *;obtain ⟨k, kr, ke⟩ := K;obtain ⟨p, pr, pe⟩ := P;obtain ⟨s, sr, se⟩ := S;obtain ⟨c, cr, ce⟩ := C;dsimp only at hd hK hP hS hC hE;have hd2 : unsN l = (leastE, 0, 140) := by rw [hd, decide_eq_false hE0]; rfl
 have HD2 := keep hd2;clear hd hd2;have HK := keep hK;have HP := keep hP;have HS := keep hS;have HE := keep hE;have HCn := keep hC;clear hK hP hS hC hE;go_enter Tryz.func79, Tryz.ntmps79;go_upto_region 1 with fail;rw [<- hw0];clear hw0;go_wp2_with fail;refine (rdRead (str l) w0).mono ?_;rintro x w1 ⟨rfl, hw1⟩;have hg1 : Grow w0 w1 := by subst hw1; exact (Grow.refl _).alloc _
 have hD1 : Rd w1 w0.heap.size (str l) 0 := by subst hw1; exact Blk.new w0 _ [_, _]
 clear hw1;have hR1 := hR0.fits hg1;go_wp2_with fail;refine (HK.out w1 _ hD1).mono ?_;rintro x w2 ⟨rfl, hD2, hb2⟩;have hR2 := hR1.but hb2 (by omega);go_wp2_with fail;refine (HP.out w2 _ hD2).mono ?_;rintro x w3 ⟨rfl, hD3, hb3⟩;have hR3 := hR2.but hb3 (by omega);go_wp2_with fail;refine (HS.out w3 _ hD3).mono ?_;rintro x w4 ⟨rfl, hD4, hb4⟩;have hR4 := hR3.but hb4 (by omega);have hbt : But w0.heap.size w1 w4 := (hb2.trans hb3).trans hb4;have hg4 : Below w_.heap.size w_ w4 := But.below (Below.trans hg0 (hg1.mono (by omega))) hbt (by omega) (by have := hR1.lt; omega);clear hD1 hD2 hD3 hb2 hb3 hb4 hR1 hR2 hR3 hR0 hg0 hg1 hbt;go_upto_region 3 with fail;obtain ⟨w5, hw5⟩ : ∃ w5, w5 = w4.alloc (.cells #[.string (str k), .int .i64 p, .int .i64 s] 102) := ⟨_, rfl⟩;rw [<- hw5];have hg5 : Grow w4 w5 := by subst hw5; exact (Grow.refl _).alloc _
 have hN5 : Blk w5 w4.heap.size 102 [.string (str k), .int .i64 p, .int .i64 s] := by subst hw5; exact Blk.new w4 _ [_, _, _]
 have hD5 : Rd w5 w0.heap.size (str sr) se := Blk.fits hD4 hg5;have hR5 := hR4.fits hg5;have hlt4 := hD4.lt;have hgg : Grow w_ w5 := Below.trans hg4 (hg5.mono (by have := hR4.lt; omega));clear hw5 hg5 hR4 hg4;go_wp2_with fail;refine (HCn.out w5 _ hD5).mono ?_;rintro x w6 ⟨rfl, hD6, hb6⟩;have hR6 := hR5.but hb6 (by omega);have hN6 := hN5.but hb6 (by omega);have hg6 : Grow w_ w6 := But.below hgg hb6 (by omega) (by have := hR5.lt; omega);clear hD4 hD5 hb6 hR5 hN5 hgg;have HN0 := keep hN6;have HN := keep (fun (u : World) (hu : Grow w6.drew u) => Blk.fits (w := w6.drew) hN6 hu);have HEu := keep (fun (u : World) (hu : Grow w6.drew u) => HE.out u w0.heap.size (Blk.fits (w := w6.drew) hD6 hu));clear hN6 hD6;have qE : (EE != 0) = true := by simp [hE0]
 clear hE0;go_wp2_with fail;refine wp_region_grow (by kernel_rfl) 17 (by kernel_rfl) [(19, 0), (20, 1), (21, 2), (22, 3), (23, 4), (24, 5), (25, 6), (26, 7), (27, 8), (28, 9), (29, 10), (30, 11), (31, 12), (32, 13), (33, 14), (34, 15), (35, 16)] (by kernel_rfl) [(0, true), (1, true), (2, true), (3, true), (4, true), (5, true), (6, true), (7, true), (8, true), (9, true), (10, true), (11, true), (12, true), (13, true), (14, true), (15, true), (16, true)] (by kernel_rfl) rfl rfl ?_;apply lex_eq [] [(21, 2), (22, 3), (23, 4), (24, 5), (25, 6), (26, 7), (27, 8), (28, 9), (29, 10), (30, 11), (31, 12), (32, 13), (33, 14), (34, 15), (35, 16), (36, 17)] (by kernel_rfl) (by kernel_rfl) rfl
 ·intro xs w hw hp K hK;simp only [putAll];go_simp;exact hK _ (Grow.refl _)
 apply lex_eq [(0, true)] [(19, 0), (23, 4), (24, 5), (25, 6), (26, 7), (27, 8), (28, 9), (29, 10), (30, 11), (31, 12), (32, 13), (33, 14), (34, 15), (35, 16), (36, 17)] (by kernel_rfl) (by kernel_rfl) rfl
 ·intro xs w hw hp K hK;simp only [hz] at hp;simp only [putAll];go_simp;exact (HEu.out w hw).mono fun e w' h => ⟨_, h.1, hK _ (by rw [<- h.2]; exact Grow.refl _)⟩
 apply lex_eq [(1, true)] [(19, 0), (20, 1), (23, 4), (24, 5), (25, 6), (26, 7), (27, 8), (28, 9), (29, 10), (30, 11), (31, 12), (32, 13), (33, 14), (34, 15), (35, 16), (36, 17)] (by kernel_rfl) (by kernel_rfl) rfl
 ·intro xs w hw hp K hK;simp only [hz] at hp;simp only [putAll];go_simp;exact hK _ (Grow.refl _)
 apply lex_eq [(2, true)] [(19, 0), (20, 1), (21, 2), (27, 8), (28, 9), (29, 10), (30, 11), (31, 12), (32, 13), (33, 14), (34, 15), (35, 16), (36, 17)] (by kernel_rfl) (by kernel_rfl) rfl
 ·intro xs w hw hp K hK;simp only [hz] at hp;simp only [putAll];go_simp;exact hK _ (Grow.refl _)
 apply lex_eq [(3, true)] [(19, 0), (20, 1), (21, 2), (22, 3), (25, 6), (26, 7), (27, 8), (28, 9), (29, 10), (30, 11), (31, 12), (32, 13), (33, 14), (34, 15), (35, 16), (36, 17)] (by kernel_rfl) (by kernel_rfl) rfl
 ·intro xs w hw hp K hK;simp only [hz] at hp;simp only [putAll];go_simp;exact hK _ (Grow.refl _)
 apply lex_eq [(3, true), (4, true)] [(19, 0), (20, 1), (21, 2), (22, 3), (23, 4), (26, 7), (28, 9), (29, 10), (30, 11), (31, 12), (32, 13), (33, 14), (34, 15), (35, 16), (36, 17)] (by kernel_rfl) (by kernel_rfl) rfl
 ·intro xs w hw hp K hK;simp only [hz] at hp;simp only [putAll];go_simp;exact hK _ (Grow.refl _)
 apply lex_eq [(3, true), (5, true)] [(19, 0), (20, 1), (21, 2), (22, 3), (23, 4), (24, 5), (27, 8), (28, 9), (29, 10), (30, 11), (31, 12), (32, 13), (33, 14), (34, 15), (35, 16), (36, 17)] (by kernel_rfl) (by kernel_rfl) rfl
 ·intro xs w hw hp K hK;simp only [hz] at hp;simp only [putAll];go_simp;exact hK _ (Grow.refl _)
 apply lex_eq [(3, true), (6, true)] [(19, 0), (20, 1), (21, 2), (22, 3), (23, 4), (24, 5), (25, 6), (28, 9), (29, 10), (30, 11), (31, 12), (32, 13), (33, 14), (34, 15), (35, 16), (36, 17)] (by kernel_rfl) (by kernel_rfl) rfl
 ·intro xs w hw hp K hK;simp only [hz] at hp;simp only [putAll];go_simp;exact hK _ (Grow.refl _)
 apply lex_eq [(7, true)] [(19, 0), (20, 1), (21, 2), (22, 3), (23, 4), (24, 5), (25, 6), (26, 7), (32, 13), (33, 14), (34, 15)] (by kernel_rfl) (by kernel_rfl) rfl
 ·intro xs w hw hp K hK;simp only [hz] at hp;simp only [putAll];go_simp;exact hK _ (Grow.refl _)
 apply lex_eq [(8, true)] [(19, 0), (20, 1), (21, 2), (22, 3), (23, 4), (24, 5), (25, 6), (26, 7), (27, 8), (29, 10), (31, 12), (32, 13), (33, 14), (34, 15), (35, 16), (36, 17)] (by kernel_rfl) (by kernel_rfl) rfl
 ·intro xs w hw hp K hK;simp only [hz] at hp;simp only [putAll];go_simp;exact hK _ (Grow.refl _)
 apply lex_eq [(8, true)] [(19, 0), (20, 1), (21, 2), (22, 3), (23, 4), (24, 5), (25, 6), (26, 7), (27, 8), (28, 9), (32, 13), (33, 14), (34, 15), (35, 16), (36, 17)] (by kernel_rfl) (by kernel_rfl) rfl
 ·intro xs w hw hp K hK;simp only [hz] at hp;simp only [putAll];go_simp;exact hK _ (Grow.refl _)
 apply lex_eq [(8, true), (9, true), (10, true)] [(19, 0), (20, 1), (21, 2), (22, 3), (23, 4), (24, 5), (25, 6), (26, 7), (27, 8), (28, 9), (29, 10), (32, 13), (33, 14), (34, 15), (35, 16), (36, 17)] (by kernel_rfl) (by kernel_rfl) rfl
 ·intro xs w hw hp K hK;simp only [hz] at hp;simp only [putAll];go_simp;exact hK _ (Grow.refl _)
 apply lex_eq [(8, true), (11, true)] [(19, 0), (20, 1), (21, 2), (22, 3), (23, 4), (24, 5), (25, 6), (26, 7), (27, 8), (28, 9), (29, 10), (30, 11), (36, 17)] (by kernel_rfl) (by kernel_rfl) rfl
 ·intro xs w hw hp K hK;simp only [hz] at hp;simp only [putAll];go_simp;exact hK _ (Grow.refl _)
 apply lex_eq [(12, true)] [(19, 0), (20, 1), (21, 2), (22, 3), (23, 4), (24, 5), (25, 6), (26, 7), (27, 8), (28, 9), (29, 10), (30, 11), (31, 12), (34, 15), (35, 16), (36, 17)] (by kernel_rfl) (by kernel_rfl) rfl
 ·intro xs w hw hp K hK;simp only [hz] at hp;simp only [putAll];go_simp;exact hK _ (Grow.refl _)
 apply lex_eq [(12, true), (13, true)] [(19, 0), (20, 1), (21, 2), (22, 3), (23, 4), (24, 5), (25, 6), (26, 7), (27, 8), (28, 9), (29, 10), (30, 11), (31, 12), (32, 13), (35, 16), (36, 17)] (by kernel_rfl) (by kernel_rfl) rfl
 ·intro xs w hw hp K hK;simp only [hz] at hp;simp only [putAll];go_simp;exact hK _ (Grow.refl _)
 apply lex_eq [(12, true), (14, true)] [(19, 0), (20, 1), (21, 2), (22, 3), (23, 4), (24, 5), (25, 6), (26, 7), (27, 8), (28, 9), (29, 10), (30, 11), (31, 12), (32, 13), (33, 14), (36, 17)] (by kernel_rfl) (by kernel_rfl) rfl
 ·intro xs w hw hp K hK;simp only [hz] at hp;simp only [putAll];go_simp;exact hK _ (Grow.refl _)
 apply lex_eq [(8, true), (12, true), (15, true)] [(19, 0), (20, 1), (21, 2), (22, 3), (23, 4), (24, 5), (25, 6), (26, 7), (27, 8), (28, 9), (29, 10), (30, 11), (31, 12), (32, 13), (33, 14), (34, 15)] (by kernel_rfl) (by kernel_rfl) rfl
 ·intro xs w hw hp K hK;simp only [hz] at hp;simp only [putAll];go_simp;exact hK _ (Grow.refl _)
 intro xs w hw hp;generalize hA : putAll xs _ _ = A;simp only [hz] at hp;have h8 := hp.2.2.2.2.2.2.2.2.1;have h16 := hp.2.2.2.2.2.2.2.2.2.2.2.2.2.2.2.2;clear hp;subst hA;simp only [putAll, h8, h16];have hgw : Grow w6 w := hw.undrew;have hR7 := hR6.fits hgw;have hN7 := HN0.out.fits hgw;have hg7 := Grow.trans hg6 hgw;have Hlt := keep hR7.lt;clear hw h8 h16 hgw hR6 hg6;obtain ⟨r0, r1, r2, f0, f1, f2⟩ := enres hR7;have Hset := keep (enset hR7 (.string ⟨#[]⟩) (.int .i64 0) (.int .i64 0));have Hbut := keep (enbut w w_.heap.size (.string ⟨#[]⟩) (.int .i64 0) (.int .i64 0));clear hR7 hN7;go_wp2_with fail;rw [HD2.out];refine bodyPost_ret (v := .tuple #[enV leastE, .int .i64 0, .int .i64 140]) ?_ rfl ⟨rfl, But.below hg7 Hbut.out (Nat.le_refl _) (Nat.le_of_lt Hlt.out)⟩;obtain ⟨s0, s1, s2, _⟩ := enres Hset.out;simp [results, Tryz.results79, go_sem, s0, s1, s2, enV, leastE]
 rfl
set_option maxRecDepth 100000 in
set_option maxHeartbeats 2000000 in
theorem unsep_2 (l : List UInt8) (w_ : World) (hs : (l.length : Int) <= 9223372036854775807)
  (hE0 : endE ((takeC l).2.1, (takeC l).2.2) = 0) (hCi : inB (takeC l).1 1 65535 = false) :
  Calls Tryz.prog 79 #[.string (str l)] w_ fun x w' => x = .returned (.tuple #[enV (unsN l).1, .int .i64 (unsN l).2.1, .int .i64 (unsN l).2.2]) /\ Below w_.heap.size w_ w' := by
 obtain ⟨w0, hw0⟩ : ∃ w0, w0 = (w_.alloc (.cells #[.string ⟨#[]⟩, .int .i64 0, .int .i64 0] 102)) := ⟨_, rfl⟩;have hg0 : Grow w_ w0 := by subst hw0; exact (Grow.refl w_).alloc _
 have hR0 : Blk w0 w_.heap.size 102 [.string ⟨#[]⟩, .int .i64 0, .int .i64 0] := by subst hw0; exact Blk.new w_ _ [_, _, _]
 have hz0 : w_.heap.size < w0.heap.size := hR0.lt;have h1 := takeK_le l;have h2 := takeP_le l;have h3 := takeS_le l;have h4 := takeC_le l;have hd : unsN l = if decide (endE ((takeC l).2.1, (takeC l).2.2) = 0) && (inB (takeC l).1 1 65535 && (decide (((takeK l).1, (takeP l).1, (takeS l).1) = leastE) || enOk ((takeK l).1, (takeP l).1, (takeS l).1))) then (((takeK l).1, (takeP l).1, (takeS l).1), (takeC l).1, 0) else (leastE, 0, 140) := rfl
 have hK := fun u b (h : Rd u b (str l) 0) => rdText_ok b (str l) 24 u h (by unfold maxLen; simp; omega) (by decide)
 have hP := fun u b (h : Rd u b (str (takeK l).2.1) (takeK l).2.2) => rdNum_any b 65535 ((takeK l).2.1, (takeK l).2.2) u h (by dsimp only; omega) (by decide)
 have hS := fun u b (h : Rd u b (str (takeP l).2.1) (takeP l).2.2) => rdNum_any b 65535 ((takeP l).2.1, (takeP l).2.2) u h (by dsimp only; omega) (by decide)
 have hC := fun u b (h : Rd u b (str (takeS l).2.1) (takeS l).2.2) => rdNum_any b 65535 ((takeS l).2.1, (takeS l).2.2) u h (by dsimp only; omega) (by decide)
 have hE := fun u b (h : Rd u b (str (takeC l).2.1) (takeC l).2.2) => rdEnd b (str (takeC l).2.1) (takeC l).2.2 u h
 have hee : (if (takeC l).2.2 = 0 /\ 0 < (str (takeC l).2.1).size then (12 : Int) else (takeC l).2.2) = endE ((takeC l).2.1, (takeC l).2.2) := rfl;simp only [str_toList] at hK;rw [hee] at hE;change ∀ u b, Rd u b (str (takeK l).2.1) (takeK l).2.2 -> Calls _ _ _ _ (fun e w' => e = .returned (.int .i64 (takeP l).1) /\ Rd w' b (str (takeP l).2.1) (takeP l).2.2 /\ But b u w') at hP;change ∀ u b, Rd u b (str (takeP l).2.1) (takeP l).2.2 -> Calls _ _ _ _ (fun e w' => e = .returned (.int .i64 (takeS l).1) /\ Rd w' b (str (takeS l).2.1) (takeS l).2.2 /\ But b u w') at hS;change ∀ u b, Rd u b (str (takeS l).2.1) (takeS l).2.2 -> Calls _ _ _ _ (fun e w' => e = .returned (.int .i64 (takeC l).1) /\ Rd w' b (str (takeC l).2.1) (takeC l).2.2 /\ But b u w') at hC;change ∀ u b, Rd u b (str l) 0 -> Calls _ _ _ _ (fun e w' => e = .returned (.string (str (takeK l).1)) /\ Rd w' b (str (takeK l).2.1) (takeK l).2.2 /\ But b u w') at hK;clear hee h1 h2 h3 h4;generalize endE ((takeC l).2.1, (takeC l).2.2) = EE at *;generalize takeC l = C at *;generalize takeS l = S at *;generalize takeP l = P at *;generalize takeK l = K at *;obtain ⟨k, kr, ke⟩ := K;obtain ⟨p, pr, pe⟩ := P;obtain ⟨s, sr, se⟩ := S;obtain ⟨c, cr, ce⟩ := C;dsimp only at hd hK hP hS hC hE;have hd2 : unsN l = (leastE, 0, 140) := by rw [hd, hCi]; simp
 have HD2 := keep hd2;have HC := keep hCi;clear hd hd2 hCi;have HK := keep hK;have HP := keep hP;have HS := keep hS;have HE := keep hE;have HCn := keep hC;clear hK hP hS hC hE;go_enter Tryz.func79, Tryz.ntmps79;go_upto_region 1 with fail;rw [<- hw0];clear hw0;go_wp2_with fail;refine (rdRead (str l) w0).mono ?_;rintro x w1 ⟨rfl, hw1⟩;have hg1 : Grow w0 w1 := by subst hw1; exact (Grow.refl _).alloc _
 have hD1 : Rd w1 w0.heap.size (str l) 0 := by subst hw1; exact Blk.new w0 _ [_, _]
 clear hw1;have hR1 := hR0.fits hg1;go_wp2_with fail;refine (HK.out w1 _ hD1).mono ?_;rintro x w2 ⟨rfl, hD2, hb2⟩;have hR2 := hR1.but hb2 (by omega);go_wp2_with fail;refine (HP.out w2 _ hD2).mono ?_;rintro x w3 ⟨rfl, hD3, hb3⟩;have hR3 := hR2.but hb3 (by omega);go_wp2_with fail;refine (HS.out w3 _ hD3).mono ?_;rintro x w4 ⟨rfl, hD4, hb4⟩;have hR4 := hR3.but hb4 (by omega);have hbt : But w0.heap.size w1 w4 := (hb2.trans hb3).trans hb4;have hg4 : Below w_.heap.size w_ w4 := But.below (Below.trans hg0 (hg1.mono (by omega))) hbt (by omega) (by have := hR1.lt; omega);clear hD1 hD2 hD3 hb2 hb3 hb4 hR1 hR2 hR3 hR0 hg0 hg1 hbt;go_upto_region 3 with fail;obtain ⟨w5, hw5⟩ : ∃ w5, w5 = w4.alloc (.cells #[.string (str k), .int .i64 p, .int .i64 s] 102) := ⟨_, rfl⟩;rw [<- hw5];have hg5 : Grow w4 w5 := by subst hw5; exact (Grow.refl _).alloc _
 have hN5 : Blk w5 w4.heap.size 102 [.string (str k), .int .i64 p, .int .i64 s] := by subst hw5; exact Blk.new w4 _ [_, _, _]
 have hD5 : Rd w5 w0.heap.size (str sr) se := Blk.fits hD4 hg5;have hR5 := hR4.fits hg5;have hlt4 := hD4.lt;have hgg : Grow w_ w5 := Below.trans hg4 (hg5.mono (by have := hR4.lt; omega));clear hw5 hg5 hR4 hg4;go_wp2_with fail;refine (HCn.out w5 _ hD5).mono ?_;rintro x w6 ⟨rfl, hD6, hb6⟩;have hR6 := hR5.but hb6 (by omega);have hN6 := hN5.but hb6 (by omega);have hg6 : Grow w_ w6 := But.below hgg hb6 (by omega) (by have := hR5.lt; omega);clear hD4 hD5 hb6 hR5 hN5 hgg;have HN0 := keep hN6;have HN := keep (fun (u : World) (hu : Grow w6.drew u) => Blk.fits (w := w6.drew) hN6 hu);have HEu := keep (fun (u : World) (hu : Grow w6.drew u) => HE.out u w0.heap.size (Blk.fits (w := w6.drew) hD6 hu));clear hN6 hD6;subst hE0;go_wp2_with fail;refine wp_region_grow (by kernel_rfl) 17 (by kernel_rfl) [(19, 0), (20, 1), (21, 2), (22, 3), (23, 4), (24, 5), (25, 6), (26, 7), (27, 8), (28, 9), (29, 10), (30, 11), (31, 12), (32, 13), (33, 14), (34, 15), (35, 16)] (by kernel_rfl) [(0, true), (1, true), (2, true), (3, true), (4, true), (5, true), (6, true), (7, true), (8, true), (9, true), (10, true), (11, true), (12, true), (13, true), (14, true), (15, true), (16, true)] (by kernel_rfl) rfl rfl ?_;apply lex_eq [] [(21, 2), (22, 3), (23, 4), (24, 5), (25, 6), (26, 7), (27, 8), (28, 9), (29, 10), (30, 11), (31, 12), (32, 13), (33, 14), (34, 15), (35, 16), (36, 17)] (by kernel_rfl) (by kernel_rfl) rfl
 ·intro xs w hw hp K hK;simp only [putAll];go_simp;exact hK _ (Grow.refl _)
 apply lex_eq [(0, true)] [(19, 0), (23, 4), (24, 5), (25, 6), (26, 7), (27, 8), (28, 9), (29, 10), (30, 11), (31, 12), (32, 13), (33, 14), (34, 15), (35, 16), (36, 17)] (by kernel_rfl) (by kernel_rfl) rfl
 ·intro xs w hw hp K hK;simp only [hz] at hp;simp only [putAll];go_simp;exact (HEu.out w hw).mono fun e w' h => ⟨_, h.1, hK _ (by rw [<- h.2]; exact Grow.refl _)⟩
 apply lex_eq [(1, true)] [(19, 0), (20, 1), (23, 4), (24, 5), (25, 6), (26, 7), (27, 8), (28, 9), (29, 10), (30, 11), (31, 12), (32, 13), (33, 14), (34, 15), (35, 16), (36, 17)] (by kernel_rfl) (by kernel_rfl) rfl
 ·intro xs w hw hp K hK;simp only [hz] at hp;simp only [putAll];go_simp;exact hK _ (Grow.refl _)
 apply lex_eq [(2, true)] [(19, 0), (20, 1), (21, 2), (27, 8), (28, 9), (29, 10), (30, 11), (31, 12), (32, 13), (33, 14), (34, 15), (35, 16), (36, 17)] (by kernel_rfl) (by kernel_rfl) rfl
 ·intro xs w hw hp K hK;simp only [hz] at hp;simp only [putAll];go_simp;exact hK _ (Grow.refl _)
 apply lex_eq [(3, true)] [(19, 0), (20, 1), (21, 2), (22, 3), (25, 6), (26, 7), (27, 8), (28, 9), (29, 10), (30, 11), (31, 12), (32, 13), (33, 14), (34, 15), (35, 16), (36, 17)] (by kernel_rfl) (by kernel_rfl) rfl
 ·intro xs w hw hp K hK;simp only [hz] at hp;simp only [putAll];go_simp;exact hK _ (Grow.refl _)
 apply lex_eq [(3, true), (4, true)] [(19, 0), (20, 1), (21, 2), (22, 3), (23, 4), (26, 7), (28, 9), (29, 10), (30, 11), (31, 12), (32, 13), (33, 14), (34, 15), (35, 16), (36, 17)] (by kernel_rfl) (by kernel_rfl) rfl
 ·intro xs w hw hp K hK;simp only [hz] at hp;simp only [putAll];go_simp;exact (isChild_any c w).mono fun e w' h => ⟨_, h.1.trans (by rw [HC.out]), hK _ (by rw [<- h.2]; exact Grow.refl _)⟩
 apply lex_eq [(3, true), (5, true)] [(19, 0), (20, 1), (21, 2), (22, 3), (23, 4), (24, 5), (27, 8), (28, 9), (29, 10), (30, 11), (31, 12), (32, 13), (33, 14), (34, 15), (35, 16), (36, 17)] (by kernel_rfl) (by kernel_rfl) rfl
 ·intro xs w hw hp K hK;simp only [hz] at hp;simp only [putAll];go_simp;exact hK _ (Grow.refl _)
 apply lex_eq [(3, true), (6, true)] [(19, 0), (20, 1), (21, 2), (22, 3), (23, 4), (24, 5), (25, 6), (28, 9), (29, 10), (30, 11), (31, 12), (32, 13), (33, 14), (34, 15), (35, 16), (36, 17)] (by kernel_rfl) (by kernel_rfl) rfl
 ·intro xs w hw hp K hK;simp only [hz] at hp;simp only [putAll];go_simp;exact hK _ (Grow.refl _)
 apply lex_eq [(7, true)] [(19, 0), (20, 1), (21, 2), (22, 3), (23, 4), (24, 5), (25, 6), (26, 7), (32, 13), (33, 14), (34, 15)] (by kernel_rfl) (by kernel_rfl) rfl
 ·intro xs w hw hp K hK;simp only [hz] at hp;simp only [putAll];go_simp;exact hK _ (Grow.refl _)
 apply lex_eq [(8, true)] [(19, 0), (20, 1), (21, 2), (22, 3), (23, 4), (24, 5), (25, 6), (26, 7), (27, 8), (29, 10), (31, 12), (32, 13), (33, 14), (34, 15), (35, 16), (36, 17)] (by kernel_rfl) (by kernel_rfl) rfl
 ·intro xs w hw hp K hK;simp only [hz] at hp;simp only [putAll];go_simp;exact hK _ (Grow.refl _)
 apply lex_eq [(8, true)] [(19, 0), (20, 1), (21, 2), (22, 3), (23, 4), (24, 5), (25, 6), (26, 7), (27, 8), (28, 9), (32, 13), (33, 14), (34, 15), (35, 16), (36, 17)] (by kernel_rfl) (by kernel_rfl) rfl
 ·intro xs w hw hp K hK;simp only [hz] at hp;simp only [putAll];go_simp;exact hK _ (Grow.refl _)
 apply lex_eq [(8, true), (9, true), (10, true)] [(19, 0), (20, 1), (21, 2), (22, 3), (23, 4), (24, 5), (25, 6), (26, 7), (27, 8), (28, 9), (29, 10), (32, 13), (33, 14), (34, 15), (35, 16), (36, 17)] (by kernel_rfl) (by kernel_rfl) rfl
 ·intro xs w hw hp K hK;simp only [hz] at hp;simp only [putAll];go_simp;exact hK _ (Grow.refl _)
 apply lex_eq [(8, true), (11, true)] [(19, 0), (20, 1), (21, 2), (22, 3), (23, 4), (24, 5), (25, 6), (26, 7), (27, 8), (28, 9), (29, 10), (30, 11), (36, 17)] (by kernel_rfl) (by kernel_rfl) rfl
 ·intro xs w hw hp K hK;simp only [hz] at hp;simp only [putAll];go_simp;exact hK _ (Grow.refl _)
 apply lex_eq [(12, true)] [(19, 0), (20, 1), (21, 2), (22, 3), (23, 4), (24, 5), (25, 6), (26, 7), (27, 8), (28, 9), (29, 10), (30, 11), (31, 12), (34, 15), (35, 16), (36, 17)] (by kernel_rfl) (by kernel_rfl) rfl
 ·intro xs w hw hp K hK;simp only [hz] at hp;simp only [putAll];go_simp;exact hK _ (Grow.refl _)
 apply lex_eq [(12, true), (13, true)] [(19, 0), (20, 1), (21, 2), (22, 3), (23, 4), (24, 5), (25, 6), (26, 7), (27, 8), (28, 9), (29, 10), (30, 11), (31, 12), (32, 13), (35, 16), (36, 17)] (by kernel_rfl) (by kernel_rfl) rfl
 ·intro xs w hw hp K hK;simp only [hz] at hp;simp only [putAll];go_simp;exact hK _ (Grow.refl _)
 apply lex_eq [(12, true), (14, true)] [(19, 0), (20, 1), (21, 2), (22, 3), (23, 4), (24, 5), (25, 6), (26, 7), (27, 8), (28, 9), (29, 10), (30, 11), (31, 12), (32, 13), (33, 14), (36, 17)] (by kernel_rfl) (by kernel_rfl) rfl
 ·intro xs w hw hp K hK;simp only [hz] at hp;simp only [putAll];go_simp;exact hK _ (Grow.refl _)
 apply lex_eq [(8, true), (12, true), (15, true)] [(19, 0), (20, 1), (21, 2), (22, 3), (23, 4), (24, 5), (25, 6), (26, 7), (27, 8), (28, 9), (29, 10), (30, 11), (31, 12), (32, 13), (33, 14), (34, 15)] (by kernel_rfl) (by kernel_rfl) rfl
 ·intro xs w hw hp K hK;simp only [hz] at hp;simp only [putAll];go_simp;exact hK _ (Grow.refl _)
 intro xs w hw hp;generalize hA : putAll xs _ _ = A;simp only [hz] at hp;have h8 := hp.2.2.2.2.2.2.2.2.1;have h16 := hp.2.2.2.2.2.2.2.2.2.2.2.2.2.2.2.2;clear hp;subst hA;simp only [putAll, h8, h16];have hgw : Grow w6 w := hw.undrew;have hR7 := hR6.fits hgw;have hN7 := HN0.out.fits hgw;have hg7 := Grow.trans hg6 hgw;have Hlt := keep hR7.lt;clear hw h8 h16 hgw hR6 hg6;obtain ⟨r0, r1, r2, f0, f1, f2⟩ := enres hR7;have Hset := keep (enset hR7 (.string ⟨#[]⟩) (.int .i64 0) (.int .i64 0));have Hbut := keep (enbut w w_.heap.size (.string ⟨#[]⟩) (.int .i64 0) (.int .i64 0));clear hR7 hN7;go_wp2_with fail;rw [HD2.out];refine bodyPost_ret (v := .tuple #[enV leastE, .int .i64 0, .int .i64 140]) ?_ rfl ⟨rfl, But.below hg7 Hbut.out (Nat.le_refl _) (Nat.le_of_lt Hlt.out)⟩;obtain ⟨s0, s1, s2, _⟩ := enres Hset.out;simp [results, Tryz.results79, go_sem, s0, s1, s2, enV, leastE]
 rfl
set_option maxRecDepth 100000 in
set_option maxHeartbeats 2000000 in
theorem unsep_3 (l : List UInt8) (w_ : World) (hs : (l.length : Int) <= 9223372036854775807)
  (hE0 : endE ((takeC l).2.1, (takeC l).2.2) = 0) (hCi : inB (takeC l).1 1 65535 = true) (hL : isL ((takeK l).1, (takeP l).1, (takeS l).1) = true) :
  Calls Tryz.prog 79 #[.string (str l)] w_ fun x w' => x = .returned (.tuple #[enV (unsN l).1, .int .i64 (unsN l).2.1, .int .i64 (unsN l).2.2]) /\ Below w_.heap.size w_ w' := by
 obtain ⟨w0, hw0⟩ : ∃ w0, w0 = (w_.alloc (.cells #[.string ⟨#[]⟩, .int .i64 0, .int .i64 0] 102)) := ⟨_, rfl⟩;have hg0 : Grow w_ w0 := by subst hw0; exact (Grow.refl w_).alloc _
 have hR0 : Blk w0 w_.heap.size 102 [.string ⟨#[]⟩, .int .i64 0, .int .i64 0] := by subst hw0; exact Blk.new w_ _ [_, _, _]
 have hz0 : w_.heap.size < w0.heap.size := hR0.lt;have h1 := takeK_le l;have h2 := takeP_le l;have h3 := takeS_le l;have h4 := takeC_le l;have hd : unsN l = if decide (endE ((takeC l).2.1, (takeC l).2.2) = 0) && (inB (takeC l).1 1 65535 && (decide (((takeK l).1, (takeP l).1, (takeS l).1) = leastE) || enOk ((takeK l).1, (takeP l).1, (takeS l).1))) then (((takeK l).1, (takeP l).1, (takeS l).1), (takeC l).1, 0) else (leastE, 0, 140) := rfl
 have hK := fun u b (h : Rd u b (str l) 0) => rdText_ok b (str l) 24 u h (by unfold maxLen; simp; omega) (by decide)
 have hP := fun u b (h : Rd u b (str (takeK l).2.1) (takeK l).2.2) => rdNum_any b 65535 ((takeK l).2.1, (takeK l).2.2) u h (by dsimp only; omega) (by decide)
 have hS := fun u b (h : Rd u b (str (takeP l).2.1) (takeP l).2.2) => rdNum_any b 65535 ((takeP l).2.1, (takeP l).2.2) u h (by dsimp only; omega) (by decide)
 have hC := fun u b (h : Rd u b (str (takeS l).2.1) (takeS l).2.2) => rdNum_any b 65535 ((takeS l).2.1, (takeS l).2.2) u h (by dsimp only; omega) (by decide)
 have hE := fun u b (h : Rd u b (str (takeC l).2.1) (takeC l).2.2) => rdEnd b (str (takeC l).2.1) (takeC l).2.2 u h
 have hee : (if (takeC l).2.2 = 0 /\ 0 < (str (takeC l).2.1).size then (12 : Int) else (takeC l).2.2) = endE ((takeC l).2.1, (takeC l).2.2) := rfl;simp only [str_toList] at hK;rw [hee] at hE;change ∀ u b, Rd u b (str (takeK l).2.1) (takeK l).2.2 -> Calls _ _ _ _ (fun e w' => e = .returned (.int .i64 (takeP l).1) /\ Rd w' b (str (takeP l).2.1) (takeP l).2.2 /\ But b u w') at hP;change ∀ u b, Rd u b (str (takeP l).2.1) (takeP l).2.2 -> Calls _ _ _ _ (fun e w' => e = .returned (.int .i64 (takeS l).1) /\ Rd w' b (str (takeS l).2.1) (takeS l).2.2 /\ But b u w') at hS;change ∀ u b, Rd u b (str (takeS l).2.1) (takeS l).2.2 -> Calls _ _ _ _ (fun e w' => e = .returned (.int .i64 (takeC l).1) /\ Rd w' b (str (takeC l).2.1) (takeC l).2.2 /\ But b u w') at hC;change ∀ u b, Rd u b (str l) 0 -> Calls _ _ _ _ (fun e w' => e = .returned (.string (str (takeK l).1)) /\ Rd w' b (str (takeK l).2.1) (takeK l).2.2 /\ But b u w') at hK;clear hee h1 h2 h3 h4;generalize endE ((takeC l).2.1, (takeC l).2.2) = EE at *;generalize takeC l = C at *;generalize takeS l = S at *;generalize takeP l = P at *;generalize takeK l = K at *;obtain ⟨k, kr, ke⟩ := K;obtain ⟨p, pr, pe⟩ := P;obtain ⟨s, sr, se⟩ := S;obtain ⟨c, cr, ce⟩ := C;dsimp only at hd hK hP hS hC hE;have hd2 : unsN l = ((k, p, s), c, 0) := by rw [hd, hCi, hE0, show decide ((k, p, s) = leastE) = true from hL]; rfl
 have HD2 := keep hd2;have HC := keep hCi;have HQ := keep hL;clear hd hd2 hCi hL;have HK := keep hK;have HP := keep hP;have HS := keep hS;have HE := keep hE;have HCn := keep hC;clear hK hP hS hC hE;go_enter Tryz.func79, Tryz.ntmps79;go_upto_region 1 with fail;rw [<- hw0];clear hw0;go_wp2_with fail;refine (rdRead (str l) w0).mono ?_;rintro x w1 ⟨rfl, hw1⟩;have hg1 : Grow w0 w1 := by subst hw1; exact (Grow.refl _).alloc _
 have hD1 : Rd w1 w0.heap.size (str l) 0 := by subst hw1; exact Blk.new w0 _ [_, _]
 clear hw1;have hR1 := hR0.fits hg1;go_wp2_with fail;refine (HK.out w1 _ hD1).mono ?_;rintro x w2 ⟨rfl, hD2, hb2⟩;have hR2 := hR1.but hb2 (by omega);go_wp2_with fail;refine (HP.out w2 _ hD2).mono ?_;rintro x w3 ⟨rfl, hD3, hb3⟩;have hR3 := hR2.but hb3 (by omega);go_wp2_with fail;refine (HS.out w3 _ hD3).mono ?_;rintro x w4 ⟨rfl, hD4, hb4⟩;have hR4 := hR3.but hb4 (by omega);have hbt : But w0.heap.size w1 w4 := (hb2.trans hb3).trans hb4;have hg4 : Below w_.heap.size w_ w4 := But.below (Below.trans hg0 (hg1.mono (by omega))) hbt (by omega) (by have := hR1.lt; omega);clear hD1 hD2 hD3 hb2 hb3 hb4 hR1 hR2 hR3 hR0 hg0 hg1 hbt;go_upto_region 3 with fail;obtain ⟨w5, hw5⟩ : ∃ w5, w5 = w4.alloc (.cells #[.string (str k), .int .i64 p, .int .i64 s] 102) := ⟨_, rfl⟩;rw [<- hw5];have hg5 : Grow w4 w5 := by subst hw5; exact (Grow.refl _).alloc _
 have hN5 : Blk w5 w4.heap.size 102 [.string (str k), .int .i64 p, .int .i64 s] := by subst hw5; exact Blk.new w4 _ [_, _, _]
 have hD5 : Rd w5 w0.heap.size (str sr) se := Blk.fits hD4 hg5;have hR5 := hR4.fits hg5;have hlt4 := hD4.lt;have hgg : Grow w_ w5 := Below.trans hg4 (hg5.mono (by have := hR4.lt; omega));clear hw5 hg5 hR4 hg4;go_wp2_with fail;refine (HCn.out w5 _ hD5).mono ?_;rintro x w6 ⟨rfl, hD6, hb6⟩;have hR6 := hR5.but hb6 (by omega);have hN6 := hN5.but hb6 (by omega);have hg6 : Grow w_ w6 := But.below hgg hb6 (by omega) (by have := hR5.lt; omega);clear hD4 hD5 hb6 hR5 hN5 hgg;have HN0 := keep hN6;have HN := keep (fun (u : World) (hu : Grow w6.drew u) => Blk.fits (w := w6.drew) hN6 hu);have HEu := keep (fun (u : World) (hu : Grow w6.drew u) => HE.out u w0.heap.size (Blk.fits (w := w6.drew) hD6 hu));clear hN6 hD6;subst hE0;go_wp2_with fail;refine wp_region_grow (by kernel_rfl) 17 (by kernel_rfl) [(19, 0), (20, 1), (21, 2), (22, 3), (23, 4), (24, 5), (25, 6), (26, 7), (27, 8), (28, 9), (29, 10), (30, 11), (31, 12), (32, 13), (33, 14), (34, 15), (35, 16)] (by kernel_rfl) [(0, true), (1, true), (2, true), (3, true), (4, true), (5, true), (6, true), (7, true), (8, true), (9, true), (10, true), (11, true), (12, true), (13, true), (14, true), (15, true), (16, true)] (by kernel_rfl) rfl rfl ?_;apply lex_eq [] [(21, 2), (22, 3), (23, 4), (24, 5), (25, 6), (26, 7), (27, 8), (28, 9), (29, 10), (30, 11), (31, 12), (32, 13), (33, 14), (34, 15), (35, 16), (36, 17)] (by kernel_rfl) (by kernel_rfl) rfl
 ·intro xs w hw hp K hK;simp only [putAll];go_simp;exact hK _ (Grow.refl _)
 apply lex_eq [(0, true)] [(19, 0), (23, 4), (24, 5), (25, 6), (26, 7), (27, 8), (28, 9), (29, 10), (30, 11), (31, 12), (32, 13), (33, 14), (34, 15), (35, 16), (36, 17)] (by kernel_rfl) (by kernel_rfl) rfl
 ·intro xs w hw hp K hK;simp only [hz] at hp;simp only [putAll];go_simp;exact (HEu.out w hw).mono fun e w' h => ⟨_, h.1, hK _ (by rw [<- h.2]; exact Grow.refl _)⟩
 apply lex_eq [(1, true)] [(19, 0), (20, 1), (23, 4), (24, 5), (25, 6), (26, 7), (27, 8), (28, 9), (29, 10), (30, 11), (31, 12), (32, 13), (33, 14), (34, 15), (35, 16), (36, 17)] (by kernel_rfl) (by kernel_rfl) rfl
 ·intro xs w hw hp K hK;simp only [hz] at hp;simp only [putAll];go_simp;exact hK _ (Grow.refl _)
 apply lex_eq [(2, true)] [(19, 0), (20, 1), (21, 2), (27, 8), (28, 9), (29, 10), (30, 11), (31, 12), (32, 13), (33, 14), (34, 15), (35, 16), (36, 17)] (by kernel_rfl) (by kernel_rfl) rfl
 ·intro xs w hw hp K hK;simp only [hz] at hp;simp only [putAll];go_simp;exact hK _ (Grow.refl _)
 apply lex_eq [(3, true)] [(19, 0), (20, 1), (21, 2), (22, 3), (25, 6), (26, 7), (27, 8), (28, 9), (29, 10), (30, 11), (31, 12), (32, 13), (33, 14), (34, 15), (35, 16), (36, 17)] (by kernel_rfl) (by kernel_rfl) rfl
 ·intro xs w hw hp K hK;simp only [hz] at hp;simp only [putAll];go_simp;exact hK _ (Grow.refl _)
 apply lex_eq [(3, true), (4, true)] [(19, 0), (20, 1), (21, 2), (22, 3), (23, 4), (26, 7), (28, 9), (29, 10), (30, 11), (31, 12), (32, 13), (33, 14), (34, 15), (35, 16), (36, 17)] (by kernel_rfl) (by kernel_rfl) rfl
 ·intro xs w hw hp K hK;simp only [hz] at hp;simp only [putAll];go_simp;exact (isChild_any c w).mono fun e w' h => ⟨_, h.1.trans (by rw [HC.out]), hK _ (by rw [<- h.2]; exact Grow.refl _)⟩
 apply lex_eq [(3, true), (5, true)] [(19, 0), (20, 1), (21, 2), (22, 3), (23, 4), (24, 5), (27, 8), (28, 9), (29, 10), (30, 11), (31, 12), (32, 13), (33, 14), (34, 15), (35, 16), (36, 17)] (by kernel_rfl) (by kernel_rfl) rfl
 ·intro xs w hw hp K hK;simp only [hz] at hp;simp only [putAll];go_simp;exact hK _ (Grow.refl _)
 apply lex_eq [(3, true), (6, true)] [(19, 0), (20, 1), (21, 2), (22, 3), (23, 4), (24, 5), (25, 6), (28, 9), (29, 10), (30, 11), (31, 12), (32, 13), (33, 14), (34, 15), (35, 16), (36, 17)] (by kernel_rfl) (by kernel_rfl) rfl
 ·intro xs w hw hp K hK;simp only [hz] at hp;simp only [putAll];go_simp;exact hK _ (Grow.refl _)
 apply lex_eq [(7, true)] [(19, 0), (20, 1), (21, 2), (22, 3), (23, 4), (24, 5), (25, 6), (26, 7), (32, 13), (33, 14), (34, 15)] (by kernel_rfl) (by kernel_rfl) rfl
 ·intro xs w hw hp K hK;simp only [hz] at hp;simp only [putAll];go_simp;exact hK _ (Grow.refl _)
 apply lex_eq [(8, true)] [(19, 0), (20, 1), (21, 2), (22, 3), (23, 4), (24, 5), (25, 6), (26, 7), (27, 8), (29, 10), (31, 12), (32, 13), (33, 14), (34, 15), (35, 16), (36, 17)] (by kernel_rfl) (by kernel_rfl) rfl
 ·intro xs w hw hp K hK;simp only [hz] at hp;simp only [putAll];have h2 := enres (HN.out w hw);have c0 := h2.1;have c1 := h2.2.1;have c2 := h2.2.2.1;go_simp;exact hK _ (Grow.refl _)
 apply lex_eq [(8, true)] [(19, 0), (20, 1), (21, 2), (22, 3), (23, 4), (24, 5), (25, 6), (26, 7), (27, 8), (28, 9), (32, 13), (33, 14), (34, 15), (35, 16), (36, 17)] (by kernel_rfl) (by kernel_rfl) rfl
 ·intro xs w hw hp K hK;simp only [hz] at hp;simp only [putAll];go_simp;exact (least_any w).mono fun e w' h => ⟨_, h.1, hK _ h.2⟩
 apply lex_eq [(8, true), (9, true), (10, true)] [(19, 0), (20, 1), (21, 2), (22, 3), (23, 4), (24, 5), (25, 6), (26, 7), (27, 8), (28, 9), (29, 10), (32, 13), (33, 14), (34, 15), (35, 16), (36, 17)] (by kernel_rfl) (by kernel_rfl) rfl
 ·intro xs w hw hp K hK;simp only [hz] at hp;unfold enV at hp;simp only [putAll];go_simp;simp only [HQ.out, Bool.not_true];exact hK _ (Grow.refl _)
 apply lex_eq [(8, true), (11, true)] [(19, 0), (20, 1), (21, 2), (22, 3), (23, 4), (24, 5), (25, 6), (26, 7), (27, 8), (28, 9), (29, 10), (30, 11), (36, 17)] (by kernel_rfl) (by kernel_rfl) rfl
 ·intro xs w hw hp K hK;simp only [hz] at hp;simp only [putAll];go_simp;exact hK _ (Grow.refl _)
 apply lex_eq [(12, true)] [(19, 0), (20, 1), (21, 2), (22, 3), (23, 4), (24, 5), (25, 6), (26, 7), (27, 8), (28, 9), (29, 10), (30, 11), (31, 12), (34, 15), (35, 16), (36, 17)] (by kernel_rfl) (by kernel_rfl) rfl
 ·intro xs w hw hp K hK;simp only [hz] at hp;simp only [putAll];go_simp;exact hK _ (Grow.refl _)
 apply lex_eq [(12, true), (13, true)] [(19, 0), (20, 1), (21, 2), (22, 3), (23, 4), (24, 5), (25, 6), (26, 7), (27, 8), (28, 9), (29, 10), (30, 11), (31, 12), (32, 13), (35, 16), (36, 17)] (by kernel_rfl) (by kernel_rfl) rfl
 ·intro xs w hw hp K hK;simp only [hz] at hp;simp only [putAll];go_simp;exact hK _ (Grow.refl _)
 apply lex_eq [(12, true), (14, true)] [(19, 0), (20, 1), (21, 2), (22, 3), (23, 4), (24, 5), (25, 6), (26, 7), (27, 8), (28, 9), (29, 10), (30, 11), (31, 12), (32, 13), (33, 14), (36, 17)] (by kernel_rfl) (by kernel_rfl) rfl
 ·intro xs w hw hp K hK;simp only [hz] at hp;simp only [putAll];go_simp;exact hK _ (Grow.refl _)
 apply lex_eq [(8, true), (12, true), (15, true)] [(19, 0), (20, 1), (21, 2), (22, 3), (23, 4), (24, 5), (25, 6), (26, 7), (27, 8), (28, 9), (29, 10), (30, 11), (31, 12), (32, 13), (33, 14), (34, 15)] (by kernel_rfl) (by kernel_rfl) rfl
 ·intro xs w hw hp K hK;simp only [hz] at hp;simp only [putAll];go_simp;exact hK _ (Grow.refl _)
 intro xs w hw hp;generalize hA : putAll xs _ _ = A;simp only [hz] at hp;have h8 := hp.2.2.2.2.2.2.2.2.1;have h16 := hp.2.2.2.2.2.2.2.2.2.2.2.2.2.2.2.2;clear hp;subst hA;simp only [putAll, h8, h16];have hgw : Grow w6 w := hw.undrew;have hR7 := hR6.fits hgw;have hN7 := HN0.out.fits hgw;have hg7 := Grow.trans hg6 hgw;have Hlt := keep hR7.lt;clear hw h8 h16 hgw hR6 hg6;obtain ⟨r0, r1, r2, f0, f1, f2⟩ := enres hR7;obtain ⟨c0, c1, c2, _⟩ := enres hN7;have Hset := keep (enset hR7 (.string (str k)) (.int .i64 p) (.int .i64 s));have Hbut := keep (enbut w w_.heap.size (.string (str k)) (.int .i64 p) (.int .i64 s));clear hR7 hN7;go_wp2_with fail;rw [HD2.out];refine bodyPost_ret (v := .tuple #[enV (k, p, s), .int .i64 c, .int .i64 0]) ?_ rfl ⟨rfl, But.below hg7 Hbut.out (Nat.le_refl _) (Nat.le_of_lt Hlt.out)⟩;obtain ⟨s0, s1, s2, _⟩ := enres Hset.out;simp [results, Tryz.results79, go_sem, s0, s1, s2, enV]
set_option maxRecDepth 100000 in
set_option maxHeartbeats 2000000 in
theorem unsep_4 (l : List UInt8) (w_ : World) (hs : (l.length : Int) <= 9223372036854775807)
  (hE0 : endE ((takeC l).2.1, (takeC l).2.2) = 0) (hCi : inB (takeC l).1 1 65535 = true) (hL : isL ((takeK l).1, (takeP l).1, (takeS l).1) = false) (hA : enOk ((takeK l).1, (takeP l).1, (takeS l).1) = true) :
  Calls Tryz.prog 79 #[.string (str l)] w_ fun x w' => x = .returned (.tuple #[enV (unsN l).1, .int .i64 (unsN l).2.1, .int .i64 (unsN l).2.2]) /\ Below w_.heap.size w_ w' := by
 obtain ⟨w0, hw0⟩ : ∃ w0, w0 = (w_.alloc (.cells #[.string ⟨#[]⟩, .int .i64 0, .int .i64 0] 102)) := ⟨_, rfl⟩;have hg0 : Grow w_ w0 := by subst hw0; exact (Grow.refl w_).alloc _
 have hR0 : Blk w0 w_.heap.size 102 [.string ⟨#[]⟩, .int .i64 0, .int .i64 0] := by subst hw0; exact Blk.new w_ _ [_, _, _]
 have hz0 : w_.heap.size < w0.heap.size := hR0.lt;have h1 := takeK_le l;have h2 := takeP_le l;have h3 := takeS_le l;have h4 := takeC_le l;have hd : unsN l = if decide (endE ((takeC l).2.1, (takeC l).2.2) = 0) && (inB (takeC l).1 1 65535 && (decide (((takeK l).1, (takeP l).1, (takeS l).1) = leastE) || enOk ((takeK l).1, (takeP l).1, (takeS l).1))) then (((takeK l).1, (takeP l).1, (takeS l).1), (takeC l).1, 0) else (leastE, 0, 140) := rfl
 have hK := fun u b (h : Rd u b (str l) 0) => rdText_ok b (str l) 24 u h (by unfold maxLen; simp; omega) (by decide)
 have hP := fun u b (h : Rd u b (str (takeK l).2.1) (takeK l).2.2) => rdNum_any b 65535 ((takeK l).2.1, (takeK l).2.2) u h (by dsimp only; omega) (by decide)
 have hS := fun u b (h : Rd u b (str (takeP l).2.1) (takeP l).2.2) => rdNum_any b 65535 ((takeP l).2.1, (takeP l).2.2) u h (by dsimp only; omega) (by decide)
 have hC := fun u b (h : Rd u b (str (takeS l).2.1) (takeS l).2.2) => rdNum_any b 65535 ((takeS l).2.1, (takeS l).2.2) u h (by dsimp only; omega) (by decide)
 have hE := fun u b (h : Rd u b (str (takeC l).2.1) (takeC l).2.2) => rdEnd b (str (takeC l).2.1) (takeC l).2.2 u h
 have hee : (if (takeC l).2.2 = 0 /\ 0 < (str (takeC l).2.1).size then (12 : Int) else (takeC l).2.2) = endE ((takeC l).2.1, (takeC l).2.2) := rfl;simp only [str_toList] at hK;rw [hee] at hE;change ∀ u b, Rd u b (str (takeK l).2.1) (takeK l).2.2 -> Calls _ _ _ _ (fun e w' => e = .returned (.int .i64 (takeP l).1) /\ Rd w' b (str (takeP l).2.1) (takeP l).2.2 /\ But b u w') at hP;change ∀ u b, Rd u b (str (takeP l).2.1) (takeP l).2.2 -> Calls _ _ _ _ (fun e w' => e = .returned (.int .i64 (takeS l).1) /\ Rd w' b (str (takeS l).2.1) (takeS l).2.2 /\ But b u w') at hS;change ∀ u b, Rd u b (str (takeS l).2.1) (takeS l).2.2 -> Calls _ _ _ _ (fun e w' => e = .returned (.int .i64 (takeC l).1) /\ Rd w' b (str (takeC l).2.1) (takeC l).2.2 /\ But b u w') at hC;change ∀ u b, Rd u b (str l) 0 -> Calls _ _ _ _ (fun e w' => e = .returned (.string (str (takeK l).1)) /\ Rd w' b (str (takeK l).2.1) (takeK l).2.2 /\ But b u w') at hK;clear hee h1 h2 h3 h4;generalize endE ((takeC l).2.1, (takeC l).2.2) = EE at *;generalize takeC l = C at *;generalize takeS l = S at *;generalize takeP l = P at *;generalize takeK l = K at *;obtain ⟨k, kr, ke⟩ := K;obtain ⟨p, pr, pe⟩ := P;obtain ⟨s, sr, se⟩ := S;obtain ⟨c, cr, ce⟩ := C;dsimp only at hd hK hP hS hC hE;have hd2 : unsN l = ((k, p, s), c, 0) := by rw [hd, hCi, hE0, hA]; simp
 have HD2 := keep hd2;have HC := keep hCi;have HQ := keep hL;have HA := keep hA;clear hd hd2 hCi hL hA;have HK := keep hK;have HP := keep hP;have HS := keep hS;have HE := keep hE;have HCn := keep hC;clear hK hP hS hC hE;go_enter Tryz.func79, Tryz.ntmps79;go_upto_region 1 with fail;rw [<- hw0];clear hw0;go_wp2_with fail;refine (rdRead (str l) w0).mono ?_;rintro x w1 ⟨rfl, hw1⟩;have hg1 : Grow w0 w1 := by subst hw1; exact (Grow.refl _).alloc _
 have hD1 : Rd w1 w0.heap.size (str l) 0 := by subst hw1; exact Blk.new w0 _ [_, _]
 clear hw1;have hR1 := hR0.fits hg1;go_wp2_with fail;refine (HK.out w1 _ hD1).mono ?_;rintro x w2 ⟨rfl, hD2, hb2⟩;have hR2 := hR1.but hb2 (by omega);go_wp2_with fail;refine (HP.out w2 _ hD2).mono ?_;rintro x w3 ⟨rfl, hD3, hb3⟩;have hR3 := hR2.but hb3 (by omega);go_wp2_with fail;refine (HS.out w3 _ hD3).mono ?_;rintro x w4 ⟨rfl, hD4, hb4⟩;have hR4 := hR3.but hb4 (by omega);have hbt : But w0.heap.size w1 w4 := (hb2.trans hb3).trans hb4;have hg4 : Below w_.heap.size w_ w4 := But.below (Below.trans hg0 (hg1.mono (by omega))) hbt (by omega) (by have := hR1.lt; omega);clear hD1 hD2 hD3 hb2 hb3 hb4 hR1 hR2 hR3 hR0 hg0 hg1 hbt;go_upto_region 3 with fail;obtain ⟨w5, hw5⟩ : ∃ w5, w5 = w4.alloc (.cells #[.string (str k), .int .i64 p, .int .i64 s] 102) := ⟨_, rfl⟩;rw [<- hw5];have hg5 : Grow w4 w5 := by subst hw5; exact (Grow.refl _).alloc _
 have hN5 : Blk w5 w4.heap.size 102 [.string (str k), .int .i64 p, .int .i64 s] := by subst hw5; exact Blk.new w4 _ [_, _, _]
 have hD5 : Rd w5 w0.heap.size (str sr) se := Blk.fits hD4 hg5;have hR5 := hR4.fits hg5;have hlt4 := hD4.lt;have hgg : Grow w_ w5 := Below.trans hg4 (hg5.mono (by have := hR4.lt; omega));clear hw5 hg5 hR4 hg4;go_wp2_with fail;refine (HCn.out w5 _ hD5).mono ?_;rintro x w6 ⟨rfl, hD6, hb6⟩;have hR6 := hR5.but hb6 (by omega);have hN6 := hN5.but hb6 (by omega);have hg6 : Grow w_ w6 := But.below hgg hb6 (by omega) (by have := hR5.lt; omega);clear hD4 hD5 hb6 hR5 hN5 hgg;have HN0 := keep hN6;have HN := keep (fun (u : World) (hu : Grow w6.drew u) => Blk.fits (w := w6.drew) hN6 hu);have HEu := keep (fun (u : World) (hu : Grow w6.drew u) => HE.out u w0.heap.size (Blk.fits (w := w6.drew) hD6 hu));clear hN6 hD6;subst hE0;go_wp2_with fail;refine wp_region_grow (by kernel_rfl) 17 (by kernel_rfl) [(19, 0), (20, 1), (21, 2), (22, 3), (23, 4), (24, 5), (25, 6), (26, 7), (27, 8), (28, 9), (29, 10), (30, 11), (31, 12), (32, 13), (33, 14), (34, 15), (35, 16)] (by kernel_rfl) [(0, true), (1, true), (2, true), (3, true), (4, true), (5, true), (6, true), (7, true), (8, true), (9, true), (10, true), (11, true), (12, true), (13, true), (14, true), (15, true), (16, true)] (by kernel_rfl) rfl rfl ?_;apply lex_eq [] [(21, 2), (22, 3), (23, 4), (24, 5), (25, 6), (26, 7), (27, 8), (28, 9), (29, 10), (30, 11), (31, 12), (32, 13), (33, 14), (34, 15), (35, 16), (36, 17)] (by kernel_rfl) (by kernel_rfl) rfl
 ·intro xs w hw hp K hK;simp only [putAll];go_simp;exact hK _ (Grow.refl _)
 apply lex_eq [(0, true)] [(19, 0), (23, 4), (24, 5), (25, 6), (26, 7), (27, 8), (28, 9), (29, 10), (30, 11), (31, 12), (32, 13), (33, 14), (34, 15), (35, 16), (36, 17)] (by kernel_rfl) (by kernel_rfl) rfl
 ·intro xs w hw hp K hK;simp only [hz] at hp;simp only [putAll];go_simp;exact (HEu.out w hw).mono fun e w' h => ⟨_, h.1, hK _ (by rw [<- h.2]; exact Grow.refl _)⟩
 apply lex_eq [(1, true)] [(19, 0), (20, 1), (23, 4), (24, 5), (25, 6), (26, 7), (27, 8), (28, 9), (29, 10), (30, 11), (31, 12), (32, 13), (33, 14), (34, 15), (35, 16), (36, 17)] (by kernel_rfl) (by kernel_rfl) rfl
 ·intro xs w hw hp K hK;simp only [hz] at hp;simp only [putAll];go_simp;exact hK _ (Grow.refl _)
 apply lex_eq [(2, true)] [(19, 0), (20, 1), (21, 2), (27, 8), (28, 9), (29, 10), (30, 11), (31, 12), (32, 13), (33, 14), (34, 15), (35, 16), (36, 17)] (by kernel_rfl) (by kernel_rfl) rfl
 ·intro xs w hw hp K hK;simp only [hz] at hp;simp only [putAll];go_simp;exact hK _ (Grow.refl _)
 apply lex_eq [(3, true)] [(19, 0), (20, 1), (21, 2), (22, 3), (25, 6), (26, 7), (27, 8), (28, 9), (29, 10), (30, 11), (31, 12), (32, 13), (33, 14), (34, 15), (35, 16), (36, 17)] (by kernel_rfl) (by kernel_rfl) rfl
 ·intro xs w hw hp K hK;simp only [hz] at hp;simp only [putAll];go_simp;exact hK _ (Grow.refl _)
 apply lex_eq [(3, true), (4, true)] [(19, 0), (20, 1), (21, 2), (22, 3), (23, 4), (26, 7), (28, 9), (29, 10), (30, 11), (31, 12), (32, 13), (33, 14), (34, 15), (35, 16), (36, 17)] (by kernel_rfl) (by kernel_rfl) rfl
 ·intro xs w hw hp K hK;simp only [hz] at hp;simp only [putAll];go_simp;exact (isChild_any c w).mono fun e w' h => ⟨_, h.1.trans (by rw [HC.out]), hK _ (by rw [<- h.2]; exact Grow.refl _)⟩
 apply lex_eq [(3, true), (5, true)] [(19, 0), (20, 1), (21, 2), (22, 3), (23, 4), (24, 5), (27, 8), (28, 9), (29, 10), (30, 11), (31, 12), (32, 13), (33, 14), (34, 15), (35, 16), (36, 17)] (by kernel_rfl) (by kernel_rfl) rfl
 ·intro xs w hw hp K hK;simp only [hz] at hp;simp only [putAll];go_simp;exact hK _ (Grow.refl _)
 apply lex_eq [(3, true), (6, true)] [(19, 0), (20, 1), (21, 2), (22, 3), (23, 4), (24, 5), (25, 6), (28, 9), (29, 10), (30, 11), (31, 12), (32, 13), (33, 14), (34, 15), (35, 16), (36, 17)] (by kernel_rfl) (by kernel_rfl) rfl
 ·intro xs w hw hp K hK;simp only [hz] at hp;simp only [putAll];go_simp;exact hK _ (Grow.refl _)
 apply lex_eq [(7, true)] [(19, 0), (20, 1), (21, 2), (22, 3), (23, 4), (24, 5), (25, 6), (26, 7), (32, 13), (33, 14), (34, 15)] (by kernel_rfl) (by kernel_rfl) rfl
 ·intro xs w hw hp K hK;simp only [hz] at hp;simp only [putAll];go_simp;exact hK _ (Grow.refl _)
 apply lex_eq [(8, true)] [(19, 0), (20, 1), (21, 2), (22, 3), (23, 4), (24, 5), (25, 6), (26, 7), (27, 8), (29, 10), (31, 12), (32, 13), (33, 14), (34, 15), (35, 16), (36, 17)] (by kernel_rfl) (by kernel_rfl) rfl
 ·intro xs w hw hp K hK;simp only [hz] at hp;simp only [putAll];have h2 := enres (HN.out w hw);have c0 := h2.1;have c1 := h2.2.1;have c2 := h2.2.2.1;go_simp;exact hK _ (Grow.refl _)
 apply lex_eq [(8, true)] [(19, 0), (20, 1), (21, 2), (22, 3), (23, 4), (24, 5), (25, 6), (26, 7), (27, 8), (28, 9), (32, 13), (33, 14), (34, 15), (35, 16), (36, 17)] (by kernel_rfl) (by kernel_rfl) rfl
 ·intro xs w hw hp K hK;simp only [hz] at hp;simp only [putAll];go_simp;exact (least_any w).mono fun e w' h => ⟨_, h.1, hK _ h.2⟩
 apply lex_eq [(8, true), (9, true), (10, true)] [(19, 0), (20, 1), (21, 2), (22, 3), (23, 4), (24, 5), (25, 6), (26, 7), (27, 8), (28, 9), (29, 10), (32, 13), (33, 14), (34, 15), (35, 16), (36, 17)] (by kernel_rfl) (by kernel_rfl) rfl
 ·intro xs w hw hp K hK;simp only [hz] at hp;unfold enV at hp;simp only [putAll];go_simp;simp only [HQ.out, Bool.not_false];exact hK _ (Grow.refl _)
 apply lex_eq [(8, true), (11, true)] [(19, 0), (20, 1), (21, 2), (22, 3), (23, 4), (24, 5), (25, 6), (26, 7), (27, 8), (28, 9), (29, 10), (30, 11), (36, 17)] (by kernel_rfl) (by kernel_rfl) rfl
 ·intro xs w hw hp K hK;simp only [hz] at hp;simp only [putAll];go_simp;exact hK _ (Grow.refl _)
 apply lex_eq [(12, true)] [(19, 0), (20, 1), (21, 2), (22, 3), (23, 4), (24, 5), (25, 6), (26, 7), (27, 8), (28, 9), (29, 10), (30, 11), (31, 12), (34, 15), (35, 16), (36, 17)] (by kernel_rfl) (by kernel_rfl) rfl
 ·intro xs w hw hp K hK;simp only [hz] at hp;simp only [putAll];have h2 := enres (HN.out w hw);have c0 := h2.1;have c1 := h2.2.1;have c2 := h2.2.2.1;go_simp;exact hK _ (Grow.refl _)
 apply lex_eq [(12, true), (13, true)] [(19, 0), (20, 1), (21, 2), (22, 3), (23, 4), (24, 5), (25, 6), (26, 7), (27, 8), (28, 9), (29, 10), (30, 11), (31, 12), (32, 13), (35, 16), (36, 17)] (by kernel_rfl) (by kernel_rfl) rfl
 ·intro xs w hw hp K hK;simp only [hz] at hp;simp only [putAll];go_simp;exact (isEntry_any (k, p, s) w).mono fun e w' h => ⟨_, h.1.trans (by rw [HA.out]), hK _ h.2⟩
 apply lex_eq [(12, true), (14, true)] [(19, 0), (20, 1), (21, 2), (22, 3), (23, 4), (24, 5), (25, 6), (26, 7), (27, 8), (28, 9), (29, 10), (30, 11), (31, 12), (32, 13), (33, 14), (36, 17)] (by kernel_rfl) (by kernel_rfl) rfl
 ·intro xs w hw hp K hK;simp only [hz] at hp;simp only [putAll];go_simp;exact hK _ (Grow.refl _)
 apply lex_eq [(8, true), (12, true), (15, true)] [(19, 0), (20, 1), (21, 2), (22, 3), (23, 4), (24, 5), (25, 6), (26, 7), (27, 8), (28, 9), (29, 10), (30, 11), (31, 12), (32, 13), (33, 14), (34, 15)] (by kernel_rfl) (by kernel_rfl) rfl
 ·intro xs w hw hp K hK;simp only [hz] at hp;simp only [putAll];go_simp;exact hK _ (Grow.refl _)
 intro xs w hw hp;generalize hA : putAll xs _ _ = A;simp only [hz] at hp;have h8 := hp.2.2.2.2.2.2.2.2.1;have h16 := hp.2.2.2.2.2.2.2.2.2.2.2.2.2.2.2.2;clear hp;subst hA;simp only [putAll, h8, h16];have hgw : Grow w6 w := hw.undrew;have hR7 := hR6.fits hgw;have hN7 := HN0.out.fits hgw;have hg7 := Grow.trans hg6 hgw;have Hlt := keep hR7.lt;clear hw h8 h16 hgw hR6 hg6;obtain ⟨r0, r1, r2, f0, f1, f2⟩ := enres hR7;obtain ⟨c0, c1, c2, _⟩ := enres hN7;have Hset := keep (enset hR7 (.string (str k)) (.int .i64 p) (.int .i64 s));have Hbut := keep (enbut w w_.heap.size (.string (str k)) (.int .i64 p) (.int .i64 s));clear hR7 hN7;go_wp2_with fail;rw [HD2.out];refine bodyPost_ret (v := .tuple #[enV (k, p, s), .int .i64 c, .int .i64 0]) ?_ rfl ⟨rfl, But.below hg7 Hbut.out (Nat.le_refl _) (Nat.le_of_lt Hlt.out)⟩;obtain ⟨s0, s1, s2, _⟩ := enres Hset.out;simp [results, Tryz.results79, go_sem, s0, s1, s2, enV]
set_option maxRecDepth 100000 in
set_option maxHeartbeats 2000000 in
theorem unsep_5 (l : List UInt8) (w_ : World) (hs : (l.length : Int) <= 9223372036854775807)
  (hE0 : endE ((takeC l).2.1, (takeC l).2.2) = 0) (hCi : inB (takeC l).1 1 65535 = true) (hL : isL ((takeK l).1, (takeP l).1, (takeS l).1) = false) (hA : enOk ((takeK l).1, (takeP l).1, (takeS l).1) = false) :
  Calls Tryz.prog 79 #[.string (str l)] w_ fun x w' => x = .returned (.tuple #[enV (unsN l).1, .int .i64 (unsN l).2.1, .int .i64 (unsN l).2.2]) /\ Below w_.heap.size w_ w' := by
 obtain ⟨w0, hw0⟩ : ∃ w0, w0 = (w_.alloc (.cells #[.string ⟨#[]⟩, .int .i64 0, .int .i64 0] 102)) := ⟨_, rfl⟩;have hg0 : Grow w_ w0 := by subst hw0; exact (Grow.refl w_).alloc _
 have hR0 : Blk w0 w_.heap.size 102 [.string ⟨#[]⟩, .int .i64 0, .int .i64 0] := by subst hw0; exact Blk.new w_ _ [_, _, _]
 have hz0 : w_.heap.size < w0.heap.size := hR0.lt;have h1 := takeK_le l;have h2 := takeP_le l;have h3 := takeS_le l;have h4 := takeC_le l;have hd : unsN l = if decide (endE ((takeC l).2.1, (takeC l).2.2) = 0) && (inB (takeC l).1 1 65535 && (decide (((takeK l).1, (takeP l).1, (takeS l).1) = leastE) || enOk ((takeK l).1, (takeP l).1, (takeS l).1))) then (((takeK l).1, (takeP l).1, (takeS l).1), (takeC l).1, 0) else (leastE, 0, 140) := rfl
 have hK := fun u b (h : Rd u b (str l) 0) => rdText_ok b (str l) 24 u h (by unfold maxLen; simp; omega) (by decide)
 have hP := fun u b (h : Rd u b (str (takeK l).2.1) (takeK l).2.2) => rdNum_any b 65535 ((takeK l).2.1, (takeK l).2.2) u h (by dsimp only; omega) (by decide)
 have hS := fun u b (h : Rd u b (str (takeP l).2.1) (takeP l).2.2) => rdNum_any b 65535 ((takeP l).2.1, (takeP l).2.2) u h (by dsimp only; omega) (by decide)
 have hC := fun u b (h : Rd u b (str (takeS l).2.1) (takeS l).2.2) => rdNum_any b 65535 ((takeS l).2.1, (takeS l).2.2) u h (by dsimp only; omega) (by decide)
 have hE := fun u b (h : Rd u b (str (takeC l).2.1) (takeC l).2.2) => rdEnd b (str (takeC l).2.1) (takeC l).2.2 u h
 have hee : (if (takeC l).2.2 = 0 /\ 0 < (str (takeC l).2.1).size then (12 : Int) else (takeC l).2.2) = endE ((takeC l).2.1, (takeC l).2.2) := rfl;simp only [str_toList] at hK;rw [hee] at hE;change ∀ u b, Rd u b (str (takeK l).2.1) (takeK l).2.2 -> Calls _ _ _ _ (fun e w' => e = .returned (.int .i64 (takeP l).1) /\ Rd w' b (str (takeP l).2.1) (takeP l).2.2 /\ But b u w') at hP;change ∀ u b, Rd u b (str (takeP l).2.1) (takeP l).2.2 -> Calls _ _ _ _ (fun e w' => e = .returned (.int .i64 (takeS l).1) /\ Rd w' b (str (takeS l).2.1) (takeS l).2.2 /\ But b u w') at hS;change ∀ u b, Rd u b (str (takeS l).2.1) (takeS l).2.2 -> Calls _ _ _ _ (fun e w' => e = .returned (.int .i64 (takeC l).1) /\ Rd w' b (str (takeC l).2.1) (takeC l).2.2 /\ But b u w') at hC;change ∀ u b, Rd u b (str l) 0 -> Calls _ _ _ _ (fun e w' => e = .returned (.string (str (takeK l).1)) /\ Rd w' b (str (takeK l).2.1) (takeK l).2.2 /\ But b u w') at hK;clear hee h1 h2 h3 h4;generalize endE ((takeC l).2.1, (takeC l).2.2) = EE at *;generalize takeC l = C at *;generalize takeS l = S at *;generalize takeP l = P at *;generalize takeK l = K at *;obtain ⟨k, kr, ke⟩ := K;obtain ⟨p, pr, pe⟩ := P;obtain ⟨s, sr, se⟩ := S;obtain ⟨c, cr, ce⟩ := C;dsimp only at hd hK hP hS hC hE;have hd2 : unsN l = (leastE, 0, 140) := by rw [hd, hCi, hE0, hA, show decide ((k, p, s) = leastE) = false from hL]; rfl
 have HD2 := keep hd2;have HC := keep hCi;have HQ := keep hL;have HA := keep hA;clear hd hd2 hCi hL hA;have HK := keep hK;have HP := keep hP;have HS := keep hS;have HE := keep hE;have HCn := keep hC;clear hK hP hS hC hE;go_enter Tryz.func79, Tryz.ntmps79;go_upto_region 1 with fail;rw [<- hw0];clear hw0;go_wp2_with fail;refine (rdRead (str l) w0).mono ?_;rintro x w1 ⟨rfl, hw1⟩;have hg1 : Grow w0 w1 := by subst hw1; exact (Grow.refl _).alloc _
 have hD1 : Rd w1 w0.heap.size (str l) 0 := by subst hw1; exact Blk.new w0 _ [_, _]
 clear hw1;have hR1 := hR0.fits hg1;go_wp2_with fail;refine (HK.out w1 _ hD1).mono ?_;rintro x w2 ⟨rfl, hD2, hb2⟩;have hR2 := hR1.but hb2 (by omega);go_wp2_with fail;refine (HP.out w2 _ hD2).mono ?_;rintro x w3 ⟨rfl, hD3, hb3⟩;have hR3 := hR2.but hb3 (by omega);go_wp2_with fail;refine (HS.out w3 _ hD3).mono ?_;rintro x w4 ⟨rfl, hD4, hb4⟩;have hR4 := hR3.but hb4 (by omega);have hbt : But w0.heap.size w1 w4 := (hb2.trans hb3).trans hb4;have hg4 : Below w_.heap.size w_ w4 := But.below (Below.trans hg0 (hg1.mono (by omega))) hbt (by omega) (by have := hR1.lt; omega);clear hD1 hD2 hD3 hb2 hb3 hb4 hR1 hR2 hR3 hR0 hg0 hg1 hbt;go_upto_region 3 with fail;obtain ⟨w5, hw5⟩ : ∃ w5, w5 = w4.alloc (.cells #[.string (str k), .int .i64 p, .int .i64 s] 102) := ⟨_, rfl⟩;rw [<- hw5];have hg5 : Grow w4 w5 := by subst hw5; exact (Grow.refl _).alloc _
 have hN5 : Blk w5 w4.heap.size 102 [.string (str k), .int .i64 p, .int .i64 s] := by subst hw5; exact Blk.new w4 _ [_, _, _]
 have hD5 : Rd w5 w0.heap.size (str sr) se := Blk.fits hD4 hg5;have hR5 := hR4.fits hg5;have hlt4 := hD4.lt;have hgg : Grow w_ w5 := Below.trans hg4 (hg5.mono (by have := hR4.lt; omega));clear hw5 hg5 hR4 hg4;go_wp2_with fail;refine (HCn.out w5 _ hD5).mono ?_;rintro x w6 ⟨rfl, hD6, hb6⟩;have hR6 := hR5.but hb6 (by omega);have hN6 := hN5.but hb6 (by omega);have hg6 : Grow w_ w6 := But.below hgg hb6 (by omega) (by have := hR5.lt; omega);clear hD4 hD5 hb6 hR5 hN5 hgg;have HN0 := keep hN6;have HN := keep (fun (u : World) (hu : Grow w6.drew u) => Blk.fits (w := w6.drew) hN6 hu);have HEu := keep (fun (u : World) (hu : Grow w6.drew u) => HE.out u w0.heap.size (Blk.fits (w := w6.drew) hD6 hu));clear hN6 hD6;subst hE0;go_wp2_with fail;refine wp_region_grow (by kernel_rfl) 17 (by kernel_rfl) [(19, 0), (20, 1), (21, 2), (22, 3), (23, 4), (24, 5), (25, 6), (26, 7), (27, 8), (28, 9), (29, 10), (30, 11), (31, 12), (32, 13), (33, 14), (34, 15), (35, 16)] (by kernel_rfl) [(0, true), (1, true), (2, true), (3, true), (4, true), (5, true), (6, true), (7, true), (8, true), (9, true), (10, true), (11, true), (12, true), (13, true), (14, true), (15, true), (16, true)] (by kernel_rfl) rfl rfl ?_;apply lex_eq [] [(21, 2), (22, 3), (23, 4), (24, 5), (25, 6), (26, 7), (27, 8), (28, 9), (29, 10), (30, 11), (31, 12), (32, 13), (33, 14), (34, 15), (35, 16), (36, 17)] (by kernel_rfl) (by kernel_rfl) rfl
 ·intro xs w hw hp K hK;simp only [putAll];go_simp;exact hK _ (Grow.refl _)
 apply lex_eq [(0, true)] [(19, 0), (23, 4), (24, 5), (25, 6), (26, 7), (27, 8), (28, 9), (29, 10), (30, 11), (31, 12), (32, 13), (33, 14), (34, 15), (35, 16), (36, 17)] (by kernel_rfl) (by kernel_rfl) rfl
 ·intro xs w hw hp K hK;simp only [hz] at hp;simp only [putAll];go_simp;exact (HEu.out w hw).mono fun e w' h => ⟨_, h.1, hK _ (by rw [<- h.2]; exact Grow.refl _)⟩
 apply lex_eq [(1, true)] [(19, 0), (20, 1), (23, 4), (24, 5), (25, 6), (26, 7), (27, 8), (28, 9), (29, 10), (30, 11), (31, 12), (32, 13), (33, 14), (34, 15), (35, 16), (36, 17)] (by kernel_rfl) (by kernel_rfl) rfl
 ·intro xs w hw hp K hK;simp only [hz] at hp;simp only [putAll];go_simp;exact hK _ (Grow.refl _)
 apply lex_eq [(2, true)] [(19, 0), (20, 1), (21, 2), (27, 8), (28, 9), (29, 10), (30, 11), (31, 12), (32, 13), (33, 14), (34, 15), (35, 16), (36, 17)] (by kernel_rfl) (by kernel_rfl) rfl
 ·intro xs w hw hp K hK;simp only [hz] at hp;simp only [putAll];go_simp;exact hK _ (Grow.refl _)
 apply lex_eq [(3, true)] [(19, 0), (20, 1), (21, 2), (22, 3), (25, 6), (26, 7), (27, 8), (28, 9), (29, 10), (30, 11), (31, 12), (32, 13), (33, 14), (34, 15), (35, 16), (36, 17)] (by kernel_rfl) (by kernel_rfl) rfl
 ·intro xs w hw hp K hK;simp only [hz] at hp;simp only [putAll];go_simp;exact hK _ (Grow.refl _)
 apply lex_eq [(3, true), (4, true)] [(19, 0), (20, 1), (21, 2), (22, 3), (23, 4), (26, 7), (28, 9), (29, 10), (30, 11), (31, 12), (32, 13), (33, 14), (34, 15), (35, 16), (36, 17)] (by kernel_rfl) (by kernel_rfl) rfl
 ·intro xs w hw hp K hK;simp only [hz] at hp;simp only [putAll];go_simp;exact (isChild_any c w).mono fun e w' h => ⟨_, h.1.trans (by rw [HC.out]), hK _ (by rw [<- h.2]; exact Grow.refl _)⟩
 apply lex_eq [(3, true), (5, true)] [(19, 0), (20, 1), (21, 2), (22, 3), (23, 4), (24, 5), (27, 8), (28, 9), (29, 10), (30, 11), (31, 12), (32, 13), (33, 14), (34, 15), (35, 16), (36, 17)] (by kernel_rfl) (by kernel_rfl) rfl
 ·intro xs w hw hp K hK;simp only [hz] at hp;simp only [putAll];go_simp;exact hK _ (Grow.refl _)
 apply lex_eq [(3, true), (6, true)] [(19, 0), (20, 1), (21, 2), (22, 3), (23, 4), (24, 5), (25, 6), (28, 9), (29, 10), (30, 11), (31, 12), (32, 13), (33, 14), (34, 15), (35, 16), (36, 17)] (by kernel_rfl) (by kernel_rfl) rfl
 ·intro xs w hw hp K hK;simp only [hz] at hp;simp only [putAll];go_simp;exact hK _ (Grow.refl _)
 apply lex_eq [(7, true)] [(19, 0), (20, 1), (21, 2), (22, 3), (23, 4), (24, 5), (25, 6), (26, 7), (32, 13), (33, 14), (34, 15)] (by kernel_rfl) (by kernel_rfl) rfl
 ·intro xs w hw hp K hK;simp only [hz] at hp;simp only [putAll];go_simp;exact hK _ (Grow.refl _)
 apply lex_eq [(8, true)] [(19, 0), (20, 1), (21, 2), (22, 3), (23, 4), (24, 5), (25, 6), (26, 7), (27, 8), (29, 10), (31, 12), (32, 13), (33, 14), (34, 15), (35, 16), (36, 17)] (by kernel_rfl) (by kernel_rfl) rfl
 ·intro xs w hw hp K hK;simp only [hz] at hp;simp only [putAll];have h2 := enres (HN.out w hw);have c0 := h2.1;have c1 := h2.2.1;have c2 := h2.2.2.1;go_simp;exact hK _ (Grow.refl _)
 apply lex_eq [(8, true)] [(19, 0), (20, 1), (21, 2), (22, 3), (23, 4), (24, 5), (25, 6), (26, 7), (27, 8), (28, 9), (32, 13), (33, 14), (34, 15), (35, 16), (36, 17)] (by kernel_rfl) (by kernel_rfl) rfl
 ·intro xs w hw hp K hK;simp only [hz] at hp;simp only [putAll];go_simp;exact (least_any w).mono fun e w' h => ⟨_, h.1, hK _ h.2⟩
 apply lex_eq [(8, true), (9, true), (10, true)] [(19, 0), (20, 1), (21, 2), (22, 3), (23, 4), (24, 5), (25, 6), (26, 7), (27, 8), (28, 9), (29, 10), (32, 13), (33, 14), (34, 15), (35, 16), (36, 17)] (by kernel_rfl) (by kernel_rfl) rfl
 ·intro xs w hw hp K hK;simp only [hz] at hp;unfold enV at hp;simp only [putAll];go_simp;simp only [HQ.out, Bool.not_false];exact hK _ (Grow.refl _)
 apply lex_eq [(8, true), (11, true)] [(19, 0), (20, 1), (21, 2), (22, 3), (23, 4), (24, 5), (25, 6), (26, 7), (27, 8), (28, 9), (29, 10), (30, 11), (36, 17)] (by kernel_rfl) (by kernel_rfl) rfl
 ·intro xs w hw hp K hK;simp only [hz] at hp;simp only [putAll];go_simp;exact hK _ (Grow.refl _)
 apply lex_eq [(12, true)] [(19, 0), (20, 1), (21, 2), (22, 3), (23, 4), (24, 5), (25, 6), (26, 7), (27, 8), (28, 9), (29, 10), (30, 11), (31, 12), (34, 15), (35, 16), (36, 17)] (by kernel_rfl) (by kernel_rfl) rfl
 ·intro xs w hw hp K hK;simp only [hz] at hp;simp only [putAll];have h2 := enres (HN.out w hw);have c0 := h2.1;have c1 := h2.2.1;have c2 := h2.2.2.1;go_simp;exact hK _ (Grow.refl _)
 apply lex_eq [(12, true), (13, true)] [(19, 0), (20, 1), (21, 2), (22, 3), (23, 4), (24, 5), (25, 6), (26, 7), (27, 8), (28, 9), (29, 10), (30, 11), (31, 12), (32, 13), (35, 16), (36, 17)] (by kernel_rfl) (by kernel_rfl) rfl
 ·intro xs w hw hp K hK;simp only [hz] at hp;simp only [putAll];go_simp;exact (isEntry_any (k, p, s) w).mono fun e w' h => ⟨_, h.1.trans (by rw [HA.out]), hK _ h.2⟩
 apply lex_eq [(12, true), (14, true)] [(19, 0), (20, 1), (21, 2), (22, 3), (23, 4), (24, 5), (25, 6), (26, 7), (27, 8), (28, 9), (29, 10), (30, 11), (31, 12), (32, 13), (33, 14), (36, 17)] (by kernel_rfl) (by kernel_rfl) rfl
 ·intro xs w hw hp K hK;simp only [hz] at hp;simp only [putAll];go_simp;exact hK _ (Grow.refl _)
 apply lex_eq [(8, true), (12, true), (15, true)] [(19, 0), (20, 1), (21, 2), (22, 3), (23, 4), (24, 5), (25, 6), (26, 7), (27, 8), (28, 9), (29, 10), (30, 11), (31, 12), (32, 13), (33, 14), (34, 15)] (by kernel_rfl) (by kernel_rfl) rfl
 ·intro xs w hw hp K hK;simp only [hz] at hp;simp only [putAll];go_simp;exact hK _ (Grow.refl _)
 intro xs w hw hp;generalize hA : putAll xs _ _ = A;simp only [hz] at hp;have h8 := hp.2.2.2.2.2.2.2.2.1;have h16 := hp.2.2.2.2.2.2.2.2.2.2.2.2.2.2.2.2;clear hp;subst hA;simp only [putAll, h8, h16];have hgw : Grow w6 w := hw.undrew;have hR7 := hR6.fits hgw;have hN7 := HN0.out.fits hgw;have hg7 := Grow.trans hg6 hgw;have Hlt := keep hR7.lt;clear hw h8 h16 hgw hR6 hg6;obtain ⟨r0, r1, r2, f0, f1, f2⟩ := enres hR7;have Hset := keep (enset hR7 (.string ⟨#[]⟩) (.int .i64 0) (.int .i64 0));have Hbut := keep (enbut w w_.heap.size (.string ⟨#[]⟩) (.int .i64 0) (.int .i64 0));clear hR7 hN7;go_wp2_with fail;rw [HD2.out];refine bodyPost_ret (v := .tuple #[enV leastE, .int .i64 0, .int .i64 140]) ?_ rfl ⟨rfl, But.below hg7 Hbut.out (Nat.le_refl _) (Nat.le_of_lt Hlt.out)⟩;obtain ⟨s0, s1, s2, _⟩ := enres Hset.out;simp [results, Tryz.results79, go_sem, s0, s1, s2, enV, leastE]
 rfl
theorem unsep_any (l : List UInt8) (w_ : World) (hs : (l.length : Int) <= 9223372036854775807) :
  Calls Tryz.prog 79 #[.string (str l)] w_ fun x w' => x = .returned (.tuple #[enV (unsN l).1, .int .i64 (unsN l).2.1, .int .i64 (unsN l).2.2]) /\ Below w_.heap.size w_ w' := by
 by_cases hE : endE ((takeC l).2.1, (takeC l).2.2) = 0
 ·cases hC : inB (takeC l).1 1 65535 with
  | false => exact unsep_2 l w_ hs hE hC
  | true =>
   cases hL : isL ((takeK l).1, (takeP l).1, (takeS l).1) with
   | true => exact unsep_3 l w_ hs hE hC hL
   | false =>
    cases hA : enOk ((takeK l).1, (takeP l).1, (takeS l).1) with
    | true => exact unsep_4 l w_ hs hE hC hL hA
    | false => exact unsep_5 l w_ hs hE hC hL hA
 ·exact unsep_1 l w_ hs hE
end Go.Proofs.YtmhepfehcakmjaaGreat
