import Derived.Test.YtcdapdcablnhpaaGreatKLexn
import Derived.Test.YtcdapdcablnhpaaGreatKRf2
namespace Go.Proofs.YtcdapdcablnhpaaGreat
open Go.RowKit
attribute [local go_sem] givesV lookV knAt hgs
def Rr (w : World) (b : Nat) (l : List UInt8) (x : List UInt8 × Int) : Prop := ∃ a : Nat, a <= l.length /\ Rf w b l a x.2 /\ (x.2 = 0 -> l.drop a = x.1)
theorem rrnum_bad (b : Nat) (l : List UInt8) (a : Nat) (er most : Int) (w : World) (h : Rf w b l a er) (he : er ≠ 0) : Calls Tryz.prog 208 #[.pointer (some ⟨b, 0, none⟩), .int .i64 most] w fun e w' =>
  e = .returned (.int .i64 0) /\ w = w' := by
 obtain ⟨c0, c1, c2, f0, f1, f2⟩ := enres h;have he' : (er != 0) = true := by simpa using he
 go_enter Tryz.func208, Tryz.ntmps208;go_wp2_with fail;go_ret;exact ⟨rfl, rfl⟩
theorem rwrong_drewN {b : Nat} {l : List UInt8} {a er : Int} (n : Int) {w : World} (h : Rf w b l a er) (m : Nat) : Calls Tryz.prog 211 #[.pointer (some ⟨b, 0, none⟩), .int .i64 n] (w.drewN m) fun e w' =>
  e = .returned (.int .i64 0) /\ Rf w' b l a n /\ But b w w' :=
 (rwrong_any b l a er n (w.drewN m) h).mono fun _ _ hx => ⟨hx.1, hx.2.1, (But.drewN (But.refl b w)).trans hx.2.2⟩
theorem numGo_at (most : Int) (l : List UInt8) (i j n : Nat) (hj : j < 9) (hi : i < l.length) : numGo most (9 - j) j n (l.drop i) =
  if l[i].toNat = 0 /\ 0 < j then (0, [], 11)
  else if 128 <= l[i].toNat then numGo most (9 - (j + 1)) (j + 1) ((n + l[i].toNat % 128 * 2 ^ (7 * j) : Nat) : Int) (l.drop (i + 1))
  else if most < ((n + l[i].toNat % 128 * 2 ^ (7 * j) : Nat) : Int) then (0, [], 11)
  else (((n + l[i].toNat % 128 * 2 ^ (7 * j) : Nat) : Int), l.drop (i + 1), 0) := by
 rw [List.drop_eq_getElem_cons hi, show 9 - j = (9 - (j + 1)) + 1 from by omega, numGo];simp only [Int.natCast_add]
set_option maxRecDepth 100000 in
set_option maxHeartbeats 4000000 in
theorem rrnum_ok (b : Nat) (l : List UInt8) (a : Nat) (most : Int) (w_ : World) (h : Rf w_ b l a 0) (hs : (l.length : Int) <= 4611686018427387904) (ha : a <= l.length) (hm : 0 <= most) : Calls Tryz.prog 208 #[.pointer (some ⟨b, 0, none⟩), .int .i64 most] w_ fun x w' =>
  x = .returned (.int .i64 (rdNumS most (l.drop a)).1) /\ Rr w' b l (rdNumS most (l.drop a)).2 /\ But b w_ w' := by
 obtain ⟨c0, c1, c2, f0, f1, f2⟩ := enres h;have HR := keep h;clear h;go_enter Tryz.func208, Tryz.ntmps208;go_wp2_with fail;clear c0 c1 c2 f0 f1 f2;go_loopw [5, 6, 7] (fun x y z wr => ∃ j n U : Nat, j <= 8 /\ a + j <= l.length /\ Kept (U = 2 ^ (7 * j)) /\ n < U /\ x = .int .i64 n /\ y = .int .i64 U /\ z = .int .i64 ((j : Int) + 1) /\ Kept (numGo most (9 - j) j n (l.drop (a + j)) = rdNumS most (l.drop a)) /\ Kept (Rf wr b l a 0) /\ Kept (But b w_ wr)) (fun _ _ z _ => 10 - (intOf z).toNat)
 case atStart => exact ⟨0, 0, 1, by omega, by omega, keep (by simp), by omega, rfl, rfl, rfl, keep (by simp [rdNumS]), HR, keep (But.refl _ _)⟩
 case round =>
  obtain ⟨j, n, U, hj, haj, HU, hn, rfl, rfl, rfl, HN, HRf, HBt⟩ := hrel;obtain ⟨c0, c1, c2, f0, f1, f2⟩ := enres HRf.out;have hUle : U <= 72057594037927936 := by rw [HU.out]; exact seven_pow_le j hj
  go_upto_region 7 with fail
  by_cases hlt : a + j < l.length
  ·have hlt2 : ¬ (l.length : Int) < (a : Int) + ((j : Int) + 1) := by omega
   go_quiet (fail);go_upto_region 9 with fail;generalize hwq : wr.drewN _ = wq at *;have hRq : Rf wq b l a 0 := by subst hwq; exact HRf.out
   have HGq := keep (show Grow wr wq by subst hwq; exact below_drewN (Grow.refl _) _);obtain ⟨i, hi⟩ : ∃ i, i = a + j := ⟨_, rfl⟩;have hil : i < l.length := by omega
   have hst := numGo_at most l i j n (by omega) hil;have hN2 : numGo most (9 - j) j n (l.drop i) = rdNumS most (l.drop a) := by rw [hi]; exact HN.out
   rw [hN2] at hst;obtain ⟨c, hcc⟩ : ∃ c, c = (l[i]'hil).toNat := ⟨_, rfl⟩;rw [<- hcc] at hst;have hc : c < 256 := by rw [hcc]; exact (l[i]'hil).toNat_lt
   have HSt := keep hst;have HC := keep hcc;clear hst hN2 hcc;have Hi := keep hi;have HRq := keep hRq;have HQ := keep (fun (u : World) (hu : Grow wq.drew u) => enres (Blk.fits hRq (Grow.undrew hu)));clear hwq hRq c0 c1 c2 f0 f1 f2 hi;refine rgv 13 (by kernel_rfl) (by kernel_rfl) rfl rfl ?_;intro a0 ha0;have hsz : a0.tmps.size = 85 := (size_at ha0).trans rfl;have s0 := slot_at ha0 0 rfl;have s7 := slot_at ha0 7 rfl;have HA0 := keep ha0;clear ha0
   iterate 2
    apply lxv hsz Grow.refl (by kernel_rfl) rfl
    ·intro xs w hw K hK;go_simp;exact hK
   apply lxv hsz Grow.refl (by kernel_rfl) rfl
   ·intro xs w hw K hK;obtain ⟨c0, c1, c2, _⟩ := HQ.out w hw;go_simp;exact hK
   apply lxv hsz Grow.refl (by kernel_rfl) rfl
   ·intro xs w hw K hK;obtain ⟨c0, c1, c2, _⟩ := HQ.out w hw;go_simp;exact hK
   iterate 2
    apply lxv hsz Grow.refl (by kernel_rfl) rfl
    ·intro xs w hw K hK;go_simp;exact hK
   apply lxv hsz Grow.refl (by kernel_rfl) rfl
   ·intro xs w hw K hK;obtain ⟨c0, c1, c2, _⟩ := HQ.out w hw;go_simp;exact hK
   apply lxv hsz Grow.refl (by kernel_rfl) rfl
   ·intro xs w hw K hK;obtain ⟨c0, c1, c2, _⟩ := HQ.out w hw;go_simp;exact hK
   apply lxv hsz Grow.refl (by kernel_rfl) rfl
   ·intro xs w hw K hK;go_simp;exact hK
   apply lxv hsz Grow.refl (by kernel_rfl) rfl
   ·intro xs w hw K hK;have hi9 := Hi.out;have q2 : IntKind.i64.wrap ((a : Int) + ((j : Int) + 1)) = (a : Int) + ((j : Int) + 1) := wraps_i64 _ (by omega) (by omega);clear hi9;go_simp;exact hK
   apply lxv hsz Grow.refl (by kernel_rfl) rfl
   ·intro xs w hw K hK;have q1 : IntKind.i64.wrap ((a : Int) + ((j : Int) + 1) - 1) = (i : Int) := by
     have hi9 := Hi.out;rw [show (a : Int) + ((j : Int) + 1) - 1 = (i : Int) by omega];exact wraps_i64 _ (by omega) (by omega)
    go_simp;exact hK
   apply lxe hsz [] (by kernel_rfl) rfl
   ·intro xs w hw hp K hK;have q3 : (i : Int) < (l.length : Int) := by omega
    have q4 : i < l.length := hil;go_simp;rw [show ∀ h, ((str l)[i]'h).toNat = c from fun _ => HC.out.symm];exact hK _ (Grow.refl _)
   apply lxv hsz Grow.refl (by kernel_rfl) rfl
   ·intro xs w hw K hK;have q5 : IntKind.i64.wrap (c : Int) = (c : Int) := wraps_i64 _ (by omega) (by omega);go_simp;exact hK
   refine rgd [] (by kernel_rfl) rfl ?_;intro xs w hw hp;have ha0 := HA0.out;clear HA0 hsz s0 s7;clear hp;subst ha0;simp only [putV];have HG := keep (Grow.trans HGq.out (Grow.undrew hw));have HRw := keep (Blk.fits HRq.out (Grow.undrew hw));clear hw HQ HGq HC HRq HN;obtain ⟨c0, c1, c2, f0, f1, f2⟩ := enres HRw.out;have hmU : c % 128 * U <= 127 * 72057594037927936 := Nat.mul_le_mul (by omega) hUle;have hmi : (((c % 128 * U : Nat)) : Int) = (c : Int) % 128 * (U : Int) := by simp
   have hmi0 : 0 <= (c : Int) % 128 * (U : Int) := by rw [<- hmi]; omega
   have hmi1 : (c : Int) % 128 * (U : Int) <= 9151314442816847872 := by rw [<- hmi]; omega
   have hw1 : IntKind.i64.wrap ((c : Int) % 128 * (U : Int)) = (c : Int) % 128 * (U : Int) := wraps_i64 _ hmi0 (by omega);have hw2 : IntKind.i64.wrap ((n : Int) + (c : Int) % 128 * (U : Int)) = (n : Int) + (c : Int) % 128 * (U : Int) := wraps_i64 _ (by omega) (by omega);have hmax : max most 0 = most := by omega
   have Hmi := keep hmi;have HmU := keep hmU;clear hmi hmi0 hmi1 hmU
   by_cases h8 : j = 8
   ·subst h8
    by_cases hb : 128 <= c
    ·have hb' : (128 : Int) <= (c : Int) := by omega
     go_wp2_with fail;refine (rwrong_any b l a 0 11 _ HRw.out).mono ?_;rintro x w' ⟨rfl, hr, hb9⟩;go_wp2_with fail;go_ret;have hE : rdNumS most (l.drop a) = (0, [], 11) := by
      rw [HSt.out];rw [if_neg (by omega), if_pos hb]; rfl
     rw [hE];exact ⟨rfl, ⟨a, ha, hr, fun h => by cases h⟩, HBt.out.trans ((But.of_below HG.out).trans hb9)⟩
    ·by_cases hz : c = 0
     ·subst hz;go_wp2_with fail;refine (rwrong_any b l a 0 11 _ HRw.out).mono ?_;rintro x w' ⟨rfl, hr, hb9⟩;go_wp2_with fail;go_ret;have hE : rdNumS most (l.drop a) = (0, [], 11) := by
       rw [HSt.out];rw [if_pos ⟨by simp, by omega⟩]
      rw [hE];exact ⟨rfl, ⟨a, ha, hr, fun h => by cases h⟩, HBt.out.trans ((But.of_below HG.out).trans hb9)⟩
     ·have hb' : ¬ (128 : Int) <= (c : Int) := by omega
      have hz' : ¬ (c : Int) = 0 := by omega
      obtain ⟨j, rfl⟩ : ∃ j, j = 8 := ⟨_, rfl⟩;have hcast : (((a + (8 + 1) : Nat)) : Int) = (a : Int) + (((8 : Nat) : Int) + 1) := by omega
      have Hcast := keep hcast;clear hcast;have hw5 : IntKind.i64.wrap ((a : Int) + (((8 : Nat) : Int) + 1)) = (a : Int) + (((8 : Nat) : Int) + 1) := wraps_i64 _ (by omega) (by omega)
      by_cases hgt : most < (n : Int) + (c : Int) % 128 * (U : Int)
      ·go_wp2_with fail;refine (rwrong_any b l _ 0 11 _ (Blk.set HRw.out 1 (.int .i64 ((a : Int) + (((8 : Nat) : Int) + 1))))).mono ?_;rintro x w' ⟨rfl, hr, hb9⟩;go_wp2_with fail;go_ret;have hE : rdNumS most (l.drop a) = (0, [], 11) := by
        rw [HSt.out, if_neg (by omega), if_neg (by omega), <- HU.out, if_pos (by rw [Int.natCast_add, Hmi.out]; exact hgt)]
       rw [hE];rw [<- Hcast.out] at hr;exact ⟨rfl, ⟨a + (8 + 1), by omega, hr, fun h => by cases h⟩, HBt.out.trans ((But.of_below HG.out).trans (((But.refl b w).setCell 1 _).trans hb9))⟩
      ·go_wp2_with fail;go_ret;have hE : rdNumS most (l.drop a) = ((n : Int) + (c : Int) % 128 * (U : Int), l.drop (a + (8 + 1)), 0) := by
        rw [HSt.out, if_neg (by omega), if_neg (by omega), <- HU.out, if_neg (by rw [Int.natCast_add, Hmi.out]; exact Int.not_lt.2 hgt), Int.natCast_add, Hmi.out, Hi.out]
       rw [hE];refine ⟨rfl, ⟨a + (8 + 1), by omega, ?_, fun _ => rfl⟩, HBt.out.trans ((But.of_below HG.out).trans ((But.refl b w).setCell 1 _))⟩;have hr := Blk.set HRw.out 1 (.int .i64 ((a : Int) + (((8 : Nat) : Int) + 1)));unfold Rf;rw [Hcast.out];exact hr
   ·have h8' : ¬ (j : Int) + 1 = 9 := by omega
    by_cases hb : 128 <= c
    ·have hb' : (128 : Int) <= (c : Int) := by omega
     have hz' : ¬ (c : Int) = 0 := by omega
     have hw3 : IntKind.i64.wrap (128 * (U : Int)) = 128 * (U : Int) := wraps_i64 _ (by omega) (by
      have : U <= 562949953421312 := by
       rw [HU.out];exact Nat.pow_le_pow_right (by omega) (show 7 * j <= 49 by omega)
      omega)
     have hw4 : IntKind.i64.wrap ((j : Int) + 1 + 1) = (j : Int) + 1 + 1 := wraps_i64 _ (by omega) (by omega);go_wp2_with fail;have hcU : c % 128 * U <= 127 * U := Nat.mul_le_mul_right U (by omega);refine ⟨⟨j + 1, n + c % 128 * U, 128 * U, by omega, by omega, keep (by rw [HU.out, Nat.mul_add 7 j 1, Nat.pow_add, Nat.mul_comm]), by omega, by simp, by simp, by simp, keep ?_, HRw, keep (HBt.out.trans (But.of_below HG.out))⟩, by simp [intOf]; omega⟩;rw [HSt.out, if_neg (by omega), if_pos hb, <- HU.out, Hi.out]
     rfl
    ·by_cases hz : c = 0
     ·subst hz
      by_cases hj0 : j = 0
      ·subst hj0;have hb' : ¬ (128 : Int) <= ((0 : Nat) : Int) := by omega
       have hcast : (((a + (0 + 1) : Nat)) : Int) = (a : Int) + (((0 : Nat) : Int) + 1) := by omega
       have Hcast := keep hcast;clear hcast;have hw5 : IntKind.i64.wrap ((a : Int) + (((0 : Nat) : Int) + 1)) = (a : Int) + (((0 : Nat) : Int) + 1) := wraps_i64 _ (by omega) (by omega)
       by_cases hgt : most < (n : Int) + ((0 : Nat) : Int) % 128 * (U : Int)
       ·go_wp2_with fail;refine (rwrong_any b l _ 0 11 _ (Blk.set HRw.out 1 (.int .i64 ((a : Int) + (((0 : Nat) : Int) + 1))))).mono ?_;rintro x w' ⟨rfl, hr, hb9⟩;go_wp2_with fail;go_ret;have hE : rdNumS most (l.drop a) = (0, [], 11) := by
         rw [HSt.out, if_neg (by omega), if_neg (by omega), <- HU.out, if_pos (by rw [Int.natCast_add, Hmi.out]; exact hgt)]
        rw [hE];rw [<- Hcast.out] at hr;exact ⟨rfl, ⟨a + (0 + 1), by omega, hr, fun h => by cases h⟩, HBt.out.trans ((But.of_below HG.out).trans (((But.refl b w).setCell 1 _).trans hb9))⟩
       ·go_wp2_with fail;go_ret;have hE : rdNumS most (l.drop a) = ((n : Int) + ((0 : Nat) : Int) % 128 * (U : Int), l.drop (a + (0 + 1)), 0) := by
         rw [HSt.out, if_neg (by omega), if_neg (by omega), <- HU.out, if_neg (by rw [Int.natCast_add, Hmi.out]; exact Int.not_lt.2 hgt), Int.natCast_add, Hmi.out, Hi.out]
        have e0 : (n : Int) + ((0 : Nat) : Int) % 128 * (U : Int) = n := by simp
        rw [e0] at hE;rw [hE];refine ⟨rfl, ⟨a + (0 + 1), by omega, ?_, fun _ => rfl⟩, HBt.out.trans ((But.of_below HG.out).trans ((But.refl b w).setCell 1 _))⟩;have hr := Blk.set HRw.out 1 (.int .i64 ((a : Int) + (((0 : Nat) : Int) + 1)));unfold Rf;rw [Hcast.out];exact hr
      ·have hj' : (1 : Int) < (j : Int) + 1 := by omega
       have hj2 : 0 < j := by omega
       go_wp2_with fail;refine (rwrong_any b l a 0 11 _ HRw.out).mono ?_;rintro x w' ⟨rfl, hr, hb9⟩;go_wp2_with fail;go_ret;have hE : rdNumS most (l.drop a) = (0, [], 11) := by
        rw [HSt.out];rw [if_pos ⟨by simp, hj2⟩]
       rw [hE];exact ⟨rfl, ⟨a, ha, hr, fun h => by cases h⟩, HBt.out.trans ((But.of_below HG.out).trans hb9)⟩
     ·have hb' : ¬ (128 : Int) <= (c : Int) := by omega
      have hz' : ¬ (c : Int) = 0 := by omega
      have hcast : (((a + (j + 1) : Nat)) : Int) = (a : Int) + ((j : Int) + 1) := by omega
      have Hcast := keep hcast;clear hcast;have hw5 : IntKind.i64.wrap ((a : Int) + ((j : Int) + 1)) = (a : Int) + ((j : Int) + 1) := wraps_i64 _ (by omega) (by omega)
      by_cases hgt : most < (n : Int) + (c : Int) % 128 * (U : Int)
      ·go_wp2_with fail;refine (rwrong_any b l _ 0 11 _ (Blk.set HRw.out 1 (.int .i64 ((a : Int) + ((j : Int) + 1))))).mono ?_;rintro x w' ⟨rfl, hr, hb9⟩;go_wp2_with fail;go_ret;have hE : rdNumS most (l.drop a) = (0, [], 11) := by
        rw [HSt.out, if_neg (by omega), if_neg (by omega), <- HU.out, if_pos (by rw [Int.natCast_add, Hmi.out]; exact hgt)]
       rw [hE];rw [<- Hcast.out] at hr;exact ⟨rfl, ⟨a + (j + 1), by omega, hr, fun h => by cases h⟩, HBt.out.trans ((But.of_below HG.out).trans (((But.refl b w).setCell 1 _).trans hb9))⟩
      ·go_wp2_with fail;go_ret;have hE : rdNumS most (l.drop a) = ((n : Int) + (c : Int) % 128 * (U : Int), l.drop (a + (j + 1)), 0) := by
        rw [HSt.out, if_neg (by omega), if_neg (by omega), <- HU.out, if_neg (by rw [Int.natCast_add, Hmi.out]; exact Int.not_lt.2 hgt), Int.natCast_add, Hmi.out, Hi.out]
        rfl
       rw [hE];refine ⟨rfl, ⟨a + (j + 1), by omega, ?_, fun _ => rfl⟩, HBt.out.trans ((But.of_below HG.out).trans ((But.refl b w).setCell 1 _))⟩;have hr := Blk.set HRw.out 1 (.int .i64 ((a : Int) + ((j : Int) + 1)));unfold Rf;rw [Hcast.out];exact hr
  ·have hlt2 : (l.length : Int) < (a : Int) + ((j : Int) + 1) := by omega
   have hE : rdNumS most (l.drop a) = (0, [], 10) := by
    rw [<- HN.out, List.drop_eq_nil_of_le (by omega), show 9 - j = (8 - j) + 1 from by omega]
    rfl
   have HE := keep hE;clear hE;go_quiet (fail);go_wp2_with fail;refine (rwrong_drewN 10 HRf.out _).mono ?_;rintro x w' ⟨rfl, hr, hb⟩;go_wp2_with fail;go_ret;rw [HE.out];exact ⟨rfl, ⟨a, ha, hr, by intro h; cases h⟩, HBt.out.trans hb⟩
theorem rrnum_any (b : Nat) (l : List UInt8) (most : Int) (x : List UInt8 × Int) (w : World) (h : Rr w b l x) (hs : (l.length : Int) <= 4611686018427387904) (hm : 0 <= most) :
  Calls Tryz.prog 208 #[.pointer (some ⟨b, 0, none⟩), .int .i64 most] w fun e w' =>
  e = .returned (.int .i64 (rdNum2 most x).1) /\ Rr w' b l (rdNum2 most x).2 /\ But b w w' := by
 obtain ⟨y, er⟩ := x;obtain ⟨a, ha, hr, hd⟩ := h;dsimp only at hr hd;unfold rdNum2;dsimp only
 by_cases he : er = 0
 ·subst he;rw [if_pos rfl, <- hd rfl];exact rrnum_ok b l a most w hr hs ha hm
 ·rw [if_neg he];refine (rrnum_bad b l a er most w hr he).mono ?_;rintro x w' ⟨rfl, rfl⟩;exact ⟨rfl, ⟨a, ha, hr, hd⟩, But.refl _ _⟩
theorem rrend_any (b : Nat) (l : List UInt8) (x : List UInt8 × Int) (w : World) (h : Rr w b l x) : Calls Tryz.prog 168 #[.pointer (some ⟨b, 0, none⟩)] w fun e w' =>
  e = .returned (.int .i64 (endE x)) /\ Grow w w' := by
 obtain ⟨y, er⟩ := x;obtain ⟨a, ha, hr, hd⟩ := h;dsimp only at hr hd;have he : endE (y, er) = rendE l a er := by
  unfold endE rendE;dsimp only
  by_cases h0 : er = 0
  ·have h1 := hd h0;have h2 : y.length = l.length - a := by rw [<- h1, List.length_drop]
   have h3 : (0 < y.length) ↔ ((a : Int) < (l.length : Int)) := by omega
   simp only [h0, true_and, h3]
  ·simp [h0]
 rw [he];exact rend_any b l a er w hr
end Go.Proofs.YtcdapdcablnhpaaGreat
