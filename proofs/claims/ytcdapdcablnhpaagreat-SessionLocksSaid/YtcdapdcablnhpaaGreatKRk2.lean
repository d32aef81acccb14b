import Derived.Test.YtcdapdcablnhpaaGreatKSp2
import Derived.Test.YtcdapdcablnhpaaGreatKRf2
import Derived.BigQuiet
namespace Go.Proofs.YtcdapdcablnhpaaGreat
open Go.RowKit
def ChkPost (P : Pg) (w : World) (x : Ending) (w' : World) : Prop := x = .returned (.int .i64 (if openOk P then 0 else 140)) /\ Below w.heap.size w w'
theorem chk_no {P : Pg} {w w' : World} {x : Ending} (h : openOk P = false) (hx : x = .returned (.int .i64 140)) (hb : Below w.heap.size w w') : ChkPost P w x w' := ⟨by rw [hx, h]; rfl, hb⟩
theorem chk_yes {P : Pg} {w w' : World} {x : Ending} (h : openOk P = true) (hx : x = .returned (.int .i64 0)) (hb : Below w.heap.size w w') : ChkPost P w x w' := ⟨by rw [hx, h]; rfl, hb⟩
def kidsOk (P : Pg) : Bool := openOk P && !decide (P.level = 0)
theorem rowS_form {w : World} {t n1 c1 n : Nat} {a1 : Option Addr} {cs : List Value} (h : RowS w t (.slice a1 n1 c1) n cs) : n1 = n := by
 rcases h with ⟨h0, _, a, cap, h⟩ | ⟨c, off, cap, blk, f, h, _⟩
 ·simp only [Value.slice.injEq] at h; omega
 ·simp only [Value.slice.injEq] at h; exact h.2.1
set_option maxRecDepth 100000 in
set_option maxHeartbeats 4000000 in
theorem check_node (P : Pg) (iv : Value) (w_ : World) (hin : PgIn w_ iv P) :
  Calls Tryz.prog 93 #[pgV P iv] w_ (ChkPost P w_) := by
 obtain ⟨w0, hw0⟩ : ∃ w0, w0 = (w_.alloc (.cells (pgCells P iv).toArray 28)) := ⟨_, rfl⟩;have hg0 : Grow w_ w0 := by subst hw0; exact (Grow.refl w_).alloc _
 have hP0 : Blk w0 w_.heap.size 28 (pgCells P iv) := by
  have := Blk.new w_ 28 (pgCells P iv);subst hw0; exact this
 have hop := opened_pg (hin.fits hg0);obtain ⟨ia, ic, rfl⟩ := items_form hin.1;have HOp := keep hop;have HIn := keep hin;have HP0 := keep hP0;clear hop hin;unfold pgCells at hw0 hP0;obtain ⟨p0, p1, p2, p3, p4, p5, _⟩ := pgres hP0;unfold pgV;go_enter Tryz.func93, Tryz.ntmps93;go_upto_region 1 with fail;rw [<- hw0];clear hw0;go_wp2_with fail;refine HOp.out.mono ?_;rintro x w1 ⟨a1, n1, c1, a2, n2, c2, hi, bd, ok, rfl, hok, hyes, hb1⟩;clear p0 p1 p2 p3 p4 p5 hP0;obtain ⟨w2, hw2⟩ : ∃ w2, w2 = w1.alloc (.cells #[.slice a1 n1 c1, .slice a2 n2 c2, .string (str hi.1), .int .i64 hi.2.1, .int .i64 hi.2.2, .bool bd] 151) := ⟨_, rfl⟩;have hg2 : Grow w0 w2 := by subst hw2; exact Grow.alloc hb1 _
 have hO2 : Blk w2 w1.heap.size 151 [.slice a1 n1 c1, .slice a2 n2 c2, .string (str hi.1), .int .i64 hi.2.1, .int .i64 hi.2.2, .bool bd] := by subst hw2; exact Blk.new w1 _ [_, _, _, _, _, _]
 have hyes2 : ok = true -> EnsS w2 (.slice a1 n1 c1) (ensN P) /\ IntsS w2 (.slice a2 n2 c2) (kidsN P) /\ hi = hiN P /\ bd = bdN P := fun h => ⟨by subst hw2; exact RowS.fits (hyes h).1 ((Grow.refl _).alloc _), by subst hw2; exact RowS.fits (hyes h).2.1 ((Grow.refl _).alloc _), (hyes h).2.2⟩
 have HYes := keep hyes2;have HOk := keep hok;have HO2 := keep hO2;have HG2 := keep hg2;have HGW := keep (Grow.trans hg0 hg2);clear hyes hyes2 hok hb1 hO2 hg2;go_upto_region 2 with fail;rw [<- hw2];clear hw2;have hP2 := HP0.out.fits HG2.out;unfold pgCells at hP2;obtain ⟨p0, p1, p2, p3, p4, p5, _⟩ := pgres hP2;obtain ⟨o0, o1, o2, o3, o4, o5, _⟩ := pgres HO2.out;cases ok with
 | false =>
  go_wp2_with fail;go_ret;exact chk_no HOk.out.symm rfl HGW.out
 | true =>
  go_wp2_with fail;go_ret;exact chk_yes HOk.out.symm rfl HGW.out
theorem opened_pgc {w : World} {iv : Value} {P : Pg} (h : PgIn w iv P) : Calls Tryz.prog 80 #[pgV P iv] w (OpenCap P w) := opened_cap P iv w h.1 h.2.1 h.2.2.1 h.2.2.2.1 h.2.2.2.2
def KidsCap (P : Pg) (w : World) (x : Ending) (w' : World) : Prop :=
 (if kidsOk P then ∃ a c a2 c2, x = .returned (.tuple #[.slice a (ensN P).length c, .slice a2 (kidsN P).length c2, .int .i64 0]) /\ (ensN P).length <= c /\ EnsS w' (.slice a (ensN P).length c) (ensN P) /\ IntsS w' (.slice a2 (kidsN P).length c2) (kidsN P)
  else x = .returned (.tuple #[.slice none 0 0, .slice none 0 0, .int .i64 140])) /\ Below w.heap.size w w'
set_option maxRecDepth 100000 in
set_option maxHeartbeats 4000000 in
theorem kids_cap (P : Pg) (iv : Value) (w_ : World) (hin : PgIn w_ iv P) :
  Calls Tryz.prog 146 #[pgV P iv] w_ (KidsCap P w_) := by
 have hd : kidsOk P = (openOk P && !decide (P.level = 0)) := rfl;have HD := keep hd;clear hd;obtain ⟨w0, hw0⟩ : ∃ w0, w0 = (w_.alloc (.cells (pgCells P iv).toArray 28)) := ⟨_, rfl⟩;have hg0 : Grow w_ w0 := by subst hw0; exact (Grow.refl w_).alloc _
 have hP0 : Blk w0 w_.heap.size 28 (pgCells P iv) := by
  have := Blk.new w_ 28 (pgCells P iv);subst hw0; exact this
 have hop := opened_pgc (hin.fits hg0);obtain ⟨ia, ic, rfl⟩ := items_form hin.1;have HOp := keep hop;have HIn := keep hin;have HP0 := keep hP0;clear hop hin;unfold pgCells at hw0 hP0;obtain ⟨p0, p1, p2, p3, p4, p5, _⟩ := pgres hP0;unfold pgV;go_enter Tryz.func146, Tryz.ntmps146;go_upto_region 1 with fail;rw [<- hw0];clear hw0;go_wp2_with fail;refine HOp.out.mono ?_;rintro x w1 ⟨a1, n1, c1, a2, n2, c2, hi, bd, ok, rfl, hok, hyes, hb1⟩;clear p0 p1 p2 p3 p4 p5 hP0;obtain ⟨w2, hw2⟩ : ∃ w2, w2 = w1.alloc (.cells #[.slice a1 n1 c1, .slice a2 n2 c2, .string (str hi.1), .int .i64 hi.2.1, .int .i64 hi.2.2, .bool bd] 151) := ⟨_, rfl⟩;have hg2 : Grow w0 w2 := by subst hw2; exact Grow.alloc hb1 _
 have hO2 : Blk w2 w1.heap.size 151 [.slice a1 n1 c1, .slice a2 n2 c2, .string (str hi.1), .int .i64 hi.2.1, .int .i64 hi.2.2, .bool bd] := by subst hw2; exact Blk.new w1 _ [_, _, _, _, _, _]
 have hyes2 : ok = true -> EnsS w2 (.slice a1 n1 c1) (ensN P) /\ IntsS w2 (.slice a2 n2 c2) (kidsN P) /\ hi = hiN P /\ bd = bdN P /\ n1 <= c1 := fun h => ⟨by subst hw2; exact RowS.fits (hyes h).1 ((Grow.refl _).alloc _), by subst hw2; exact RowS.fits (hyes h).2.1 ((Grow.refl _).alloc _), (hyes h).2.2⟩
 have HYes := keep hyes2;have HOk := keep hok;have HO2 := keep hO2;have HG2 := keep hg2;have HGW := keep (Grow.trans hg0 hg2);clear hyes hyes2 hok hb1 hO2 hg2;go_upto_region 2 with fail;rw [<- hw2];clear hw2;have hP2 := HP0.out.fits HG2.out;unfold pgCells at hP2;obtain ⟨p0, p1, p2, p3, p4, p5, _⟩ := pgres hP2;obtain ⟨o0, o1, o2, o3, o4, o5, _⟩ := pgres HO2.out;have hd := HD.out;rw [<- HOk.out] at hd;have HD2 := keep hd;clear hd;cases ok with
 | false =>
  have hno : kidsOk P = false := HD2.out;go_wp2_with fail;go_ret3;unfold KidsCap;rw [hno, if_neg (by decide)];exact ⟨rfl, HGW.out⟩
 | true =>
  obtain ⟨hes, hks, _, _, hcp⟩ := HYes.out rfl
  by_cases hlv : P.level = 0
  ·have hno : kidsOk P = false := by rw [HD2.out, decide_eq_true hlv]; rfl
   have hlv2 : (P.level == 0) = true := by simp [hlv]
   have HNo := keep hno;clear hlv hno hes hks hcp;go_wp2_with fail;go_ret3;unfold KidsCap;rw [HNo.out, if_neg (by decide)];exact ⟨rfl, HGW.out⟩
  ·have hyes : kidsOk P = true := by rw [HD2.out, decide_eq_false hlv]; rfl
   have hlv2 : (P.level == 0) = false := by simp [hlv]
   have hf1 := rowS_form hes;have hf2 := rowS_form hks;subst hf1 hf2;have HEs := keep hes;have HKs := keep hks;have HYs := keep hyes;have HCp := keep hcp;clear hcp;clear hlv hes hyes hks;go_upto_region 4 with fail;go_quiet (fail);go_wp2_with fail;go_ret3;unfold KidsCap;rw [HYs.out, if_pos rfl];exact ⟨⟨a1, c1, a2, c2, rfl, HCp.out, RowS.fits HEs.out (below_drewN (Grow.refl _) _), RowS.fits HKs.out (below_drewN (Grow.refl _) _)⟩, Grow.trans HGW.out (below_drewN (Grow.refl _) _)⟩
end Go.Proofs.YtcdapdcablnhpaaGreat
