import Derived.Test.YtcdapdcablnhpaaGreatKHl1
import Derived.Test.YtcdapdcablnhpaaGreatKRf2
import Derived.BigQuiet
namespace Go.Proofs.YtcdapdcablnhpaaGreat
open Go.RowKit
def ChkPost (P : Pg) (w : World) (x : Ending) (w' : World) : Prop := x = .returned (.int .i64 (if openOk P then 0 else 140)) /\ Below w.heap.size w w'
theorem chk_no {P : Pg} {w w' : World} {x : Ending} (h : openOk P = false) (hx : x = .returned (.int .i64 140)) (hb : Below w.heap.size w w') : ChkPost P w x w' := ⟨by rw [hx, h]; rfl, hb⟩
theorem chk_yes {P : Pg} {w w' : World} {x : Ending} (h : openOk P = true) (hx : x = .returned (.int .i64 0)) (hb : Below w.heap.size w w') : ChkPost P w x w' := ⟨by rw [hx, h]; rfl, hb⟩
set_option maxRecDepth 100000 in
set_option maxHeartbeats 4000000 in
theorem check_node (P : Pg) (iv : Value) (w_ : World) (hin : PgIn w_ iv P) :
  Calls Tryz.prog 93 #[pgV P iv] w_ (ChkPost P w_) := by
 obtain ⟨w0, hw0⟩ : ∃ w0, w0 = (w_.alloc (.cells (pgCells P iv).toArray 28)) := ⟨_, rfl⟩;have hg0 : Grow w_ w0 := by subst hw0; exact (Grow.refl w_).alloc _
 have hP0 : Blk w0 w_.heap.size 28 (pgCells P iv) := by
  have := Blk.new w_ 28 (pgCells P iv);subst hw0; exact this
 have hop := opened_pg (hin.fits hg0);obtain ⟨ia, ic, rfl⟩ := items_form hin.1;have HOp := keep hop;have HIn := keep hin;have HP0 := keep hP0;clear hop hin;unfold pgCells at hw0 hP0;obtain ⟨p0, p1, p2, p3, p4, p5, _⟩ := pgres hP0;unfold pgV;go_enter Tryz.func93, Tryz.ntmps93;go_upto_region 1 with fail;rw [<- hw0];clear hw0;go_wp2_with fail;refine HOp.out.mono ?_;rintro x w1 ⟨a1, n1, c1, a2, n2, c2, hi, bd, ok, rfl, hok, hyes, hb1⟩;clear p0 p1 p2 p3 p4 p5 hP0;obtain ⟨w2, hw2⟩ : ∃ w2, w2 = w1.alloc (.cells #[.slice a1 n1 c1, .slice a2 n2 c2, .string (str hi.1), .int .i64 hi.2.1, .int .i64 hi.2.2, .bool bd] 151) := ⟨_, rfl⟩;have hg2 : Grow w0 w2 := by subst hw2; exact Grow.alloc hb1 _
 have hO2 : Blk w2 w1.heap.size 151 [.slice a1 n1 c1, .slice a2 n2 c2, .string (str hi.1), .int .i64 hi.2.1, .int .i64 hi.2.2, .bool bd] := by subst hw2; exact Blk.new w1 _ [_, _, _, _, _, _]
 have hyes2 : ok = true -> EnsS w2 (.slice a1 n1 c1) (ensN P) /\ IntsS w2 (.slice a2 n2 c2) (kidsN P) /\ hi = hiN P /\ bd = bdN P := fun h => ⟨by subst hw2; exact RowS.fits (hyes h).1 ((Grow.refl _).alloc _), by subst hw2; exact RowS.fits (hyes h).2.1 ((Grow.refl _).alloc _), (hyes h).2.2⟩
 have HYes := keep hyes2;have HOk := keep hok;have HO2 := keep hO2;have HG2 := keep hg2;have HGW := keep (Grow.trans hg0 hg2);clear hyes hyes2 hok hb1 hO2 hg2;go_upto_region 2 with fail;rw [<- hw2];clear hw2;have hP2 := HP0.out.fits HG2.out;unfold pgCells at hP2;obtain ⟨p0, p1, p2, p3, p4, p5, _⟩ := pgres hP2;obtain ⟨o0, o1, o2, o3, o4, o5, _⟩ := pgres HO2.out;cases ok with
 | false =>
  go_wp2_with fail;go_ret;exact chk_no HOk.out.symm rfl HGW.out
 | true =>
  go_wp2_with fail;go_ret;exact chk_yes HOk.out.symm rfl HGW.out
end Go.Proofs.YtcdapdcablnhpaaGreat
