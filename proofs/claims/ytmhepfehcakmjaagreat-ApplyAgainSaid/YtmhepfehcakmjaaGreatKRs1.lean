import Derived.Test.YtmhepfehcakmjaaGreatKPe1
import Derived.Test.YtmhepfehcakmjaaGreatKPgn
namespace Go.Proofs.YtmhepfehcakmjaaGreat
open Go.RowKit
def sumL : List (List UInt8) -> Nat
 | [] => 0
 | x :: l => 2 + x.length + sumL l
theorem sumL_append (a b : List (List UInt8)) : sumL (a ++ b) = sumL a + sumL b := by
 induction a with
 | nil => simp [sumL]
 | cons x a ih => simp only [List.cons_append, sumL, ih]; omega
def sizeP (P : Pg) : Nat := 20 + P.high.length + sumL P.items
def fitsP (P : Pg) : Bool := decide (P.items.length <= 255) && decide (sizeP P <= 512)
theorem sumL_le (l : List (List UInt8)) (h : ∀ x ∈ l, (x.length : Int) <= 140737488355328) : (sumL l : Int) <= 140737488355330 * l.length := by
 induction l with
 | nil => simp [sumL]
 | cons x l ih =>
  have h1 := ih fun y hy => h y (List.mem_cons_of_mem _ hy)
  have h2 := h x (List.mem_cons_self ..);simp only [sumL, List.length_cons];omega
theorem sumL_take (l : List (List UInt8)) (k : Nat) : sumL (l.take k) <= sumL l := by
 have := sumL_append (l.take k) (l.drop k);rw [List.take_append_drop] at this;omega
set_option maxRecDepth 100000 in
set_option maxHeartbeats 1000000 in
theorem size_any (P : Pg) (iv : Value) (w : World) (hi : Items w iv P.items) (h255 : P.items.length <= 255) (hs : ∀ x ∈ P.items, (x.length : Int) <= 140737488355328) (hh : (P.high.length : Int) <= 140737488355328) :
  Calls Tryz.prog 135 #[pgV P iv] w fun e w' => e = .returned (.int .i64 (sizeP P)) /\ Below w.heap.size w w' := by
 obtain ⟨w0, hw0⟩ : ∃ w0, w0 = w.alloc (.cells (pgCells P iv).toArray 24) := ⟨_, rfl⟩;have hg0 : Grow w w0 := by subst hw0; exact (Grow.refl w).alloc _
 have hB0 : Blk w0 w.heap.size 24 (pgCells P iv) := by subst hw0; exact Blk.new w _ _
 have hi0 := Row.fits hi hg0;obtain ⟨ia, ic, rfl⟩ := items_form hi;unfold pgCells at hw0 hB0;obtain ⟨p0, p1, p2, p3, p4, p5, _⟩ := pgres hB0;have hle := sumL_le P.items hs;have HI := keep hi0
 have HLe : Kept (∀ k, ((20 + P.high.length + sumL (P.items.take k) : Nat) : Int) <= 180000000000000000) := keep (by
  intro k; have := sumL_take P.items k; omega)
 clear hi hi0 hle hs;unfold pgV;go_enter Tryz.func135, Tryz.ntmps135;go_upto_region 1 with fail;rw [<- hw0];clear hw0;go_wp2_with fail;go_loopw [3, 13] (fun n i wr => ∃ k : Nat, k <= P.items.length /\ i = .int .i64 k /\ n = .int .i64 ((20 + P.high.length + sumL (P.items.take k) : Nat) : Int) /\ Below w0.heap.size w0 wr) (fun _ i _ => P.items.length - (intOf i).toNat)
 case atStart => exact ⟨0, Nat.zero_le _, rfl, by simp [sumL], Below.refl _ _⟩
 case round =>
  obtain ⟨k, hk, rfl, rfl, hG⟩ := hrel;have hle := HLe.out k
  by_cases hlt : k < P.items.length
  ·obtain ⟨c, off, cap, e, hc⟩ := items_cells (Row.fits HI.out hG) (by omega);simp only [Value.slice.injEq] at e;obtain ⟨rfl, _, rfl⟩ := e;have hcell := hc k hlt;have hstep : sumL (P.items.take (k + 1)) = sumL (P.items.take k) + (2 + P.items[k].length) := by
    rw [List.take_succ_eq_append_getElem hlt, sumL_append]; simp [sumL]
   have hle2 := HLe.out (k + 1);rw [hstep] at hle2;generalize P.items[k] = x at *;generalize sumL (P.items.take k) = S at *;have HStep := keep hstep;have HG := keep hG;clear hstep hc hG;go_wp2_with fail;go_roundw
   case rel => exact ⟨k + 1, by omega, by go_num, by rw [HStep.out]; go_num, HG.out⟩
   case measure => simp [intOf]; omega
  ·have e : P.items.take k = P.items := List.take_of_length_le (by omega);rw [e] at hle ⊢;have hd : ((sizeP P : Nat) : Int) = ((20 + P.high.length + sumL P.items : Nat) : Int) := rfl;have HD := keep hd;clear hd;go_wp2_with fail;go_ret;rw [HD.out];exact ⟨rfl, Grow.trans hg0 hG⟩
set_option maxRecDepth 100000 in
set_option maxHeartbeats 1000000 in
theorem fits_any (P : Pg) (iv : Value) (w : World) (hi : Items w iv P.items) (hs : ∀ x ∈ P.items, (x.length : Int) <= 140737488355328) (hh : (P.high.length : Int) <= 140737488355328) (hl : (P.items.length : Int) <= 140737488355328) :
  Calls Tryz.prog 124 #[pgV P iv] w fun e w' => e = .returned (.bool (fitsP P)) /\ Below w.heap.size w w' := by
 obtain ⟨w0, hw0⟩ : ∃ w0, w0 = w.alloc (.cells (pgCells P iv).toArray 24) := ⟨_, rfl⟩;have hg0 : Grow w w0 := by subst hw0; exact (Grow.refl w).alloc _
 have hB0 : Blk w0 w.heap.size 24 (pgCells P iv) := by subst hw0; exact Blk.new w _ _
 have hsz := fun (h : P.items.length <= 255) => size_any P iv w0 (Row.fits hi hg0) h hs hh
 have hszb : P.items.length <= 255 -> (sizeP P : Int) <= 180000000000000000 := by
  intro h; have := sumL_le P.items hs; unfold sizeP; omega
 have hd : fitsP P = (decide (P.items.length <= 255) && decide (sizeP P <= 512)) := rfl;obtain ⟨ia, ic, rfl⟩ := items_form hi;generalize sizeP P = Z at *;have HSz := keep hsz;have HD := keep hd;unfold pgCells at hw0 hB0;obtain ⟨p0, p1, p2, p3, p4, p5, _⟩ := pgres hB0;unfold pgV at *
 by_cases h255 : P.items.length <= 255
 ·have hzb := hszb h255;clear hsz hd hszb hi;go_enter Tryz.func124, Tryz.ntmps124;go_upto_region 1 with fail;rw [<- hw0];clear hw0;go_wp2_with fail;refine (HSz.out h255).mono ?_;rintro e w1 ⟨rfl, hb1⟩;have hdd : fitsP P = decide (Z <= 512) := by rw [HD.out, decide_eq_true h255]; rfl
  have HDD := keep hdd;clear hdd
  by_cases hz : Z <= 512
  ·go_wp2_with fail;go_ret;rw [HDD.out, decide_eq_true hz]
   exact ⟨by
    show Ending.returned (Value.bool (decide ((Z : Int) <= 512))) = _
    rw [decide_eq_true (show (Z : Int) <= 512 by omega)], Grow.trans hg0 hb1⟩
  ·go_wp2_with fail;go_ret;rw [HDD.out, decide_eq_false hz]
   exact ⟨by
    show Ending.returned (Value.bool (decide ((Z : Int) <= 512))) = _
    rw [decide_eq_false (show ¬ (Z : Int) <= 512 by omega)], Grow.trans hg0 hb1⟩
 ·have hdd : fitsP P = false := by rw [HD.out, decide_eq_false h255]; rfl
  have HDD := keep hdd;clear hdd hsz hd hszb hi;go_enter Tryz.func124, Tryz.ntmps124;go_upto_region 1 with fail;rw [<- hw0];clear hw0;go_wp2_with fail;go_ret;rw [HDD.out];exact ⟨rfl, hg0⟩
end Go.Proofs.YtmhepfehcakmjaaGreat
