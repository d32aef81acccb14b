import Derived.Test.YtmhepfehcakmjaaGreatKPe1
import Derived.Test.YtmhepfehcakmjaaGreatKRelk
import Derived.Deep.CutRange
namespace Go.Proofs.YtmhepfehcakmjaaGreat
open Go.RowKit
def sumL : List (List UInt8) → Nat
 | [] => 0
 | x :: l => 2 + x.length + sumL l
theorem sumL_append (a b : List (List UInt8)) : sumL (a ++ b) = sumL a + sumL b := by
 induction a with
 | nil => simp [sumL]
 | cons x a ih => simp only [List.cons_append, sumL, ih]; omega
def sizeP (P : Pg) : Nat := 20 + P.high.length + sumL P.items
def fitsP (P : Pg) : Bool := decide (P.items.length ≤ 255) && decide (sizeP P ≤ 512)
theorem sumL_le (l : List (List UInt8)) (h : ∀ x ∈ l, (x.length : Int) ≤ 140737488355328) : (sumL l : Int) ≤ 140737488355330 * l.length := by
 induction l with
 | nil => simp [sumL]
 | cons x l ih =>
  have h1 := ih fun y hy => h y (List.mem_cons_of_mem _ hy)
  have h2 := h x (List.mem_cons_self ..)
  simp only [sumL, List.length_cons]
  omega
theorem sumL_take (l : List (List UInt8)) (k : Nat) : sumL (l.take k) ≤ sumL l := by
 have := sumL_append (l.take k) (l.drop k)
 rw [List.take_append_drop] at this
 omega
set_option maxRecDepth 100000 in
set_option maxHeartbeats 1000000 in
theorem size_any (P : Pg) (iv : Value) (w : World) (hi : Items w iv P.items) (h255 : P.items.length ≤ 255) (hs : ∀ x ∈ P.items, (x.length : Int) ≤ 140737488355328) (hh : (P.high.length : Int) ≤ 140737488355328) :
  Calls Tryz.prog 135 #[pgV P iv] w fun e w' => e = .returned (.int .i64 (sizeP P)) ∧ Below w.heap.size w w' := by
 obtain ⟨w0, hw0⟩ : ∃ w0, w0 = w.alloc (.cells (pgCells P iv).toArray 24) := ⟨_, rfl⟩
 have hg0 : Grow w w0 := by subst hw0; exact (Grow.refl w).alloc _
 have hB0 : Blk w0 w.heap.size 24 (pgCells P iv) := by subst hw0; exact Blk.new w _ _
 have hi0 := Row.fits hi hg0
 obtain ⟨ia, ic, rfl⟩ := items_form hi
 unfold pgCells at hw0 hB0
 obtain ⟨p0, p1, p2, p3, p4, p5, _⟩ := pgres hB0
 have hle := sumL_le P.items hs
 have HI := keep hi0
 have HLe : Kept (∀ k, ((20 + P.high.length + sumL (P.items.take k) : Nat) : Int) ≤ 180000000000000000) := keep (by
  intro k; have := sumL_take P.items k; omega)
 clear hi hi0 hle hs
 unfold pgV
 go_enter Tryz.func135, Tryz.ntmps135
 go_upto_region 1 with fail
 rw [← hw0]
 clear hw0
 go_wp2_with fail
 go_loopw [3, 13] (fun n i wr => ∃ k : Nat, k ≤ P.items.length ∧ i = .int .i64 k ∧ n = .int .i64 ((20 + P.high.length + sumL (P.items.take k) : Nat) : Int) ∧ Below w0.heap.size w0 wr) (fun _ i _ => P.items.length - (intOf i).toNat)
 case atStart => exact ⟨0, Nat.zero_le _, rfl, by simp [sumL], Below.refl _ _⟩
 case round =>
  obtain ⟨k, hk, rfl, rfl, hG⟩ := hrel
  have hle := HLe.out k
  by_cases hlt : k < P.items.length
  ·obtain ⟨c, off, cap, e, hc⟩ := items_cells (Row.fits HI.out hG) (by omega)
   simp only [Value.slice.injEq] at e
   obtain ⟨rfl, _, rfl⟩ := e
   have hcell := hc k hlt
   have hstep : sumL (P.items.take (k + 1)) = sumL (P.items.take k) + (2 + P.items[k].length) := by
    rw [List.take_succ_eq_append_getElem hlt, sumL_append]; simp [sumL]
   have hle2 := HLe.out (k + 1)
   rw [hstep] at hle2
   generalize P.items[k] = x at *
   generalize sumL (P.items.take k) = S at *
   have HStep := keep hstep
   have HG := keep hG
   clear hstep hc hG
   go_wp2_with fail
   go_roundw
   case rel => exact ⟨k + 1, by omega, by go_num, by rw [HStep.out]; go_num, HG.out⟩
   case measure => simp [intOf]; omega
  ·have e : P.items.take k = P.items := List.take_of_length_le (by omega)
   rw [e] at hle ⊢
   have hd : ((sizeP P : Nat) : Int) = ((20 + P.high.length + sumL P.items : Nat) : Int) := rfl
   have HD := keep hd
   clear hd
   go_wp2_with fail
   go_ret
   rw [HD.out]
   exact ⟨rfl, Grow.trans hg0 hG⟩
set_option maxRecDepth 100000 in
set_option maxHeartbeats 1000000 in
theorem fits_any (P : Pg) (iv : Value) (w : World) (hi : Items w iv P.items) (hs : ∀ x ∈ P.items, (x.length : Int) ≤ 140737488355328) (hh : (P.high.length : Int) ≤ 140737488355328) (hl : (P.items.length : Int) ≤ 140737488355328) :
  Calls Tryz.prog 124 #[pgV P iv] w fun e w' => e = .returned (.bool (fitsP P)) ∧ Below w.heap.size w w' := by
 obtain ⟨w0, hw0⟩ : ∃ w0, w0 = w.alloc (.cells (pgCells P iv).toArray 24) := ⟨_, rfl⟩
 have hg0 : Grow w w0 := by subst hw0; exact (Grow.refl w).alloc _
 have hB0 : Blk w0 w.heap.size 24 (pgCells P iv) := by subst hw0; exact Blk.new w _ _
 have hsz := fun (h : P.items.length ≤ 255) => size_any P iv w0 (Row.fits hi hg0) h hs hh
 have hszb : P.items.length ≤ 255 → (sizeP P : Int) ≤ 180000000000000000 := by
  intro h; have := sumL_le P.items hs; unfold sizeP; omega
 have hd : fitsP P = (decide (P.items.length ≤ 255) && decide (sizeP P ≤ 512)) := rfl
 obtain ⟨ia, ic, rfl⟩ := items_form hi
 generalize sizeP P = Z at *
 have HSz := keep hsz
 have HD := keep hd
 unfold pgCells at hw0 hB0
 obtain ⟨p0, p1, p2, p3, p4, p5, _⟩ := pgres hB0
 unfold pgV at *
 by_cases h255 : P.items.length ≤ 255
 ·have hzb := hszb h255
  clear hsz hd hszb hi
  go_enter Tryz.func124, Tryz.ntmps124
  go_upto_region 1 with fail
  rw [← hw0]
  clear hw0
  go_wp2_with fail
  refine (HSz.out h255).mono ?_
  rintro e w1 ⟨rfl, hb1⟩
  have hdd : fitsP P = decide (Z ≤ 512) := by rw [HD.out, decide_eq_true h255]; rfl
  have HDD := keep hdd
  clear hdd
  by_cases hz : Z ≤ 512
  ·go_wp2_with fail
   go_ret
   rw [HDD.out, decide_eq_true hz]
   exact ⟨by
    show Ending.returned (Value.bool (decide ((Z : Int) ≤ 512))) = _
    rw [decide_eq_true (show (Z : Int) ≤ 512 by omega)], Grow.trans hg0 hb1⟩
  ·go_wp2_with fail
   go_ret
   rw [HDD.out, decide_eq_false hz]
   exact ⟨by
    show Ending.returned (Value.bool (decide ((Z : Int) ≤ 512))) = _
    rw [decide_eq_false (show ¬ (Z : Int) ≤ 512 by omega)], Grow.trans hg0 hb1⟩
 ·have hdd : fitsP P = false := by rw [HD.out, decide_eq_false h255]; rfl
  have HDD := keep hdd
  clear hdd hsz hd hszb hi
  go_enter Tryz.func124, Tryz.ntmps124
  go_upto_region 1 with fail
  rw [← hw0]
  clear hw0
  go_wp2_with fail
  go_ret
  rw [HDD.out]
  exact ⟨rfl, hg0⟩
end Go.Proofs.YtmhepfehcakmjaaGreat
namespace Go.Proofs.YtmhepfehcakmjaaGreat
open Go.RowKit
attribute [local go_sem] gives givesUpon_value givesUpon_skip givesUpon_enter
attribute [local go_sem] bigS_length
theorem rep_length (n : Nat) : (Lib.repeatL [0] n).length = n := by
 induction n with
 | zero => rfl
 | succ n ih => simp [Lib.repeatL, ih]
theorem str_app (a b : List UInt8) : str a ++ str b = str (a ++ b) := by simp [str, ByteArray.ext_iff]
theorem grow_grown' {w w' : World} (h : Grow w w') (row : Option Nat) : w.grownBy w' row := ⟨h.os, h.tape, h.output, h.size, fun k hk _ => h.block k hk⟩
theorem bldAt_fits {T e : TypeId} {B b : Nat} {p : Value} {bs : List Value} {w w' : World} (h : Lib.BuilderAt T e B b p bs w) (k : Grow w w') : Lib.BuilderAt T e B b p bs w' := by
 obtain ⟨h1, v, h2, h3, h4⟩ := h
 exact ⟨h1, v, by rw [k.block b (lt_of_block h2)]; exact h2, h3.kept (grow_grown' k none) (by cases v.ownBlock <;> simp), h4⟩
theorem bld_fits {T e : TypeId} {B b : Nat} {bs : List Value} {w w' : World} (h : Lib.IsBuilder T e B b bs w) (k : Grow w w') : Lib.IsBuilder T e B b bs w' := by
 rcases h with h | h
 ·exact .inl (bldAt_fits h k)
 ·exact .inr (bldAt_fits h k)
theorem bldF_fits {T e : TypeId} {B b : Nat} {bs : List Value} {w w' : World} (h : Lib.IsBuilderF T e B b bs w) (k : Grow w w') : Lib.IsBuilderF T e B b bs w' := by
 have at_ : ∀ p, Lib.BuilderAtF T e B b p bs w → Lib.BuilderAtF T e B b p bs w' := by
  rintro p ⟨h1, v, h2, h3, h4⟩
  exact ⟨h1, v, by rw [k.block b (lt_of_block h2)]; exact h2, h3.kept (grow_grown' k none) (by cases v.ownBlock <;> simp), h4⟩
 rcases h with h | h
 ·exact .inl (at_ _ h)
 ·exact .inr (at_ _ h)
theorem writeB (B b : Nat) (l : List UInt8) (s : List UInt8) (w : World) (h : Lib.IsBuilder 199 5 B b (Lib.byteCells l) w) (hlen : l.length + s.length ≤ 140737488355328) (hBw : B ≤ w.heap.size) :
  Calls Tryz.prog 137 #[.pointer (some ⟨b, 0, none⟩), .string (str s)] w fun e w' => e = .returned (.tuple #[.int .i64 s.length, .nilIface]) ∧ (Lib.IsBuilder 199 5 B b (Lib.byteCells (l ++ s)) w' ∧ Below B w w') := by
 refine (writeStr B b (Lib.byteCells l) (str s) w h (by rw [Lib.byteCells_length]; simpa using hlen) hBw).mono ?_
 rintro e w' ⟨rfl, h1, h2⟩
 refine ⟨by simp, ?_, h2⟩
 have e : Lib.byteCells l ++ Lib.strCells (str s) = Lib.byteCells (l ++ s) := by simp [Lib.byteCells, Lib.strCells, str]
 rw [← e]; exact h1
def rangeP (P : Pg) : Bool := decide (0 ≤ P.lsn) && decide (0 ≤ P.level) && decide (0 ≤ P.right) && decide (1 ≤ P.kind) && decide (P.kind ≤ 3) && decide (P.level ≤ 255) && decide (P.right ≤ 4294967295)
def encOk (P : Pg) : Bool := rangeP P && (decide (P.high.length ≤ 255) && fitsP P)
def EncPost (P : Pg) (w : World) (e : Ending) (w' : World) : Prop := ∃ s c, e = .returned (.tuple #[.string s, .int .i64 c]) ∧ (c = 0 ↔ encOk P = true) ∧ Below w.heap.size w w'
set_option maxRecDepth 100000 in
set_option maxHeartbeats 2000000 in
theorem pageEnc_range (P : Pg) (iv : Value) (w : World) (hi : Items w iv P.items) (hs : ∀ x ∈ P.items, (x.length : Int) ≤ 140737488355328) (hh : (P.high.length : Int) ≤ 140737488355328) (hl : (P.items.length : Int) ≤ 140737488355328) (hr : rangeP P = false) :
  Calls Tryz.prog 128 #[pgV P iv] w (EncPost P w) := by
 obtain ⟨w0, hw0⟩ : ∃ w0, w0 = w.alloc (.cells (pgCells P iv).toArray 24) := ⟨_, rfl⟩
 have hg0 : Grow w w0 := by subst hw0; exact (Grow.refl w).alloc _
 have hB0 : Blk w0 w.heap.size 24 (pgCells P iv) := by subst hw0; exact Blk.new w _ _
 have hi0 := Row.fits hi hg0
 have hf := fits_any P iv w0 hi0 hs hh hl
 obtain ⟨ia, ic, rfl⟩ := items_form hi
 have HF := keep hf
 have HB0 := keep hB0
 have HI0 := keep hi0
 have HS := keep hs
 clear hf hi hi0 hs
 unfold pgCells at hw0 hB0
 obtain ⟨p0, p1, p2, p3, p4, p5, _⟩ := pgres hB0
 unfold pgV at *
 have hno : encOk P = false := by unfold encOk; rw [hr]; rfl
 have hor : P.lsn < 0 ∨ P.level < 0 ∨ P.right < 0 ∨ P.kind < 1 ∨ 3 < P.kind ∨ 255 < P.level ∨ 4294967295 < P.right := by
  unfold rangeP at hr
  simp only [Bool.and_eq_false_iff, decide_eq_false_iff_not] at hr
  omega
 have HNo := keep hno
 clear hno hr
 go_enter Tryz.func128, Tryz.ntmps128
 go_upto_region 1 with fail
 rw [← hw0]
 clear hw0
 go_wp2_with fail
 all_goals go_ret2
 all_goals exact ⟨_, _, rfl, by rw [HNo.out]; decide, hg0⟩
set_option maxRecDepth 100000 in
set_option maxHeartbeats 2000000 in
theorem pageEnc_in (P : Pg) (iv : Value) (w : World) (hi : Items w iv P.items) (hs : ∀ x ∈ P.items, (x.length : Int) ≤ 140737488355328) (hh : (P.high.length : Int) ≤ 140737488355328) (hl : (P.items.length : Int) ≤ 140737488355328) (hr : rangeP P = true) (hlsn : P.lsn ≤ 9223372036854775807) :
  Calls Tryz.prog 128 #[pgV P iv] w (EncPost P w) := by
 obtain ⟨w0, hw0⟩ : ∃ w0, w0 = w.alloc (.cells (pgCells P iv).toArray 24) := ⟨_, rfl⟩
 have hg0 : Grow w w0 := by subst hw0; exact (Grow.refl w).alloc _
 have hB0 : Blk w0 w.heap.size 24 (pgCells P iv) := by subst hw0; exact Blk.new w _ _
 have hi0 := Row.fits hi hg0
 have hf := fits_any P iv w0 hi0 hs hh hl
 obtain ⟨ia, ic, rfl⟩ := items_form hi
 have HF := keep hf
 have HB0 := keep hB0
 have HI0 := keep hi0
 have HS := keep hs
 clear hf hi hi0 hs
 unfold pgCells at hw0 hB0
 obtain ⟨p0, p1, p2, p3, p4, p5, _⟩ := pgres hB0
 unfold pgV at *
 have hen : encOk P = (decide (P.high.length ≤ 255) && fitsP P) := by unfold encOk; rw [hr]; rfl
 have HEn := keep hen
 have hrr : 0 ≤ P.lsn ∧ 0 ≤ P.level ∧ 0 ≤ P.right ∧ 1 ≤ P.kind ∧ P.kind ≤ 3 ∧ P.level ≤ 255 ∧ P.right ≤ 4294967295 := by
  unfold rangeP at hr
  simp only [Bool.and_eq_true, decide_eq_true_eq] at hr
  omega
 obtain ⟨r0, r1, r2, r3, r4, r5, r6⟩ := hrr
 clear hen hr
 go_enter Tryz.func128, Tryz.ntmps128
 go_upto_region 1 with fail
 rw [← hw0]
 clear hw0
 go_cut [7] from 8 (fun s7 wx => s7 = .bool false ∧ wx = w0)
 case first =>
  go_wp2_with fail
  all_goals go_meet
  all_goals (case rel => exact ⟨congrArg Value.bool (decide_eq_false (by omega)), rfl⟩)
 case rest =>
  obtain ⟨rfl, rfl⟩ := hcut
  have hen2 := HEn.out
  have HF' := HF
  by_cases hhigh : P.high.length ≤ 255
  ·rw [decide_eq_true hhigh, Bool.true_and] at hen2
   have HEn2 := keep hen2
   have hfit : fitsP P = true → P.items.length ≤ 255 ∧ sizeP P ≤ 512 := by
    intro h; simpa [fitsP] using h
   have HFit := keep hfit
   clear hen2 hfit
   go_wp2_with fail
   generalize fitsP P = F at *
   refine HF.out.mono ?_
   rintro e w1 ⟨rfl, hb1⟩
   cases F with
   | false =>
    go_wp2_with fail
    go_ret2
    exact ⟨_, _, rfl, by rw [HEn2.out]; decide, Grow.trans hg0 hb1⟩
   | true =>
    obtain ⟨h255, h512⟩ := HFit.out rfl
    have hg1 := Grow.trans hg0 hb1
    have hB1 := HB0.out.fits hb1
    have hi1 := Row.fits HI0.out hb1
    clear p0 p1 p2 p3 p4 p5 hB0 hb1 hg0 HF HF'
    unfold pgCells at hB1
    have HB1 := keep hB1
    have HI1 := keep hi1
    have HG1 := keep hg1
    clear hB1 hi1 hg1
    go_upto_region 11 with fail
    obtain ⟨w2, hw2⟩ : ∃ w2, w2 = w1.alloc (.cells #[.pointer none, .slice none 0 0] 199) := ⟨_, rfl⟩
    rw [← hw2]
    have hg2 : Grow w1 w2 := by subst hw2; exact (Grow.refl _).alloc _
    have hb2 : Lib.IsBuilder 199 5 w1.heap.size w1.heap.size (Lib.byteCells []) w2 := by subst hw2; exact builder_new w1
    have Hc0 := keep (fun (u : World) (hu : Grow w2.drew u) => (pgres (Blk.fits (w := w2.drew) (HB1.out.fits (Below.drew hg2)) hu)).1)
    have Hc1 := keep (fun (u : World) (hu : Grow w2.drew u) => (pgres (Blk.fits (w := w2.drew) (HB1.out.fits (Below.drew hg2)) hu)).2.1)
    have Hc2 := keep (fun (u : World) (hu : Grow w2.drew u) => (pgres (Blk.fits (w := w2.drew) (HB1.out.fits (Below.drew hg2)) hu)).2.2.1)
    have Hc3 := keep (fun (u : World) (hu : Grow w2.drew u) => (pgres (Blk.fits (w := w2.drew) (HB1.out.fits (Below.drew hg2)) hu)).2.2.2.1)
    have Hb2 := keep hb2
    clear hw2 hb2
    refine wp_region_grow (by kernel_rfl) 14 (by kernel_rfl) [(36, 0), (37, 1), (38, 2), (39, 3), (40, 4), (41, 5), (42, 6), (43, 7), (44, 8), (45, 9), (46, 10), (47, 11), (48, 12), (49, 13)] (by kernel_rfl) [(0, true), (1, true), (2, true), (3, true), (4, true), (5, true), (6, true), (7, true), (8, true), (9, true), (10, true), (11, true), (12, true), (13, true)] (by kernel_rfl) rfl rfl ?_
    apply lex_eq [] [(38, 2), (39, 3), (40, 4), (41, 5), (42, 6), (43, 7), (44, 8), (45, 9), (46, 10), (47, 11), (48, 12), (49, 13), (50, 14), (51, 15)] (by kernel_rfl) (by kernel_rfl) rfl
    ·intro xs w hw hp K hK
     simp only [putAll]
     go_simp
     exact hK _ (Grow.refl _)
    apply lex_eq [(0, true)] [(36, 0), (39, 3), (40, 4), (41, 5), (42, 6), (43, 7), (44, 8), (45, 9), (46, 10), (47, 11), (48, 12), (49, 13), (50, 14), (51, 15)] (by kernel_rfl) (by kernel_rfl) rfl
    ·intro xs w hw hp K hK
     simp only [hz] at hp
     simp only [putAll]
     have hc := Hc0.out w hw
     go_simp
     exact hK _ (Grow.refl _)
    apply lex_eq [(1, true)] [(36, 0), (37, 1), (39, 3), (40, 4), (43, 7), (44, 8), (45, 9), (46, 10), (47, 11), (48, 12), (49, 13), (50, 14), (51, 15)] (by kernel_rfl) (by kernel_rfl) rfl
    ·intro xs w hw hp K hK
     simp only [hz] at hp
     simp only [putAll]
     go_simp
     exact (big_at P.lsn 8 P.lsn.toNat 8 w (Int.toNat_of_nonneg (by omega)).symm rfl (by decide) (by decide) (by omega)).mono fun e w' h => ⟨_, h.1, hK _ h.2⟩
    apply lex_eq [] [(36, 0), (37, 1), (38, 2), (41, 5), (42, 6), (43, 7), (44, 8), (45, 9), (46, 10), (47, 11), (48, 12), (49, 13), (50, 14), (51, 15)] (by kernel_rfl) (by kernel_rfl) rfl
    ·intro xs w hw hp K hK
     simp only [putAll]
     go_simp
     exact hK _ (Grow.refl _)
    apply lex_eq [(3, true)] [(36, 0), (37, 1), (38, 2), (39, 3), (42, 6), (43, 7), (44, 8), (45, 9), (46, 10), (47, 11), (48, 12), (49, 13), (50, 14), (51, 15)] (by kernel_rfl) (by kernel_rfl) rfl
    ·intro xs w hw hp K hK
     simp only [hz] at hp
     simp only [putAll]
     have hc := Hc1.out w hw
     go_simp
     exact hK _ (Grow.refl _)
    apply lex_eq [(4, true)] [(36, 0), (37, 1), (38, 2), (39, 3), (40, 4), (43, 7), (44, 8), (46, 10), (47, 11), (48, 12), (49, 13), (50, 14), (51, 15)] (by kernel_rfl) (by kernel_rfl) rfl
    ·intro xs w hw hp K hK
     simp only [hz] at hp
     simp only [putAll]
     go_simp
     exact (big_at P.kind 1 P.kind.toNat 1 w (Int.toNat_of_nonneg (by omega)).symm rfl (by decide) (by decide) (by omega)).mono fun e w' h => ⟨_, h.1, hK _ h.2⟩
    apply lex_eq [(2, true), (5, true)] [(36, 0), (37, 1), (38, 2), (39, 3), (40, 4), (41, 5), (43, 7), (44, 8), (45, 9), (47, 11), (48, 12), (49, 13), (50, 14), (51, 15)] (by kernel_rfl) (by kernel_rfl) rfl
    ·intro xs w hw hp K hK
     simp only [hz] at hp
     simp only [putAll]
     go_simp
     exact hK _ (Grow.refl _)
    apply lex_eq [] [(36, 0), (37, 1), (38, 2), (39, 3), (40, 4), (41, 5), (42, 6), (45, 9), (46, 10), (47, 11), (48, 12), (49, 13), (50, 14), (51, 15)] (by kernel_rfl) (by kernel_rfl) rfl
    ·intro xs w hw hp K hK
     simp only [putAll]
     go_simp
     exact hK _ (Grow.refl _)
    apply lex_eq [(7, true)] [(36, 0), (37, 1), (38, 2), (39, 3), (40, 4), (41, 5), (42, 6), (43, 7), (46, 10), (47, 11), (48, 12), (49, 13), (50, 14), (51, 15)] (by kernel_rfl) (by kernel_rfl) rfl
    ·intro xs w hw hp K hK
     simp only [hz] at hp
     simp only [putAll]
     have hc := Hc2.out w hw
     go_simp
     exact hK _ (Grow.refl _)
    apply lex_eq [(8, true)] [(36, 0), (37, 1), (38, 2), (39, 3), (40, 4), (41, 5), (42, 6), (43, 7), (44, 8), (47, 11), (48, 12), (50, 14), (51, 15)] (by kernel_rfl) (by kernel_rfl) rfl
    ·intro xs w hw hp K hK
     simp only [hz] at hp
     simp only [putAll]
     go_simp
     exact (big_at P.level 1 P.level.toNat 1 w (Int.toNat_of_nonneg (by omega)).symm rfl (by decide) (by decide) (by omega)).mono fun e w' h => ⟨_, h.1, hK _ h.2⟩
    apply lex_eq [(6, true), (9, true)] [(36, 0), (37, 1), (38, 2), (39, 3), (40, 4), (41, 5), (42, 6), (43, 7), (44, 8), (45, 9), (47, 11), (48, 12), (49, 13), (51, 15)] (by kernel_rfl) (by kernel_rfl) rfl
    ·intro xs w hw hp K hK
     simp only [hz] at hp
     simp only [putAll]
     go_simp
     exact hK _ (Grow.refl _)
    apply lex_eq [] [(36, 0), (37, 1), (38, 2), (39, 3), (40, 4), (41, 5), (42, 6), (43, 7), (44, 8), (45, 9), (46, 10), (49, 13), (50, 14), (51, 15)] (by kernel_rfl) (by kernel_rfl) rfl
    ·intro xs w hw hp K hK
     simp only [putAll]
     go_simp
     exact hK _ (Grow.refl _)
    apply lex_eq [(11, true)] [(36, 0), (37, 1), (38, 2), (39, 3), (40, 4), (41, 5), (42, 6), (43, 7), (44, 8), (45, 9), (46, 10), (47, 11), (50, 14), (51, 15)] (by kernel_rfl) (by kernel_rfl) rfl
    ·intro xs w hw hp K hK
     simp only [hz] at hp
     simp only [putAll]
     have hc := Hc3.out w hw
     go_simp
     exact hK _ (Grow.refl _)
    apply lex_eq [(12, true)] [(36, 0), (37, 1), (38, 2), (39, 3), (40, 4), (41, 5), (42, 6), (43, 7), (44, 8), (45, 9), (46, 10), (47, 11), (48, 12)] (by kernel_rfl) (by kernel_rfl) rfl
    ·intro xs w hw hp K hK
     simp only [hz] at hp
     simp only [putAll]
     go_simp
     exact (big_at P.right 4 P.right.toNat 4 w (Int.toNat_of_nonneg (by omega)).symm rfl (by decide) (by decide) (by omega)).mono fun e w' h => ⟨_, h.1, hK _ h.2⟩
    intro xs w_ hw hp
    generalize hA : putAll xs _ _ = A
    simp only [hz] at hp
    have h10 := hp.2.2.2.2.2.2.2.2.2.2.1
    have h13 := hp.2.2.2.2.2.2.2.2.2.2.2.2.2
    clear hp
    subst hA
    simp only [putAll, h10, h13]
    have hg3 : Grow w1 w_ := Grow.trans hg2 hw.undrew
    have hb3 := bld_fits Hb2.out hw.undrew
    clear hw h10 h13 Hc0 Hc1 Hc2 Hc3 Hb2 hg2
    go_wp2_with fail
    rw [str_app, str_app, str_app]
    have hl14 : (bigS P.lsn.toNat 8 ++ bigS P.kind.toNat 1 ++ bigS P.level.toNat 1 ++ bigS P.right.toNat 4).length = 14 := by simp [bigS_length]
    generalize bigS P.lsn.toNat 8 ++ bigS P.kind.toNat 1 ++ bigS P.level.toNat 1 ++ bigS P.right.toNat 4 = L1 at *
    refine (writeB _ _ [] L1 w_ hb3 (by simp; omega) hg3.size).mono ?_
    rintro e w4 ⟨rfl, hb4, hB4⟩
    rw [List.nil_append] at hb4
    have hg4 : Grow w1 w4 := Below.trans hg3 hB4
    clear hb3 hB4 hg3
    have Hc4 := keep (fun (u : World) (hu : Grow w4.drew u) => (pgres (Blk.fits (w := w4.drew) (HB1.out.fits (Below.drew hg4)) hu)).2.2.2.2.1)
    have Hc5 := keep (fun (u : World) (hu : Grow w4.drew u) => (pgres (Blk.fits (w := w4.drew) (HB1.out.fits (Below.drew hg4)) hu)).2.2.2.2.2.1)
    have Hb4 := keep hb4
    clear hb4
    go_wp2_with fail
    refine wp_region_grow (by kernel_rfl) 11 (by kernel_rfl) [(52, 0), (53, 1), (54, 2), (55, 3), (56, 4), (57, 5), (58, 6), (59, 7), (60, 8), (61, 9), (62, 10)] (by kernel_rfl) [(0, true), (1, true), (2, true), (3, true), (4, true), (5, true), (6, true), (7, true), (8, true), (9, true), (10, true)] (by kernel_rfl) rfl rfl ?_
    apply lex_eq [] [(54, 2), (55, 3), (56, 4), (57, 5), (58, 6), (59, 7), (60, 8), (61, 9), (62, 10), (63, 11), (64, 12)] (by kernel_rfl) (by kernel_rfl) rfl
    ·intro xs w hw hp K hK
     simp only [putAll]
     go_simp
     exact hK _ (Grow.refl _)
    apply lex_eq [(0, true)] [(52, 0), (55, 3), (56, 4), (57, 5), (58, 6), (59, 7), (60, 8), (61, 9), (62, 10), (63, 11), (64, 12)] (by kernel_rfl) (by kernel_rfl) rfl
    ·intro xs w hw hp K hK
     simp only [hz] at hp
     simp only [putAll]
     have hc := Hc5.out w hw
     go_simp
     exact hK _ (Grow.refl _)
    apply lex_eq [(1, true)] [(52, 0), (53, 1), (56, 4), (57, 5), (58, 6), (59, 7), (60, 8), (61, 9), (62, 10), (63, 11), (64, 12)] (by kernel_rfl) (by kernel_rfl) rfl
    ·intro xs w hw hp K hK
     simp only [hz] at hp
     simp only [putAll]
     go_simp
     exact hK _ (Grow.refl _)
    apply lex_eq [(2, true)] [(52, 0), (53, 1), (54, 2), (56, 4), (57, 5), (58, 6), (61, 9), (62, 10), (63, 11), (64, 12)] (by kernel_rfl) (by kernel_rfl) rfl
    ·intro xs w hw hp K hK
     simp only [hz] at hp
     simp only [putAll]
     go_simp
     exact (big_at (P.items.length : Int) 1 P.items.length 1 w rfl rfl (by decide) (by decide) (by omega)).mono fun e w' h => ⟨_, h.1, hK _ h.2⟩
    apply lex_eq [] [(52, 0), (53, 1), (54, 2), (55, 3), (58, 6), (59, 7), (60, 8), (61, 9), (62, 10), (63, 11), (64, 12)] (by kernel_rfl) (by kernel_rfl) rfl
    ·intro xs w hw hp K hK
     simp only [putAll]
     go_simp
     exact hK _ (Grow.refl _)
    apply lex_eq [(4, true)] [(52, 0), (53, 1), (54, 2), (55, 3), (56, 4), (59, 7), (60, 8), (61, 9), (62, 10), (63, 11), (64, 12)] (by kernel_rfl) (by kernel_rfl) rfl
    ·intro xs w hw hp K hK
     simp only [hz] at hp
     simp only [putAll]
     have hc := Hc4.out w hw
     go_simp
     exact hK _ (Grow.refl _)
    apply lex_eq [(5, true)] [(52, 0), (53, 1), (54, 2), (55, 3), (56, 4), (57, 5), (60, 8), (61, 9), (62, 10), (63, 11), (64, 12)] (by kernel_rfl) (by kernel_rfl) rfl
    ·intro xs w hw hp K hK
     simp only [hz] at hp
     simp only [putAll]
     go_simp
     exact hK _ (Grow.refl _)
    apply lex_eq [(6, true)] [(52, 0), (53, 1), (54, 2), (55, 3), (56, 4), (57, 5), (58, 6), (61, 9), (62, 10), (63, 11)] (by kernel_rfl) (by kernel_rfl) rfl
    ·intro xs w hw hp K hK
     simp only [hz] at hp
     simp only [putAll]
     go_simp
     exact (big_at (P.high.length : Int) 1 P.high.length 1 w rfl rfl (by decide) (by decide) (by omega)).mono fun e w' h => ⟨_, h.1, hK _ h.2⟩
    apply lex_eq [(3, true), (7, true)] [(52, 0), (53, 1), (54, 2), (55, 3), (56, 4), (57, 5), (58, 6), (59, 7), (61, 9), (62, 10), (64, 12)] (by kernel_rfl) (by kernel_rfl) rfl
    ·intro xs w hw hp K hK
     simp only [hz] at hp
     simp only [putAll]
     go_simp
     exact hK _ (Grow.refl _)
    apply lex_eq [] [(52, 0), (53, 1), (54, 2), (55, 3), (56, 4), (57, 5), (58, 6), (59, 7), (60, 8), (63, 11), (64, 12)] (by kernel_rfl) (by kernel_rfl) rfl
    ·intro xs w hw hp K hK
     simp only [putAll]
     go_simp
     exact hK _ (Grow.refl _)
    apply lex_eq [(9, true)] [(52, 0), (53, 1), (54, 2), (55, 3), (56, 4), (57, 5), (58, 6), (59, 7), (60, 8), (61, 9), (64, 12)] (by kernel_rfl) (by kernel_rfl) rfl
    ·intro xs w hw hp K hK
     simp only [hz] at hp
     simp only [putAll]
     have hc := Hc4.out w hw
     go_simp
     exact hK _ (Grow.refl _)
    intro xs wq hw hp
    generalize hA : putAll xs _ _ = A
    simp only [hz] at hp
    have h8 := hp.2.2.2.2.2.2.2.2.1
    have h10 := hp.2.2.2.2.2.2.2.2.2.2
    clear hp
    subst hA
    simp only [putAll, h8, h10]
    have hg5 : Grow w1 wq := Grow.trans hg4 hw.undrew
    have hb5 := bld_fits Hb4.out hw.undrew
    clear hw h8 h10 Hc4 Hc5 Hb4 hg4
    go_wp2_with fail
    rw [str_app, str_app]
    have hl16 : (L1 ++ (bigS P.items.length 1 ++ bigS P.high.length 1 ++ P.high)).length = 16 + P.high.length := by simp [bigS_length]; omega
    have hl2 : (bigS P.items.length 1 ++ bigS P.high.length 1 ++ P.high).length = 2 + P.high.length := by simp [bigS_length]; omega
    refine (writeB _ _ L1 _ wq hb5 (by omega) hg5.size).mono ?_
    rintro e w6 ⟨rfl, hb6, hB6⟩
    have hg6 : Grow w1 w6 := Below.trans hg5 hB6
    have hc6 := (pgres (HB1.out.fits hg6)).2.2.2.2.2.1
    generalize L1 ++ (bigS P.items.length 1 ++ bigS P.high.length 1 ++ P.high) = L2 at *
    generalize bigS P.items.length 1 ++ bigS P.high.length 1 ++ P.high = L3 at *
    clear hb5 hB6 hg5
    have Hb6 := keep hb6
    clear hb6
    have hszz : sizeP P = 20 + P.high.length + sumL P.items := rfl
    have Hsz := keep hszz
    clear hszz
    go_wp2_with fail
    go_loopw [68] (fun i wr => ∃ k : Nat, k ≤ P.items.length ∧ i = .int .i64 k ∧ (∃ l : List UInt8, l.length = 16 + P.high.length + sumL (P.items.take k) ∧ Kept (Lib.IsBuilder 199 5 w1.heap.size w1.heap.size (Lib.byteCells l) wr)) ∧ Grow w1 wr) (fun i _ => P.items.length - (intOf i).toNat)
    case atStart => exact ⟨0, Nat.zero_le _, rfl, ⟨L2, by rw [hl16]; simp [sumL], Hb6⟩, hg6⟩
    case round =>
     obtain ⟨k, hk, rfl, ⟨l, hll, hb⟩, hG⟩ := hrel
     have htk := sumL_take P.items k
     by_cases hlt : k < P.items.length
     ·obtain ⟨c, off, cap, e, hc⟩ := items_cells (Row.fits HI1.out hG) (by omega)
      simp only [Value.slice.injEq] at e
      obtain ⟨rfl, _, rfl⟩ := e
      have hcell := hc k hlt
      have hstep : sumL (P.items.take (k + 1)) = sumL (P.items.take k) + (2 + P.items[k].length) := by
       rw [List.take_succ_eq_append_getElem hlt, sumL_append]; simp [sumL]
      have htk2 := sumL_take P.items (k + 1)
      rw [hstep] at htk2
      have hzz := Hsz.out
      generalize P.items[k] = x at *
      generalize sumL (P.items.take k) = S at *
      have hxl : x.length ≤ 512 := by omega
      have HStep := keep hstep
      have HLL := keep hll
      have HTK := keep htk2
      clear hstep hc hll htk htk2 hzz
      go_wp2_with fail
      refine (big_at (x.length : Int) 2 x.length 2 wr rfl rfl (by decide) (by decide) (by omega)).mono ?_
      rintro e y1 ⟨rfl, hY1⟩
      have hbY := bld_fits hb.out hY1
      have hgY := Grow.trans hG hY1
      go_wp2_with fail
      rw [str_app]
      have hl2 : (bigS x.length 2 ++ x).length = 2 + x.length := by simp [bigS_length]
      refine (writeB _ _ l (bigS x.length 2 ++ x) y1 hbY (by have := HLL.out; have := HTK.out; have := Hsz.out; omega) hgY.size).mono ?_
      rintro e y2 ⟨rfl, hbZ, hBZ⟩
      have HBZ := keep hbZ
      have HGZ := keep (Below.trans hgY hBZ)
      clear hbZ hBZ hbY hgY hY1
      go_wp2_with fail
      go_roundw
      case rel => exact ⟨k + 1, by omega, by go_num, ⟨l ++ (bigS x.length 2 ++ x), by rw [List.length_append, hl2, HLL.out, HStep.out]; omega, HBZ⟩, HGZ.out⟩
      case measure => simp [intOf]; omega
     ·have e : P.items.take k = P.items := List.take_of_length_le (by omega)
      rw [e] at hll
      have hzz := Hsz.out
      have hle : l.length ≤ 508 := by omega
      obtain ⟨c, hcl⟩ : ∃ c : Nat, l.length + c = 508 := ⟨508 - l.length, by omega⟩
      have HCl := keep hcl
      clear hzz hll htk e hcl hc6
      go_wp2_with fail
      refine (Tryz.Builder_Len w1.heap.size w1.heap.size (Lib.byteCells l) wr hb.out).mono ?_
      rintro e w' ⟨rfl, rfl⟩
      rw [Lib.byteCells_length]
      have hsub : (508 : Int) - (l.length : Int) = (c : Int) := by have := HCl.out; omega
      go_wp2_with fail
      refine (Tryz.strings_Repeat ⟨#[0]⟩ c w' (by have := HCl.out; omega) (by have := HCl.out; show 1 * c ≤ 140737488355328; omega)).mono ?_
      rintro e y1 ⟨rfl, hY1⟩
      have hb7 := bld_fits hb.out hY1
      have hg7 := Grow.trans hG hY1
      have hrl : (Lib.repeatL [0] c).length ≤ 1000 := by rw [rep_length]; have := HCl.out; omega
      have hre : (⟨(Lib.repeatL (⟨#[0]⟩ : ByteArray).data.toList c).toArray⟩ : ByteArray) = str (Lib.repeatL [0] c) := rfl
      rw [hre]
      generalize Lib.repeatL [0] c = R at *
      clear hre
      have Hrl := keep hrl
      have Hb7 := keep hb7
      clear hrl hb7 hY1 hG hb
      go_wp2_with fail
      refine (writeB _ _ l R y1 Hb7.out (by have := Hrl.out; have := HCl.out; omega) hg7.size).mono ?_
      rintro e y2 ⟨rfl, hb8, hB8⟩
      have hg8 : Grow w1 y2 := Below.trans hg7 hB8
      have hLl : (l ++ R).length ≤ 2000 := by rw [List.length_append]; have := Hrl.out; have := HCl.out; omega
      generalize l ++ R = L4 at *
      have HLl := keep hLl
      have hf8 := Lib.IsBuilderF.of hb8
      have Hf8 := keep hf8
      clear hb8 hB8 hg7 Hb7 hLl hf8
      go_wp2_with fail
      refine (Tryz.Builder_String_any_f w1.heap.size w1.heap.size L4 y2 Hf8.out hg8.size).mono ?_
      rintro e y3 ⟨rfl, hf9, hB9⟩
      have hg9 : Grow w1 y3 := Below.trans hg8 hB9
      have Hf9 := keep hf9
      clear hf9 hB9 hg8 Hf8
      go_wp2_with fail
      refine (sum_any ⟨L4.toArray⟩ y3 (by have := HLl.out; show ((L4.toArray.size : Nat) : Int) ≤ _; simp; omega)).mono ?_
      rintro e y4 ⟨⟨y, hy, rfl⟩, rfl⟩
      have hyi : (y : Int) < 4294967296 := by omega
      go_wp2_with fail
      refine (big_at (y : Int) 4 y 4 y3 rfl rfl (by decide) (by decide) (by omega)).mono ?_
      rintro e y5 ⟨rfl, hY5⟩
      have hf10 := bldF_fits Hf9.out hY5
      have hg10 := Grow.trans hg9 hY5
      have Hf10 := keep hf10
      clear hf10 hY5 hg9 Hf9
      go_wp2_with fail
      refine (Tryz.Builder_String_any_f w1.heap.size w1.heap.size L4 y5 Hf10.out hg10.size).mono ?_
      rintro e y6 ⟨rfl, _, hB11⟩
      have hg11 : Grow w1 y6 := Below.trans hg10 hB11
      have he4 : (⟨L4.toArray⟩ : ByteArray) = str L4 := rfl
      rw [he4]
      have hLn := HLl.out
      clear hB11 hg10 Hf10 he4
      go_wp2_with fail
      go_ret2
      exact ⟨_, _, rfl, by rw [HEn2.out]; decide, Grow.trans HG1.out hg11⟩
  ·rw [decide_eq_false hhigh, Bool.false_and] at hen2
   have HEn2 := keep hen2
   clear hen2
   go_wp2_with fail
   go_ret2
   exact ⟨_, _, rfl, by rw [HEn2.out]; decide, hg0⟩
end Go.Proofs.YtmhepfehcakmjaaGreat
namespace Go.Proofs.YtmhepfehcakmjaaGreat
open Go.RowKit
theorem pageEnc_any (P : Pg) (iv : Value) (w : World) (hi : Items w iv P.items) (hs : ∀ x ∈ P.items, (x.length : Int) ≤ 140737488355328) (hh : (P.high.length : Int) ≤ 140737488355328) (hl : (P.items.length : Int) ≤ 140737488355328) (hlsn : P.lsn ≤ 9223372036854775807) :
  Calls Tryz.prog 128 #[pgV P iv] w (EncPost P w) := by
 cases hr : rangeP P with
 | false => exact pageEnc_range P iv w hi hs hh hl hr
 | true => exact pageEnc_in P iv w hi hs hh hl hr hlsn
theorem sumL_ge (l : List (List UInt8)) : ∀ x ∈ l, x.length ≤ sumL l := by
 intro x hx
 induction l with
 | nil => simp at hx
 | cons a l ih =>
  rw [sumL]
  rcases List.mem_cons.1 hx with rfl | h
  ·omega
  ·have := ih h; omega
theorem encOk_fine {P : Pg} (h : encOk P = true) : P.items.length ≤ 255 ∧ P.high.length ≤ 255 ∧ (∀ x ∈ P.items, x.length ≤ 512) ∧ 0 ≤ P.level ∧ P.level ≤ 255 ∧ 0 ≤ P.right := by
 simp only [encOk, rangeP, fitsP, Bool.and_eq_true, decide_eq_true_eq] at h
 refine ⟨by omega, by omega, fun x hx => ?_, by omega, by omega, by omega⟩
 have := sumL_ge P.items x hx
 unfold sizeP at h
 omega
end Go.Proofs.YtmhepfehcakmjaaGreat
namespace Go.Proofs.YtmhepfehcakmjaaGreat
open Go.RowKit
end Go.Proofs.YtmhepfehcakmjaaGreat
