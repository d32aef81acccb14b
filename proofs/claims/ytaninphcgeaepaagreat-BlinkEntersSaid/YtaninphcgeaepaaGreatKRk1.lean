import Derived.Test.YtaninphcgeaepaaGreatKRs3
import Derived.Test.YtaninphcgeaepaaGreatKRd2
import Derived.Test.YtaninphcgeaepaaGreatKRd3
import Derived.Test.YtaninphcgeaepaaGreatKRk2
import Derived.Deep.CutRange
namespace Go.Proofs.YtaninphcgeaepaaGreat
open Go.RowKit
theorem eql_zeroE (k : List UInt8) (p s : Int) (w : World) : (binOp .eql 41 (.agg #[.string (str k), .int .i64 p, .int .i64 s]) (.agg #[.string ⟨#[]⟩, .int .i64 0, .int .i64 0])).run Tryz.prog w = .ok (.bool (isL (k, p, s))) w := eql_least k p s w
attribute [local simp] eql_zeroE
attribute [local go_sem] guard_entry
theorem decN_nil : decN [] = (leastE, 140) := by kernel_rfl
theorem hiN_dec (P : Pg) : hiN P = (decN P.high).1 := by
 unfold hiN
 split
 ·rename_i h
  rw [h, decN_nil]
 ·rfl
theorem round_no0 {lv : Int} {hi : En} {bd : Bool} {k : Nat} {pr x : En × Int × Int} (hl : lv ≠ 0) (h : isL x.1 ≠ decide (k = 0)) : roundOk lv hi bd k pr x = false := by
 have h1 : (decide (lv = 0) || (decide (x.1 = leastE) == decide (k = 0))) = false := by
  rw [decide_eq_false hl, Bool.false_or]
  exact beq_eq_false_iff_ne.2 h
 unfold roundOk
 rw [h1]
 rfl
def ChkRel (P : Pg) (ia : Option Addr) (ic : Nat) (w_ : World) (b5 b7 : Nat) (hk : List UInt8) (hp hsl : Int) (i : Value) (wr : World) : Prop := ∃ (k : Nat) (LA : En), k ≤ P.items.length ∧ i = .int .i64 k ∧ Kept (Blk wr w_.heap.size 24 [.int .i64 P.lsn, .int .i64 P.kind, .int .i64 P.level, .int .i64 P.right, .string (str P.high), .slice ia P.items.length ic]) ∧ Kept (Blk wr b5 41 [.string (str hk), .int .i64 hp, .int .i64 hsl]) ∧ Kept (Blk wr b7 41 [.string (str LA.1), .int .i64 LA.2.1, .int .i64 LA.2.2]) ∧ Kept (okTo P.level (hiN P) (bdN P) P.items k = true) ∧ Kept (0 < k → LA = (itemN P.level (P.items.getD (k - 1) [])).1) ∧ Kept (Below w_.heap.size w_ wr)
set_option maxRecDepth 100000 in
set_option maxHeartbeats 4000000 in
theorem rcheck_any (P : Pg) (iv : Value) (w_ : World) (hin : PgIn w_ iv P) :
  Calls Tryz.prog 40 #[pgV P iv] w_ (ChkPost P w_) := by
 obtain ⟨hi, hs, hh, hl, hlsn⟩ := hin
 have hpe := fun (u : World) (hu : Grow w_ u) => rpenc_any P iv u (Row.fits hi hu) hs hh hl hlsn
 have hde := fun (u : World) => rdecode_any P.high u (by omega)
 have hro : headOk P = ((encOk P && (decide (P.kind = 3) && inB P.right 0 65535)) && (decide (P.high = []) || decide ((decN P.high).2 = 0))) := rfl
 have hop : openOk P = (headOk P && (okTo P.level (hiN P) (bdN P) P.items P.items.length && (decide (P.level = 0) || decide (0 < P.items.length)))) := rfl
 have hlv : encOk P = true → 0 ≤ P.level ∧ P.level ≤ 255 := fun h => by
  have h1 : rangeP P = true := by
   unfold encOk at h
   rw [Bool.and_eq_true] at h
   exact h.1
  unfold rangeP at h1
  simp only [Bool.and_eq_true, decide_eq_true_eq] at h1
  omega
 have hsm := fun (u : World) => rsmall_any P.right u
 obtain ⟨w0, hw0⟩ : ∃ w0, w0 = w_.alloc (.cells (pgCells P iv).toArray 24) := ⟨_, rfl⟩
 have hg0 : Grow w_ w0 := by subst hw0; exact (Grow.refl w_).alloc _
 have hB0 : Blk w0 w_.heap.size 24 (pgCells P iv) := by subst hw0; exact Blk.new w_ _ _
 obtain ⟨ia, ic, rfl⟩ := items_form hi
 generalize inB P.right 0 65535 = R at *
 unfold pgCells at hw0 hB0
 unfold pgV at hpe
 have HPe := keep (hpe w0 hg0)
 have HDe := keep hde
 have HRo := keep hro
 have HOp := keep hop
 have HLv := keep hlv
 have HSm := keep hsm
 have HI := keep hi
 have HS := keep hs
 obtain ⟨p0, p1, p2, p3, p4, p5, _⟩ := pgres hB0
 clear hpe hde hro hop hlv hsm hi hs
 unfold pgV
 go_enter Tryz.func40, Tryz.ntmps40
 go_upto_region 1 with fail
 rw [← hw0]
 clear hw0
 go_wp2_with fail
 refine HPe.out.mono ?_
 rintro x w1 ⟨es, c, rfl, hc, hb1⟩
 have HB1 := keep (hB0.fits hb1)
 have HG1 := keep (Grow.trans hg0 hb1)
 have HC := keep hc
 clear p0 p1 p2 p3 p4 p5 hB0 hg0 hb1 hc HPe
 obtain ⟨p0, p1, p2, p3, p4, p5, _⟩ := pgres HB1.out
 go_upto_region 2 with fail
 go_cut [38] from 16 to 38 (fun v wx => v = .bool (!(encOk P && (decide (P.kind = 3) && R))) ∧ wx = w1)
 case first =>
  cases hE : encOk P with
  | false =>
   have hc9 : c ≠ 0 := fun h => by rw [HC.out.1 h] at hE; cases hE
   have hc8 : (c != 0) = true := by simp [hc9]
   have HE := keep hE
   clear hE hc9
   go_wp2_with fail
   all_goals go_meet
   all_goals (case rel => exact ⟨by rw [HE.out]; simp, rfl⟩)
  | true =>
   have hc9 : c = 0 := HC.out.2 hE
   subst hc9
   obtain ⟨l1, l2⟩ := HLv.out hE
   have HE := keep hE
   clear hE
   by_cases hk : P.kind = 3
   ·have hk8 : (P.kind != 3) = false := by simp [hk]
    have l3 : ¬ P.level < 0 := by omega
    have l4 : ¬ 255 < P.level := by omega
    have HK := keep hk
    clear hk
    go_wp2_with fail
    refine (HSm.out w1).mono ?_
    rintro x w2 ⟨rfl, rfl⟩
    go_wp2_with fail
    go_meet
    case rel => exact ⟨by rw [HE.out, HK.out]; simp, rfl⟩
   ·have hk8 : (P.kind != 3) = true := by simp [hk]
    have HK := keep hk
    clear hk
    go_wp2_with fail
    all_goals go_meet
    all_goals (case rel => exact ⟨by rw [HE.out, decide_eq_false HK.out]; simp, rfl⟩)
 case rest =>
  obtain ⟨rfl, rfl⟩ := hcut
  generalize wc = w1 at *
  cases hA : (encOk P && (decide (P.kind = 3) && R)) with
  | false =>
   have HNo := keep (show openOk P = false by rw [HOp.out, HRo.out, hA]; rfl)
   clear hA
   go_wp2_with fail
   go_ret
   exact chk_no HNo.out rfl (HG1.out)
  | true =>
   have HA := keep hA
   have hE : encOk P = true := by
    rw [Bool.and_eq_true] at hA
    exact hA.1
   obtain ⟨l1, l2⟩ := HLv.out hE
   clear hA hE
   have hdh : hiN P = (decN P.high).1 := hiN_dec P
   generalize decN P.high = D at *
   obtain ⟨⟨hk, hp, hsl⟩, dc⟩ := D
   dsimp only at hdh
   have hde := HDe.out w1
   unfold enV at hde
   dsimp only at hde
   have HDe2 := keep hde
   have HDh := keep hdh
   clear HDe hde hdh
   go_wp2_with fail
   refine HDe2.out.mono ?_
   rintro x w3 ⟨rfl, hb3⟩
   go_upto_region 5 with fail
   obtain ⟨b5, hb5⟩ : ∃ b, b = w3.heap.size := ⟨_, rfl⟩
   rw [← hb5]
   obtain ⟨w4, hw4⟩ : ∃ w4, w4 = w3.alloc (.cells #[.string (str hk), .int .i64 hp, .int .i64 hsl] 41) := ⟨_, rfl⟩
   have hb4 : Grow w3 w4 := by subst hw4; exact (Grow.refl _).alloc _
   have hH4 : Blk w4 b5 41 [.string (str hk), .int .i64 hp, .int .i64 hsl] := by subst hw4 hb5; exact Blk.new w3 _ [_, _, _]
   have hlt5 : w_.heap.size < b5 := by have h1 := HB1.out.lt; have h2 := hb3.size; omega
   have HB4 := keep (HB1.out.fits (Grow.trans hb3 hb4))
   have HG4 := keep (Grow.trans HG1.out (Grow.trans hb3 hb4))
   have HH4 := keep hH4
   rw [← hw4]
   clear hw4 hb4 hH4 hb3 hb5 p0 p1 p2 p3 p4 p5
   obtain ⟨p0, p1, p2, p3, p4, p5, _⟩ := pgres HB4.out
   go_cut [62] from 45 to 62 (fun v wx => v = .bool (!((decide (P.high = []) || decide (dc = 0)) && (decide (P.level = 0) || decide (0 < P.items.length)))) ∧ wx = w4)
   case first =>
    by_cases q1 : P.high = []
    ·have q1' : (str P.high).toList.isEmpty = true := by rw [str_list, q1]; rfl
     have Q1 := keep q1
     clear q1
     by_cases q2 : P.level = 0
     ·have q2' : ¬ 0 < P.level := by omega
      have Q2 := keep q2
      clear q2
      go_wp2_with fail
      all_goals go_meet
      all_goals (case rel => exact ⟨by rw [decide_eq_true Q1.out, decide_eq_true Q2.out]; rfl, rfl⟩)
     ·have q2' : 0 < P.level := by omega
      have Q2 := keep q2
      clear q2
      by_cases q3 : P.items.length = 0
      ·have q3' : ((P.items.length : Int) == 0) = true := by simp [q3]
       have Q3 := keep q3
       clear q3
       go_wp2_with fail
       all_goals go_meet
       all_goals (case rel => exact ⟨by rw [decide_eq_true Q1.out, decide_eq_false Q2.out, decide_eq_false (show ¬ 0 < P.items.length by have := Q3.out; omega)]; rfl, rfl⟩)
      ·have q3' : ((P.items.length : Int) == 0) = false := by simpa using q3
       have Q3 := keep q3
       go_wp2_with fail
       all_goals go_meet
       all_goals (case rel => exact ⟨by rw [decide_eq_true Q1.out, decide_eq_false Q2.out, decide_eq_true (show 0 < P.items.length by have := Q3.out; omega)]; rfl, rfl⟩)
    ·have q1' : (str P.high).toList.isEmpty = false := by rw [str_list]; simpa using q1
     have Q1 := keep q1
     clear q1
     by_cases q4 : dc = 0
     ·subst q4
      by_cases q2 : P.level = 0
      ·have q2' : ¬ 0 < P.level := by omega
       have Q2 := keep q2
       clear q2
       go_wp2_with fail
       all_goals go_meet
       all_goals (case rel => exact ⟨by rw [decide_eq_false Q1.out, decide_eq_true Q2.out]; rfl, rfl⟩)
      ·have q2' : 0 < P.level := by omega
       have Q2 := keep q2
       clear q2
       by_cases q3 : P.items.length = 0
       ·have q3' : ((P.items.length : Int) == 0) = true := by simp [q3]
        have Q3 := keep q3
        clear q3
        go_wp2_with fail
        all_goals go_meet
        all_goals (case rel => exact ⟨by rw [decide_eq_false Q1.out, decide_eq_false Q2.out, decide_eq_false (show ¬ 0 < P.items.length by have := Q3.out; omega)]; rfl, rfl⟩)
       ·have q3' : ((P.items.length : Int) == 0) = false := by simpa using q3
        have Q3 := keep q3
        go_wp2_with fail
        all_goals go_meet
        all_goals (case rel => exact ⟨by rw [decide_eq_false Q1.out, decide_eq_false Q2.out, decide_eq_true (show 0 < P.items.length by have := Q3.out; omega)]; rfl, rfl⟩)
     ·have q4' : (dc != 0) = true := by simp [q4]
      have Q4 := keep q4
      clear q4
      go_wp2_with fail
      all_goals go_meet
      all_goals (case rel => exact ⟨by rw [decide_eq_false Q1.out, decide_eq_false Q4.out]; rfl, rfl⟩)
   case rest =>
    obtain ⟨rfl, rfl⟩ := hcut
    generalize wc = w4 at *
    cases hF : ((decide (P.high = []) || decide (dc = 0)) && (decide (P.level = 0) || decide (0 < P.items.length))) with
    | false =>
     have hno : openOk P = false := by
      rw [HOp.out, HRo.out, HA.out]
      revert hF
      generalize (decide (P.high = []) || decide (dc = 0)) = A1
      generalize (decide (P.level = 0) || decide (0 < P.items.length)) = A2
      intro hF
      cases A1 <;> cases A2 <;> simp_all
     have HNo := keep hno
     clear hF hno
     go_wp2_with fail
     go_ret
     exact chk_no HNo.out rfl (HG4.out)
    | true =>
     have hop : openOk P = okTo P.level (hiN P) (bdN P) P.items P.items.length := by
      rw [HOp.out, HRo.out, HA.out]
      revert hF
      generalize (decide (P.high = []) || decide (dc = 0)) = A1
      generalize (decide (P.level = 0) || decide (0 < P.items.length)) = A2
      intro hF
      cases A1 <;> cases A2 <;> simp_all
     have HOp2 := keep hop
     rw [show (!true) = false from rfl]
     clear hF hop HOp HRo HA
     go_upto_region 8 with fail
     obtain ⟨b7, hb7⟩ : ∃ b, b = w4.heap.size := ⟨_, rfl⟩
     rw [← hb7]
     obtain ⟨w5, hw5⟩ : ∃ w5, w5 = w4.alloc (.cells #[.string ⟨#[]⟩, .int .i64 0, .int .i64 0] 41) := ⟨_, rfl⟩
     have hb5 : Grow w4 w5 := by subst hw5; exact (Grow.refl _).alloc _
     have hL5 : Blk w5 b7 41 [.string (str leastE.1), .int .i64 leastE.2.1, .int .i64 leastE.2.2] := by subst hw5 hb7; exact Blk.new w4 _ [_, _, _]
     have hlt7 : b5 < b7 := by have h1 := HH4.out.lt; omega
     have HP5 := keep (HB4.out.fits hb5)
     have HH5 := keep (HH4.out.fits hb5)
     have HL5 := keep hL5
     have HG5 := keep (Grow.trans HG4.out hb5)
     rw [← hw5]
     clear hw5 hb5 hb7 hL5 HB4 HH4 HG4 p0 p1 p2 p3 p4 p5
     go_wp2_with fail
     go_loopw [8] (fun i wr => ChkRel P ia ic w_ b5 b7 hk hp hsl i wr) (fun i _ => P.items.length - (intOf i).toNat)
     case atStart => exact show ChkRel P ia ic w_ b5 b7 hk hp hsl _ _ from ⟨0, leastE, Nat.zero_le _, rfl, HP5, HH5, HL5, keep rfl, keep (by intro h; omega), HG5⟩
     case round =>
      obtain ⟨k, LA, hkl, rfl, HPr, HHr, HLr, HOk, HLa, HGr⟩ := hrel
      obtain ⟨p0, p1, p2, p3, p4, p5, _⟩ := pgres HPr.out
      by_cases hlt : k < P.items.length
      ·obtain ⟨cc, off, cap, e, hcl⟩ := items_cells (Row.fits HI.out HGr.out) (by omega)
       simp only [Value.slice.injEq] at e
       obtain ⟨rfl, x1, rfl⟩ := e
       have hcell := hcl k hlt
       have hgd : P.items.getD k [] = P.items[k] := by simp [hlt]
       have HGd := keep hgd
       have hxl : (P.items[k].length : Int) ≤ 140737488355328 := HS.out _ (List.getElem_mem hlt)
       have hdx := fun (u : World) => rdecode_any P.items[k] u (by omega)
       have hux := fun (u : World) => runsep_any P.items[k] u (by omega)
       have hsucc : okTo P.level (hiN P) (bdN P) P.items (k + 1) = roundOk P.level (hiN P) (bdN P) k (itemN P.level (P.items.getD (k - 1) [])) (itemN P.level P.items[k]) := by
        rw [okTo, HOk.out, Bool.true_and, hgd]
       have hfail : okTo P.level (hiN P) (bdN P) P.items (k + 1) = false → openOk P = false := fun h => (open_no h (by omega)).symm
       generalize P.items[k] = raw at *
       have hit : itemN P.level raw = if P.level = 0 then ((decN raw).1, 0, (decN raw).2) else unsN raw := rfl
       generalize decN raw = D at *
       generalize unsN raw = U at *
       obtain ⟨⟨dk, dp, ds⟩, dcx⟩ := D
       obtain ⟨⟨uk, up, us⟩, uq, uc⟩ := U
       unfold enV at hdx hux
       dsimp only at hdx hux hit
       have HDx := keep hdx
       have HUx := keep hux
       have HSu := keep hsucc
       have HFa := keep hfail
       have HIt := keep hit
       clear hdx hux hsucc hfail hit hcl hgd hxl x1
       go_wp2_with fail
       refine (HDx.out wr).mono ?_
       rintro x w6 ⟨rfl, hb6⟩
       go_upto_region 12 with fail
       obtain ⟨wv, hwv⟩ : ∃ wv, wv = w6.alloc (.cells #[.string (str dk), .int .i64 dp, .int .i64 ds] 41) := ⟨_, rfl⟩
       obtain ⟨b9, hb9⟩ : ∃ b, b = w6.heap.size := ⟨_, rfl⟩
       rw [← hb9, ← hwv]
       have hbv : Grow wr wv := by subst hwv; exact Grow.alloc hb6 _
       have hXv : Blk wv b9 41 [.string (str dk), .int .i64 dp, .int .i64 ds] := by subst hwv hb9; exact Blk.new w6 _ [_, _, _]
       have hlt9 : b7 < b9 := by have h1 := HLr.out.lt; have h2 := hb6.size; omega
       have HPv := keep (HPr.out.fits hbv)
       have HHv := keep (HHr.out.fits hbv)
       have HLv2 := keep (HLr.out.fits hbv)
       have HXv := keep hXv
       have HGv := keep (Below.trans HGr.out (hbv.mono (by have := HPr.out.lt; omega)))
       have hcv := (Below.cell hbv (World.block_lt_of_cell? wr _ hcell)).trans hcell
       have HCv := keep hcv
       clear hwv hb9 hb6 hbv hXv hcv hcell HPr HHr HLr HGr p0 p1 p2 p3 p4 p5
       obtain ⟨p0, p1, p2, p3, p4, p5, _⟩ := pgres HPv.out
       obtain ⟨pr, hpr⟩ : ∃ pr, pr = itemN P.level (P.items.getD (k - 1) []) := ⟨_, rfl⟩
       have hsu := HSu.out
       rw [← hpr] at hsu
       have hla : 0 < k → LA = pr.1 := fun h => by rw [hpr]; exact HLa.out h
       have HSu2 := keep hsu
       have HLa2 := keep hla
       clear hsu hla hpr HSu HLa
       by_cases hz : P.level = 0
       ·have hz' : ¬ 0 < P.level := by omega
        obtain ⟨w7, rfl⟩ : ∃ w7, w7 = wv := ⟨_, rfl⟩
        obtain ⟨xk, xp, xs, rfl, rfl, rfl⟩ : ∃ xk xp xs, xk = dk ∧ xp = dp ∧ xs = ds := ⟨_, _, _, rfl, rfl, rfl⟩
        obtain ⟨xc, rfl⟩ : ∃ xc, xc = dcx := ⟨_, rfl⟩
        have hitz := HIt.out
        rw [if_pos hz] at hitz
        obtain ⟨xq, hxq⟩ : ∃ xq : Int, xq = 0 := ⟨_, rfl⟩
        rw [← hxq] at hitz
        have hh0 : P.level ≠ 0 → (xc = 0 → isL (xk, xp, xs) = decide (k = 0)) := fun h => absurd hz h
        have HP7 := HPv
        have HH7 := HHv
        have HL7 := HLv2
        have HX7 := HXv
        have HG7 := HGv
        clear hz HPv HHv HLv2 HXv HGv HIt hxq
        have hpos : (k : Int) + 1 ≤ P.items.length := by omega
        have heq : (decide (xc ≠ 0) || (decide (0 < k) && decide (0 ≤ cmpE LA (xk, xp, xs)))) = (decide (xc ≠ 0) || (decide (0 < k) && decide (0 ≤ cmpE pr.1 (xk, xp, xs)))) := by
         by_cases hk0 : 0 < k
         ·rw [HLa2.out hk0]
         ·rw [decide_eq_false hk0]
          rfl
        have hno1 : (decide (xc ≠ 0) || (decide (0 < k) && decide (0 ≤ cmpE LA (xk, xp, xs)))) = true → openOk P = false := fun h => by
         refine HFa.out ?_
         rw [HSu2.out, hitz]
         rw [heq] at h
         exact round_no1 h
        have hno2 : (bdN P && (decide (0 < cmpE (xk, xp, xs) (hk, hp, hsl)) || (decide (cmpE (xk, xp, xs) (hk, hp, hsl) = 0) && decide (0 < P.level)))) = true → openOk P = false := fun h => by
         refine HFa.out ?_
         rw [HSu2.out, hitz, HDh.out]
         exact round_no2 h
        have hyes : (decide (xc ≠ 0) || (decide (0 < k) && decide (0 ≤ cmpE LA (xk, xp, xs)))) = false → (bdN P && (decide (0 < cmpE (xk, xp, xs) (hk, hp, hsl)) || (decide (cmpE (xk, xp, xs) (hk, hp, hsl) = 0) && decide (0 < P.level)))) = false → okTo P.level (hiN P) (bdN P) P.items (k + 1) = true := fun h1 h2 => by
         rw [HSu2.out, hitz, HDh.out]
         rw [heq] at h1
         refine round_yes (fun hl => ?_) h1 h2
         refine hh0 hl ?_
         rw [Bool.or_eq_false_iff, decide_eq_false_iff_not, Decidable.not_not] at h1
         exact h1.1
        have hlst : 0 < k + 1 → (xk, xp, xs) = (itemN P.level (P.items.getD (k + 1 - 1) [])).1 := fun _ => by
         rw [Nat.add_sub_cancel, HGd.out, hitz]
        have hcl := fun (u : World) => rcompare_any LA (xk, xp, xs) u
        have hch := fun (u : World) => rcompare_any (xk, xp, xs) (hk, hp, hsl) u
        unfold enV at hcl hch
        dsimp only at hcl hch
        have HNo1 := keep hno1
        have HNo2 := keep hno2
        have HYes := keep hyes
        have HLst := keep hlst
        have HCl := keep hcl
        have HCh := keep hch
        obtain ⟨c0, c1, c2, _⟩ := enres HX7.out
        obtain ⟨d0, d1, d2, _⟩ := enres HH7.out
        obtain ⟨e0, e1, e2, _⟩ := enres HL7.out
        clear heq hno1 hno2 hyes hlst hcl hch hitz hh0
        go_upto_region 16 with fail
        go_cut [114] from 64 to 135 (fun v wx => v = .bool (decide (xc ≠ 0) || (decide (0 < k) && decide (0 ≤ cmpE LA (xk, xp, xs)))) ∧ Grow w7 wx)
        case first =>
         by_cases q1 : xc = 0
         ·have q1' : (xc != 0) = false := by simp [q1]
          have Q1 := keep q1
          clear q1
          by_cases q2 : 0 < k
          ·have q2' : (0 : Int) < (k : Int) := by omega
           have Q2 := keep q2
           clear q2
           go_wp2_with fail
           refine (HCl.out w7).mono ?_
           rintro x w8 ⟨rfl, hb8⟩
           go_wp2_with fail
           all_goals go_meet
           all_goals (case rel => exact ⟨by rw [decide_eq_false (show ¬ xc ≠ 0 from fun h => h Q1.out), decide_eq_true Q2.out]; simp, hb8⟩)
          ·have q2' : ¬ (0 : Int) < (k : Int) := by omega
           have Q2 := keep q2
           clear q2
           go_wp2_with fail
           all_goals go_meet
           all_goals (case rel => exact ⟨by rw [decide_eq_false (show ¬ xc ≠ 0 from fun h => h Q1.out), decide_eq_false (show ¬ 0 < k by have := Q2.out; omega)]; simp, Grow.refl _⟩)
         ·have q1' : (xc != 0) = true := by simp [q1]
          have Q1 := keep q1
          clear q1
          go_wp2_with fail
          all_goals go_meet
          all_goals (case rel => exact ⟨by rw [decide_eq_true (show xc ≠ 0 from Q1.out)]; simp, Grow.refl _⟩)
        case rest =>
         obtain ⟨rfl, hgw⟩ := hcut
         generalize wc = w8 at *
         have HG8 := keep hgw
         clear hgw c0 c1 c2 d0 d1 d2 e0 e1 e2 p0 p1 p2 p3 p4 p5
         obtain ⟨p0, p1, p2, p3, p4, p5, _⟩ := pgres (HP7.out.fits HG8.out)
         obtain ⟨c0, c1, c2, _⟩ := enres (HX7.out.fits HG8.out)
         obtain ⟨d0, d1, d2, _⟩ := enres (HH7.out.fits HG8.out)
         cases hN1 : (decide (xc ≠ 0) || (decide (0 < k) && decide (0 ≤ cmpE LA (xk, xp, xs)))) with
         | true =>
          have HNo := keep (HNo1.out hN1)
          clear hN1
          go_wp2_with fail
          go_ret
          exact chk_no HNo.out rfl (Below.trans HG7.out (HG8.out.mono (by have := HP7.out.lt; omega)))
         | false =>
          have HN1 := keep hN1
          clear hN1
          go_upto_region 18 with fail
          go_cut [134] from 64 to 135 (fun v wx => v = .bool (bdN P && (decide (0 < cmpE (xk, xp, xs) (hk, hp, hsl)) || (decide (cmpE (xk, xp, xs) (hk, hp, hsl) = 0) && decide (0 < P.level)))) ∧ Grow w8 wx)
          case first =>
           by_cases q1 : P.high = []
           ·have q1' : (str P.high).toList.isEmpty = true := by rw [str_list, q1]; rfl
            have Q1 := keep (show bdN P = false from decide_eq_false fun h => h q1)
            clear q1
            go_wp2_with fail
            all_goals go_meet
            all_goals (case rel => exact ⟨by rw [Q1.out]; simp, Grow.refl _⟩)
           ·have q1' : (str P.high).toList.isEmpty = false := by rw [str_list]; simpa using q1
            have Q1 := keep (show bdN P = true from decide_eq_true q1)
            clear q1
            go_wp2_with fail
            refine (HCh.out w8).mono ?_
            rintro x w9 ⟨rfl, hb9⟩
            have p2' := (Below.cell hb9 (World.block_lt_of_cell? w8 _ p2)).trans p2
            obtain ⟨c0', c1', c2', _⟩ := enres (Blk.fits (HX7.out.fits HG8.out) hb9)
            obtain ⟨d0', d1', d2', _⟩ := enres (Blk.fits (HH7.out.fits HG8.out) hb9)
            by_cases q2 : 0 < cmpE (xk, xp, xs) (hk, hp, hsl)
            ·have Q2 := keep q2
             go_wp2_with fail
             all_goals go_meet
             all_goals (case rel => exact ⟨by rw [Q1.out, decide_eq_true Q2.out]; rfl, hb9⟩)
            ·have Q2 := keep q2
             have Q3 := keep hz'
             go_wp2_with fail
             all_goals go_meet
             all_goals (case rel => exact ⟨by rw [Q1.out, decide_eq_false (show ¬ 0 < cmpE (xk, xp, xs) (hk, hp, hsl) by have := Q2.out; omega), decide_eq_false (show ¬ 0 < P.level by have := Q3.out; omega)]; simp, hb9⟩)
          case rest =>
           obtain ⟨rfl, hgw⟩ := hcut
           generalize wc = w9 at *
           have HG9 := keep (Grow.trans HG8.out hgw)
           have hlt9 := HP7.out.lt
           have hBL := Below.trans HG7.out (HG9.out.mono (by omega))
           have HBL := keep hBL
           clear hgw c0 c1 c2 d0 d1 d2 p0 p1 p2 p3 p4 p5
           cases hN2 : (bdN P && (decide (0 < cmpE (xk, xp, xs) (hk, hp, hsl)) || (decide (cmpE (xk, xp, xs) (hk, hp, hsl) = 0) && decide (0 < P.level)))) with
           | true =>
            have HNo := keep (HNo2.out hN2)
            clear hN2 hBL
            go_wp2_with fail
            go_ret
            exact chk_no HNo.out rfl HBL.out
           | false =>
            have hyes := HYes.out HN1.out hN2
            have HYs := keep hyes
            obtain ⟨c0, c1, c2, _⟩ := enres (HX7.out.fits HG9.out)
            have hl9 := HL7.out.fits HG9.out
            obtain ⟨e0, e1, e2, f0, f1, f2⟩ := enres hl9
            have Hset := keep (enset hl9 (.string (str xk)) (.int .i64 xp) (.int .i64 xs))
            have Hbut := keep (enbut w9 b7 (.string (str xk)) (.int .i64 xp) (.int .i64 xs))
            clear hN2 hyes hl9 hBL
            go_wp2_with fail
            go_roundw
            case rel => exact show ChkRel P (some ⟨cc, off, none⟩) ic w_ b5 b7 hk hp hsl _ _ from ⟨k + 1, (xk, xp, xs), by omega, by first | go_num | simp, keep (Blk.but (HP7.out.fits HG9.out) Hbut.out (by omega)), keep (Blk.but (HH7.out.fits HG9.out) Hbut.out (by omega)), Hset, HYs, HLst, keep (But.below HBL.out Hbut.out (by omega) (by have := HG9.out.size; omega))⟩
            case measure => simp [intOf]; omega
       ·have hz' : 0 < P.level := by omega
        have hcv := HCv.out
        obtain ⟨p0, p1, p2, p3, p4, p5, _⟩ := pgres HPv.out
        go_wp2_with fail
        refine (HUx.out wv).mono ?_
        rintro x w8 ⟨rfl, hb8⟩
        have hX8 := HXv.out.fits hb8
        have hP8 := HPv.out.fits hb8
        obtain ⟨c0, c1, c2, f0, f1, f2⟩ := enres hX8
        obtain ⟨w70, hw70⟩ : ∃ w70, w70 = ((w8.setCell ⟨b9, 0, none⟩ (.string (str uk))).setCell ⟨b9, 1, none⟩ (.int .i64 up)).setCell ⟨b9, 2, none⟩ (.int .i64 us) := ⟨_, rfl⟩
        have hset := enset hX8 (.string (str uk)) (.int .i64 up) (.int .i64 us)
        have hbut := enbut w8 b9 (.string (str uk)) (.int .i64 up) (.int .i64 us)
        rw [← hw70] at hset hbut
        have HX70 := keep hset
        have HP70 := keep (Blk.but hP8 hbut (by omega))
        have HH70 := keep (Blk.but (HHv.out.fits hb8) hbut (by omega))
        have HL70 := keep (Blk.but (HLv2.out.fits hb8) hbut (by omega))
        have HG70 := keep (But.below (Below.trans HGv.out (hb8.mono (by have := HPv.out.lt; omega))) hbut (by omega) (by have := hP8.lt; omega))
        clear hset hbut hX8 hP8 HXv HPv HHv HLv2 HGv hb8 hcv p0 p1 p2 p3 p4 p5
        go_upto_region 14 with fail
        rw [← hw70]
        clear hw70 c0 c1 c2 f0 f1 f2
        obtain ⟨xk, xp, xs, rfl, rfl, rfl⟩ : ∃ xk xp xs, xk = uk ∧ xp = up ∧ xs = us := ⟨_, _, _, rfl, rfl, rfl⟩
        obtain ⟨xc, rfl⟩ : ∃ xc, xc = uc := ⟨_, rfl⟩
        obtain ⟨xq, rfl⟩ : ∃ xq, xq = uq := ⟨_, rfl⟩
        have hitz := HIt.out
        rw [if_neg hz] at hitz
        obtain ⟨c0, c1, c2, _⟩ := enres HX70.out
        go_cut [102] from 64 to 135 (fun v wx => v = .bool (decide (xc = 0) && (decide (k = 0) != isL (xk, xp, xs))) ∧ Grow w70 wx)
        case first =>
         by_cases q1 : xc = 0
         ·have q1' : (xc == 0) = true := by simp [q1]
          have Q1 := keep q1
          clear q1
          by_cases q2 : k = 0
          ·have q2' : ((k : Int) == 0) = true := by simp [q2]
           have Q2 := keep q2
           clear q2
           cases hIL : isL (xk, xp, xs) <;> (have HIL := keep hIL; go_wp2_with fail)
           all_goals go_meet
           all_goals (case rel => exact ⟨by rw [decide_eq_true Q1.out, decide_eq_true Q2.out, HIL.out]; rfl, Grow.refl _⟩)
          ·have q2' : ((k : Int) == 0) = false := by simpa using q2
           have Q2 := keep q2
           clear q2
           cases hIL : isL (xk, xp, xs) <;> (have HIL := keep hIL; go_wp2_with fail)
           all_goals go_meet
           all_goals (case rel => exact ⟨by rw [decide_eq_true Q1.out, decide_eq_false (show ¬ k = 0 by have := Q2.out; omega), HIL.out]; rfl, Grow.refl _⟩)
         ·have q1' : (xc == 0) = false := by simp [q1]
          have Q1 := keep q1
          clear q1
          go_wp2_with fail
          all_goals go_meet
          all_goals (case rel => exact ⟨by rw [decide_eq_false Q1.out]; rfl, Grow.refl _⟩)
        case rest =>
         obtain ⟨rfl, hgw⟩ := hcut
         generalize wc = w7 at *
         have HX7 := keep (HX70.out.fits hgw)
         have HP7 := keep (HP70.out.fits hgw)
         have HH7 := keep (HH70.out.fits hgw)
         have HL7 := keep (HL70.out.fits hgw)
         have HG7 := keep (Below.trans HG70.out (hgw.mono (by have := HP70.out.lt; omega)))
         clear HX70 HP70 HH70 HL70 HG70 hgw
         clear c0 c1 c2
         cases hB : (decide (xc = 0) && (decide (k = 0) != isL (xk, xp, xs))) with
         | true =>
          have hno : openOk P = false := by
           refine HFa.out ?_
           rw [HSu2.out, hitz]
           refine round_no0 hz fun h => ?_
           rw [h] at hB
           simp at hB
          have HNo := keep hno
          clear hB hno hitz
          go_wp2_with fail
          go_ret
          exact chk_no HNo.out rfl HG7.out
         | false =>
          have hh0 : P.level ≠ 0 → (xc = 0 → isL (xk, xp, xs) = decide (k = 0)) := fun _ h => by
           rw [decide_eq_true h, Bool.true_and] at hB
           have h2 : decide (k = 0) = isL (xk, xp, xs) := by simpa using hB
           exact h2.symm
          obtain ⟨p0, p1, p2, p3, p4, p5, _⟩ := pgres HP7.out
          clear hB hz
          have hpos : (k : Int) + 1 ≤ P.items.length := by omega
          have heq : (decide (xc ≠ 0) || (decide (0 < k) && decide (0 ≤ cmpE LA (xk, xp, xs)))) = (decide (xc ≠ 0) || (decide (0 < k) && decide (0 ≤ cmpE pr.1 (xk, xp, xs)))) := by
           by_cases hk0 : 0 < k
           ·rw [HLa2.out hk0]
           ·rw [decide_eq_false hk0]
            rfl
          have hno1 : (decide (xc ≠ 0) || (decide (0 < k) && decide (0 ≤ cmpE LA (xk, xp, xs)))) = true → openOk P = false := fun h => by
           refine HFa.out ?_
           rw [HSu2.out, hitz]
           rw [heq] at h
           exact round_no1 h
          have hno2 : (bdN P && (decide (0 < cmpE (xk, xp, xs) (hk, hp, hsl)) || (decide (cmpE (xk, xp, xs) (hk, hp, hsl) = 0) && decide (0 < P.level)))) = true → openOk P = false := fun h => by
           refine HFa.out ?_
           rw [HSu2.out, hitz, HDh.out]
           exact round_no2 h
          have hyes : (decide (xc ≠ 0) || (decide (0 < k) && decide (0 ≤ cmpE LA (xk, xp, xs)))) = false → (bdN P && (decide (0 < cmpE (xk, xp, xs) (hk, hp, hsl)) || (decide (cmpE (xk, xp, xs) (hk, hp, hsl) = 0) && decide (0 < P.level)))) = false → okTo P.level (hiN P) (bdN P) P.items (k + 1) = true := fun h1 h2 => by
           rw [HSu2.out, hitz, HDh.out]
           rw [heq] at h1
           refine round_yes (fun hl => ?_) h1 h2
           refine hh0 hl ?_
           rw [Bool.or_eq_false_iff, decide_eq_false_iff_not, Decidable.not_not] at h1
           exact h1.1
          have hlst : 0 < k + 1 → (xk, xp, xs) = (itemN P.level (P.items.getD (k + 1 - 1) [])).1 := fun _ => by
           rw [Nat.add_sub_cancel, HGd.out, hitz]
          have hcl := fun (u : World) => rcompare_any LA (xk, xp, xs) u
          have hch := fun (u : World) => rcompare_any (xk, xp, xs) (hk, hp, hsl) u
          unfold enV at hcl hch
          dsimp only at hcl hch
          have HNo1 := keep hno1
          have HNo2 := keep hno2
          have HYes := keep hyes
          have HLst := keep hlst
          have HCl := keep hcl
          have HCh := keep hch
          obtain ⟨c0, c1, c2, _⟩ := enres HX7.out
          obtain ⟨d0, d1, d2, _⟩ := enres HH7.out
          obtain ⟨e0, e1, e2, _⟩ := enres HL7.out
          clear heq hno1 hno2 hyes hlst hcl hch hitz hh0
          go_upto_region 16 with fail
          go_cut [114] from 64 to 135 (fun v wx => v = .bool (decide (xc ≠ 0) || (decide (0 < k) && decide (0 ≤ cmpE LA (xk, xp, xs)))) ∧ Grow w7 wx)
          case first =>
           by_cases q1 : xc = 0
           ·have q1' : (xc != 0) = false := by simp [q1]
            have Q1 := keep q1
            clear q1
            by_cases q2 : 0 < k
            ·have q2' : (0 : Int) < (k : Int) := by omega
             have Q2 := keep q2
             clear q2
             go_wp2_with fail
             refine (HCl.out w7).mono ?_
             rintro x w8 ⟨rfl, hb8⟩
             go_wp2_with fail
             all_goals go_meet
             all_goals (case rel => exact ⟨by rw [decide_eq_false (show ¬ xc ≠ 0 from fun h => h Q1.out), decide_eq_true Q2.out]; simp, hb8⟩)
            ·have q2' : ¬ (0 : Int) < (k : Int) := by omega
             have Q2 := keep q2
             clear q2
             go_wp2_with fail
             all_goals go_meet
             all_goals (case rel => exact ⟨by rw [decide_eq_false (show ¬ xc ≠ 0 from fun h => h Q1.out), decide_eq_false (show ¬ 0 < k by have := Q2.out; omega)]; simp, Grow.refl _⟩)
           ·have q1' : (xc != 0) = true := by simp [q1]
            have Q1 := keep q1
            clear q1
            go_wp2_with fail
            all_goals go_meet
            all_goals (case rel => exact ⟨by rw [decide_eq_true (show xc ≠ 0 from Q1.out)]; simp, Grow.refl _⟩)
          case rest =>
           obtain ⟨rfl, hgw⟩ := hcut
           generalize wc = w8 at *
           have HG8 := keep hgw
           clear hgw c0 c1 c2 d0 d1 d2 e0 e1 e2 p0 p1 p2 p3 p4 p5
           obtain ⟨p0, p1, p2, p3, p4, p5, _⟩ := pgres (HP7.out.fits HG8.out)
           obtain ⟨c0, c1, c2, _⟩ := enres (HX7.out.fits HG8.out)
           obtain ⟨d0, d1, d2, _⟩ := enres (HH7.out.fits HG8.out)
           cases hN1 : (decide (xc ≠ 0) || (decide (0 < k) && decide (0 ≤ cmpE LA (xk, xp, xs)))) with
           | true =>
            have HNo := keep (HNo1.out hN1)
            clear hN1
            go_wp2_with fail
            go_ret
            exact chk_no HNo.out rfl (Below.trans HG7.out (HG8.out.mono (by have := HP7.out.lt; omega)))
           | false =>
            have HN1 := keep hN1
            clear hN1
            go_upto_region 18 with fail
            go_cut [134] from 64 to 135 (fun v wx => v = .bool (bdN P && (decide (0 < cmpE (xk, xp, xs) (hk, hp, hsl)) || (decide (cmpE (xk, xp, xs) (hk, hp, hsl) = 0) && decide (0 < P.level)))) ∧ Grow w8 wx)
            case first =>
             by_cases q1 : P.high = []
             ·have q1' : (str P.high).toList.isEmpty = true := by rw [str_list, q1]; rfl
              have Q1 := keep (show bdN P = false from decide_eq_false fun h => h q1)
              clear q1
              go_wp2_with fail
              all_goals go_meet
              all_goals (case rel => exact ⟨by rw [Q1.out]; simp, Grow.refl _⟩)
             ·have q1' : (str P.high).toList.isEmpty = false := by rw [str_list]; simpa using q1
              have Q1 := keep (show bdN P = true from decide_eq_true q1)
              clear q1
              go_wp2_with fail
              refine (HCh.out w8).mono ?_
              rintro x w9 ⟨rfl, hb9⟩
              have p2' := (Below.cell hb9 (World.block_lt_of_cell? w8 _ p2)).trans p2
              obtain ⟨c0', c1', c2', _⟩ := enres (Blk.fits (HX7.out.fits HG8.out) hb9)
              obtain ⟨d0', d1', d2', _⟩ := enres (Blk.fits (HH7.out.fits HG8.out) hb9)
              by_cases q2 : 0 < cmpE (xk, xp, xs) (hk, hp, hsl)
              ·have Q2 := keep q2
               go_wp2_with fail
               all_goals go_meet
               all_goals (case rel => exact ⟨by rw [Q1.out, decide_eq_true Q2.out]; rfl, hb9⟩)
              ·have Q2 := keep q2
               have Q3 := keep hz'
               go_wp2_with fail
               refine (HCh.out w9).mono ?_
               rintro x w10 ⟨rfl, hb10⟩
               by_cases q4 : cmpE (xk, xp, xs) (hk, hp, hsl) = 0
               ·have Q4 := keep q4
                have q5 : (0 : Int) ≤ cmpE (xk, xp, xs) (hk, hp, hsl) := by omega
                clear q4
                go_wp2_with fail
                all_goals go_meet
                all_goals (case rel => exact ⟨by rw [Q1.out, decide_eq_false (show ¬ 0 < cmpE (xk, xp, xs) (hk, hp, hsl) by have := Q2.out; omega), decide_eq_true Q3.out, decide_eq_true (show cmpE (xk, xp, xs) (hk, hp, hsl) = 0 by have := Q4.out; omega)]; rfl, Grow.trans hb9 hb10⟩)
               ·have Q4 := keep q4
                have q5 : ¬ (0 : Int) ≤ cmpE (xk, xp, xs) (hk, hp, hsl) := by omega
                clear q4
                go_wp2_with fail
                all_goals go_meet
                all_goals (case rel => exact ⟨by rw [decide_eq_false (show ¬ 0 ≤ cmpE (xk, xp, xs) (hk, hp, hsl) by have := Q2.out; have := Q4.out; omega), Q1.out, decide_eq_false (show ¬ 0 < cmpE (xk, xp, xs) (hk, hp, hsl) by have := Q2.out; omega), decide_eq_true Q3.out, decide_eq_false (show ¬ cmpE (xk, xp, xs) (hk, hp, hsl) = 0 by have := Q4.out; omega)]; rfl, Grow.trans hb9 hb10⟩)
            case rest =>
             obtain ⟨rfl, hgw⟩ := hcut
             generalize wc = w9 at *
             have HG9 := keep (Grow.trans HG8.out hgw)
             have hlt9 := HP7.out.lt
             have hBL := Below.trans HG7.out (HG9.out.mono (by omega))
             have HBL := keep hBL
             clear hgw c0 c1 c2 d0 d1 d2 p0 p1 p2 p3 p4 p5
             cases hN2 : (bdN P && (decide (0 < cmpE (xk, xp, xs) (hk, hp, hsl)) || (decide (cmpE (xk, xp, xs) (hk, hp, hsl) = 0) && decide (0 < P.level)))) with
             | true =>
              have HNo := keep (HNo2.out hN2)
              clear hN2 hBL
              go_wp2_with fail
              go_ret
              exact chk_no HNo.out rfl HBL.out
             | false =>
              have hyes := HYes.out HN1.out hN2
              have HYs := keep hyes
              obtain ⟨c0, c1, c2, _⟩ := enres (HX7.out.fits HG9.out)
              have hl9 := HL7.out.fits HG9.out
              obtain ⟨e0, e1, e2, f0, f1, f2⟩ := enres hl9
              have Hset := keep (enset hl9 (.string (str xk)) (.int .i64 xp) (.int .i64 xs))
              have Hbut := keep (enbut w9 b7 (.string (str xk)) (.int .i64 xp) (.int .i64 xs))
              clear hN2 hyes hl9 hBL
              go_wp2_with fail
              go_roundw
              case rel => exact show ChkRel P (some ⟨cc, off, none⟩) ic w_ b5 b7 hk hp hsl _ _ from ⟨k + 1, (xk, xp, xs), by omega, by first | go_num | simp, keep (Blk.but (HP7.out.fits HG9.out) Hbut.out (by omega)), keep (Blk.but (HH7.out.fits HG9.out) Hbut.out (by omega)), Hset, HYs, HLst, keep (But.below HBL.out Hbut.out (by omega) (by have := HG9.out.size; omega))⟩
              case measure => simp [intOf]; omega
      ·have e : k = P.items.length := by omega
       subst e
       have hyes : openOk P = true := by rw [HOp2.out]; exact HOk.out
       have HYe := keep hyes
       clear hyes
       go_wp2_with fail
       go_ret
       exact chk_yes HYe.out rfl HGr.out
end Go.Proofs.YtaninphcgeaepaaGreat
