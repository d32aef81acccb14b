import Derived.Test.YtaninphcgeaepaaGreatKRs1
import Derived.Test.YtaninphcgeaepaaGreatKRs2
import Derived.Test.YtaninphcgeaepaaGreatKLexm
import Derived.Deep.CutRange
namespace Go.Proofs.YtaninphcgeaepaaGreat
open Go.RowKit
attribute [local go_sem] givesF_none givesF_some evalF_tmp evalF_const evalF_global evalF_func lookL isB_bool isB_undef givesUpon_value givesUpon_skip givesUpon_enter
theorem rbig_at (N W : Int) (n width : Nat) (w : World) (hN : N = n) (hW : W = width) (h1 : 1 ≤ width) (h2 : width ≤ 8) (hn : (n : Int) ≤ 9223372036854775807) : Calls Tryz.prog 103 #[.int .i64 N, .int .i64 W] w fun e w' =>
  (∃ l : List UInt8, l.length = width ∧ e = .returned (.string (str l))) ∧ Below w.heap.size w w' := by
 subst hN hW
 exact rbig_any n width w h1 h2 hn
set_option maxRecDepth 100000 in
set_option maxHeartbeats 4000000 in
theorem rpenc_any (P : Pg) (iv : Value) (w_ : World) (hi : Items w_ iv P.items) (hs : ∀ x ∈ P.items, (x.length : Int) ≤ 140737488355328) (hh : (P.high.length : Int) ≤ 140737488355328) (hl : (P.items.length : Int) ≤ 140737488355328) (hlsn : P.lsn ≤ 9223372036854775807) :
  Calls Tryz.prog 81 #[pgV P iv] w_ (EncPost P w_) := by
 obtain ⟨w0, hw0⟩ : ∃ w0, w0 = w_.alloc (.cells (pgCells P iv).toArray 24) := ⟨_, rfl⟩
 have hg0 : Grow w_ w0 := by subst hw0; exact (Grow.refl w_).alloc _
 have hB0 : Blk w0 w_.heap.size 24 (pgCells P iv) := by subst hw0; exact Blk.new w_ _ _
 have hi0 := Row.fits hi hg0
 have hsz := fun (h : P.items.length ≤ 255) => rsize_any P iv w0 hi0 h hs hh
 obtain ⟨ia, ic, rfl⟩ := items_form hi
 unfold pgCells at hw0 hB0
 unfold pgV at hsz
 have HI := keep hi0
 have HB := keep hB0
 have HSz := keep hsz
 have HS := keep hs
 obtain ⟨p0, p1, p2, p3, p4, p5, _⟩ := pgres hB0
 clear hi hi0 hB0 hsz hs
 unfold pgV
 go_enter Tryz.func81, Tryz.ntmps81
 go_upto_region 1 with fail
 rw [← hw0]
 clear hw0
 go_cut [38] from 6 to 38 (fun v wx => v = .bool (!rangeP P) ∧ wx = w0)
 case first =>
  by_cases hr9 : 4294967295 < P.right
  ·have hF : rangeP P = false := by
    rw [← Bool.not_eq_true]
    unfold rangeP
    simp only [Bool.and_eq_true, decide_eq_true_eq]
    omega
   have HF := keep hF
   clear hF
   go_wp2_with fail
   all_goals go_meet
   all_goals (case rel => exact ⟨by rw [HF.out]; rfl, rfl⟩)
  ·have hB : (0 ≤ P.lsn ∧ 1 ≤ P.kind ∧ P.kind ≤ 3 ∧ 0 ≤ P.level ∧ P.level ≤ 255 ∧ 0 ≤ P.right) ↔ rangeP P = true := by
    unfold rangeP
    simp only [Bool.and_eq_true, decide_eq_true_eq]
    omega
   have HBb := keep hB
   clear hB
   go_wp2_with fail
   all_goals go_meet
   all_goals (case rel => first
    | (have hT : rangeP P = true := HBb.out.1 (by omega)
       rw [hT]
       exact ⟨by (simp <;> omega), rfl⟩)
    | (have hF : rangeP P = false := by
         rw [← Bool.not_eq_true, ← HBb.out]
         omega
       rw [hF]
       exact ⟨rfl, rfl⟩))
 case rest =>
  obtain ⟨rfl, rfl⟩ := hcut
  generalize wc = w0 at *
  cases hr : rangeP P with
  | false =>
   have HEo := keep (show encOk P = false by unfold encOk; rw [hr]; rfl)
   clear hr
   go_wp2_with fail
   go_ret2
   exact ⟨_, _, rfl, by rw [HEo.out]; simp, hg0⟩
  | true =>
   have hrg : 0 ≤ P.lsn ∧ 0 ≤ P.level ∧ 0 ≤ P.right ∧ 1 ≤ P.kind ∧ P.kind ≤ 3 ∧ P.level ≤ 255 ∧ P.right ≤ 4294967295 := by simpa [rangeP, and_assoc] using hr
   have HRg := keep hrg
   have HR := keep hr
   clear hr hrg
   by_cases h1 : P.high.length ≤ 255
   ·have h1' : ¬ (255 : Int) < (P.high.length : Int) := by omega
    by_cases h2 : P.items.length ≤ 255
    ·have h2' : ¬ (255 : Int) < (P.items.length : Int) := by omega
     go_wp2_with fail
     refine (HSz.out h2).mono ?_
     rintro x w1 ⟨rfl, hb1⟩
     by_cases h3 : sizeP P ≤ 512
     ·have h3' : ¬ (512 : Int) < (sizeP P : Int) := by omega
      have heo : encOk P = true := by
       unfold encOk fitsP
       rw [HR.out, decide_eq_true h1, decide_eq_true h2, decide_eq_true h3]
       rfl
      have HEo := keep heo
      have HG1 := keep (Grow.trans hg0 hb1)
      have HB1 := keep (HB.out.fits hb1)
      have HI1 := keep (Row.fits HI.out hb1)
      clear heo hg0 hb1 p0 p1 p2 p3 p4 p5
      go_upto_region 5 with fail
      have HP := keep (fun (u : World) (hu : Grow w1.drew u) => pgres (HB1.out.fits (Grow.undrew hu)))
      refine wp_region_grow_named (by kernel_rfl) 28 (by kernel_rfl) [(54, 0), (55, 1), (56, 2), (57, 3), (58, 4), (59, 5), (60, 6), (61, 7), (62, 8), (63, 9), (64, 10), (65, 11), (66, 12), (67, 13), (68, 14), (69, 15), (70, 16), (71, 17), (72, 18), (73, 19), (74, 20), (75, 21), (76, 22), (77, 23), (78, 24), (79, 25), (80, 26), (81, 27)] (by kernel_rfl) [(0, true), (1, true), (2, true), (3, true), (4, true), (5, true), (6, true), (7, true), (8, true), (9, true), (10, true), (11, true), (12, true), (13, true), (14, true), (15, true), (16, true), (17, true), (18, true), (19, true), (20, true), (21, true), (22, true), (23, true), (24, true), (25, true), (26, true), (27, true)] (by kernel_rfl) rfl rfl ?_
      intro a0 ha0
      have hsz : a0.tmps.size = 117 := (size_at ha0).trans rfl
      have s1 := slot_at ha0 1 rfl
      have HA0 := keep ha0
      clear ha0
      apply lq hsz [] [(56, 2), (57, 3), (58, 4), (59, 5), (60, 6), (61, 7), (62, 8), (63, 9), (64, 10), (65, 11), (66, 12), (67, 13), (68, 14), (69, 15), (70, 16), (71, 17), (72, 18), (73, 19), (74, 20), (75, 21), (76, 22), (77, 23), (78, 24), (79, 25), (80, 26), (81, 27)] none (by kernel_rfl) rfl
      ·intro xs w hw hp K hK
       go_simp
       exact hK _ (Grow.refl _)
      apply lq hsz [(0, true)] [(54, 0), (57, 3), (58, 4), (59, 5), (60, 6), (61, 7), (62, 8), (63, 9), (64, 10), (65, 11), (66, 12), (67, 13), (68, 14), (69, 15), (70, 16), (71, 17), (72, 18), (73, 19), (74, 20), (75, 21), (76, 22), (77, 23), (78, 24), (79, 25), (80, 26), (81, 27)] none (by kernel_rfl) rfl
      ·intro xs w hw hp K hK
       simp only [holdsL, List.nil_append, List.getD_cons_zero, if_true, and_true] at hp
       obtain ⟨p0, p1, p2, p3, p4, p5, _⟩ := HP.out w hw
       go_simp
       exact hK _ (Grow.refl _)
      refine lexf_says hsz (fun v _ => ∃ l : List UInt8, l.length = 8 ∧ v = .string (str l)) (fun _ _ _ _ h => h) [(1, true)] [(54, 0), (55, 1), (57, 3), (58, 4), (61, 7), (62, 8), (63, 9), (64, 10), (65, 11), (66, 12), (67, 13), (68, 14), (69, 15), (70, 16), (71, 17), (72, 18), (73, 19), (74, 20), (75, 21), (76, 22), (77, 23), (78, 24), (79, 25), (80, 26), (81, 27)] none (by kernel_rfl) (by kernel_rfl) (by kernel_rfl) (by kernel_rfl) rfl ?_ ?_
      ·intro xs w hw hp K hK
       simp only [holdsL, List.nil_append, List.cons_append, List.getD_cons_succ, List.getD_cons_zero, if_true, and_true] at hp
       go_simp
       exact (rbig_at P.lsn 8 P.lsn.toNat 8 w (by have := HRg.out; omega) rfl (by omega) (by omega) (by have := HRg.out; omega)).mono fun e w' h => h.1.elim fun l h1 => ⟨_, h1.2, hK _ _ ⟨l, h1.1, rfl⟩ h.2⟩
      apply lq hsz [] [(54, 0), (55, 1), (56, 2), (59, 5), (60, 6), (61, 7), (62, 8), (63, 9), (64, 10), (65, 11), (66, 12), (67, 13), (68, 14), (69, 15), (70, 16), (71, 17), (72, 18), (73, 19), (74, 20), (75, 21), (76, 22), (77, 23), (78, 24), (79, 25), (80, 26), (81, 27)] none (by kernel_rfl) rfl
      ·intro xs w hw hp K hK
       go_simp
       exact hK _ (Grow.refl _)
      apply lq hsz [(3, true)] [(54, 0), (55, 1), (56, 2), (57, 3), (60, 6), (61, 7), (62, 8), (63, 9), (64, 10), (65, 11), (66, 12), (67, 13), (68, 14), (69, 15), (70, 16), (71, 17), (72, 18), (73, 19), (74, 20), (75, 21), (76, 22), (77, 23), (78, 24), (79, 25), (80, 26), (81, 27)] none (by kernel_rfl) rfl
      ·intro xs w hw hp K hK
       simp only [holdsL, List.nil_append, List.cons_append, List.getD_cons_succ, List.getD_cons_zero, if_true, and_true] at hp
       obtain ⟨p0, p1, p2, p3, p4, p5, _⟩ := HP.out w hw
       go_simp
       exact hK _ (Grow.refl _)
      refine lexf_says hsz (fun v _ => ∃ l : List UInt8, l.length = 1 ∧ v = .string (str l)) (fun _ _ _ _ h => h) [(4, true)] [(54, 0), (55, 1), (56, 2), (57, 3), (58, 4), (61, 7), (62, 8), (64, 10), (65, 11), (66, 12), (67, 13), (68, 14), (69, 15), (70, 16), (71, 17), (72, 18), (73, 19), (74, 20), (75, 21), (76, 22), (77, 23), (78, 24), (79, 25), (80, 26), (81, 27)] none (by kernel_rfl) (by kernel_rfl) (by kernel_rfl) (by kernel_rfl) rfl ?_ ?_
      ·intro xs w hw hp K hK
       simp only [holdsL, List.nil_append, List.cons_append, List.getD_cons_succ, List.getD_cons_zero, if_true, and_true] at hp
       go_simp
       exact (rbig_at P.kind 1 P.kind.toNat 1 w (by have := HRg.out; omega) rfl (by omega) (by omega) (by have := HRg.out; omega)).mono fun e w' h => h.1.elim fun l h1 => ⟨_, h1.2, hK _ _ ⟨l, h1.1, rfl⟩ h.2⟩
      refine lexf_says hsz (fun v _ => ∃ l : List UInt8, l.length = 9 ∧ v = .string (str l)) (fun _ _ _ _ h => h) [(2, true), (5, true)] [(54, 0), (55, 1), (56, 2), (57, 3), (58, 4), (59, 5), (61, 7), (62, 8), (63, 9), (65, 11), (66, 12), (67, 13), (68, 14), (69, 15), (70, 16), (71, 17), (72, 18), (73, 19), (74, 20), (75, 21), (76, 22), (77, 23), (78, 24), (79, 25), (80, 26), (81, 27)] none (by kernel_rfl) (by kernel_rfl) (by kernel_rfl) (by kernel_rfl) rfl ?_ ?_
      ·intro xs w hw hp K hK
       simp only [holdsL, List.nil_append, List.cons_append, List.getD_cons_succ, List.getD_cons_zero, if_true, and_true] at hp
       obtain ⟨⟨la, ha, h_a⟩, lb, hb, h_b⟩ := hp
       have hlt : ¬ 9223372036854775807 < la.length + lb.length := by omega
       go_simp
       exact hK _ _ ⟨la ++ lb, by rw [List.length_append]; omega, by rw [str_app]⟩ (Grow.refl _)
      apply lq hsz [] [(54, 0), (55, 1), (56, 2), (57, 3), (58, 4), (59, 5), (60, 6), (63, 9), (64, 10), (65, 11), (66, 12), (67, 13), (68, 14), (69, 15), (70, 16), (71, 17), (72, 18), (73, 19), (74, 20), (75, 21), (76, 22), (77, 23), (78, 24), (79, 25), (80, 26), (81, 27)] none (by kernel_rfl) rfl
      ·intro xs w hw hp K hK
       go_simp
       exact hK _ (Grow.refl _)
      apply lq hsz [(7, true)] [(54, 0), (55, 1), (56, 2), (57, 3), (58, 4), (59, 5), (60, 6), (61, 7), (64, 10), (65, 11), (66, 12), (67, 13), (68, 14), (69, 15), (70, 16), (71, 17), (72, 18), (73, 19), (74, 20), (75, 21), (76, 22), (77, 23), (78, 24), (79, 25), (80, 26), (81, 27)] none (by kernel_rfl) rfl
      ·intro xs w hw hp K hK
       simp only [holdsL, List.nil_append, List.cons_append, List.getD_cons_succ, List.getD_cons_zero, if_true, and_true] at hp
       obtain ⟨p0, p1, p2, p3, p4, p5, _⟩ := HP.out w hw
       go_simp
       exact hK _ (Grow.refl _)
      refine lexf_says hsz (fun v _ => ∃ l : List UInt8, l.length = 1 ∧ v = .string (str l)) (fun _ _ _ _ h => h) [(8, true)] [(54, 0), (55, 1), (56, 2), (57, 3), (58, 4), (59, 5), (60, 6), (61, 7), (62, 8), (65, 11), (66, 12), (68, 14), (69, 15), (70, 16), (71, 17), (72, 18), (73, 19), (74, 20), (75, 21), (76, 22), (77, 23), (78, 24), (79, 25), (80, 26), (81, 27)] none (by kernel_rfl) (by kernel_rfl) (by kernel_rfl) (by kernel_rfl) rfl ?_ ?_
      ·intro xs w hw hp K hK
       simp only [holdsL, List.nil_append, List.cons_append, List.getD_cons_succ, List.getD_cons_zero, if_true, and_true] at hp
       go_simp
       exact (rbig_at P.level 1 P.level.toNat 1 w (by have := HRg.out; omega) rfl (by omega) (by omega) (by have := HRg.out; omega)).mono fun e w' h => h.1.elim fun l h1 => ⟨_, h1.2, hK _ _ ⟨l, h1.1, rfl⟩ h.2⟩
      refine lexf_says hsz (fun v _ => ∃ l : List UInt8, l.length = 10 ∧ v = .string (str l)) (fun _ _ _ _ h => h) [(6, true), (9, true)] [(54, 0), (55, 1), (56, 2), (57, 3), (58, 4), (59, 5), (60, 6), (61, 7), (62, 8), (63, 9), (65, 11), (66, 12), (67, 13), (69, 15), (70, 16), (71, 17), (72, 18), (73, 19), (74, 20), (75, 21), (76, 22), (77, 23), (78, 24), (79, 25), (80, 26), (81, 27)] none (by kernel_rfl) (by kernel_rfl) (by kernel_rfl) (by kernel_rfl) rfl ?_ ?_
      ·intro xs w hw hp K hK
       simp only [holdsL, List.nil_append, List.cons_append, List.getD_cons_succ, List.getD_cons_zero, if_true, and_true] at hp
       obtain ⟨⟨la, ha, h_a⟩, lb, hb, h_b⟩ := hp
       have hlt : ¬ 9223372036854775807 < la.length + lb.length := by omega
       go_simp
       exact hK _ _ ⟨la ++ lb, by rw [List.length_append]; omega, by rw [str_app]⟩ (Grow.refl _)
      apply lq hsz [] [(54, 0), (55, 1), (56, 2), (57, 3), (58, 4), (59, 5), (60, 6), (61, 7), (62, 8), (63, 9), (64, 10), (67, 13), (68, 14), (69, 15), (70, 16), (71, 17), (72, 18), (73, 19), (74, 20), (75, 21), (76, 22), (77, 23), (78, 24), (79, 25), (80, 26), (81, 27)] none (by kernel_rfl) rfl
      ·intro xs w hw hp K hK
       go_simp
       exact hK _ (Grow.refl _)
      apply lq hsz [(11, true)] [(54, 0), (55, 1), (56, 2), (57, 3), (58, 4), (59, 5), (60, 6), (61, 7), (62, 8), (63, 9), (64, 10), (65, 11), (68, 14), (69, 15), (70, 16), (71, 17), (72, 18), (73, 19), (74, 20), (75, 21), (76, 22), (77, 23), (78, 24), (79, 25), (80, 26), (81, 27)] none (by kernel_rfl) rfl
      ·intro xs w hw hp K hK
       simp only [holdsL, List.nil_append, List.cons_append, List.getD_cons_succ, List.getD_cons_zero, if_true, and_true] at hp
       obtain ⟨p0, p1, p2, p3, p4, p5, _⟩ := HP.out w hw
       go_simp
       exact hK _ (Grow.refl _)
      refine lexf_says hsz (fun v _ => ∃ l : List UInt8, l.length = 4 ∧ v = .string (str l)) (fun _ _ _ _ h => h) [(12, true)] [(54, 0), (55, 1), (56, 2), (57, 3), (58, 4), (59, 5), (60, 6), (61, 7), (62, 8), (63, 9), (64, 10), (65, 11), (66, 12), (69, 15), (70, 16), (71, 17), (73, 19), (74, 20), (75, 21), (76, 22), (77, 23), (78, 24), (79, 25), (80, 26), (81, 27)] none (by kernel_rfl) (by kernel_rfl) (by kernel_rfl) (by kernel_rfl) rfl ?_ ?_
      ·intro xs w hw hp K hK
       simp only [holdsL, List.nil_append, List.cons_append, List.getD_cons_succ, List.getD_cons_zero, if_true, and_true] at hp
       go_simp
       exact (rbig_at P.right 4 P.right.toNat 4 w (by have := HRg.out; omega) rfl (by omega) (by omega) (by have := HRg.out; omega)).mono fun e w' h => h.1.elim fun l h1 => ⟨_, h1.2, hK _ _ ⟨l, h1.1, rfl⟩ h.2⟩
      refine lexf_says hsz (fun v _ => ∃ l : List UInt8, l.length = 14 ∧ v = .string (str l)) (fun _ _ _ _ h => h) [(10, true), (13, true)] [(54, 0), (55, 1), (56, 2), (57, 3), (58, 4), (59, 5), (60, 6), (61, 7), (62, 8), (63, 9), (64, 10), (65, 11), (66, 12), (67, 13), (69, 15), (70, 16), (71, 17), (72, 18), (74, 20), (75, 21), (76, 22), (77, 23), (78, 24), (79, 25), (80, 26), (81, 27)] none (by kernel_rfl) (by kernel_rfl) (by kernel_rfl) (by kernel_rfl) rfl ?_ ?_
      ·intro xs w hw hp K hK
       simp only [holdsL, List.nil_append, List.cons_append, List.getD_cons_succ, List.getD_cons_zero, if_true, and_true] at hp
       obtain ⟨⟨la, ha, h_a⟩, lb, hb, h_b⟩ := hp
       have hlt : ¬ 9223372036854775807 < la.length + lb.length := by omega
       go_simp
       exact hK _ _ ⟨la ++ lb, by rw [List.length_append]; omega, by rw [str_app]⟩ (Grow.refl _)
      apply lq hsz [] [(54, 0), (55, 1), (56, 2), (57, 3), (58, 4), (59, 5), (60, 6), (61, 7), (62, 8), (63, 9), (64, 10), (65, 11), (66, 12), (67, 13), (68, 14), (71, 17), (72, 18), (73, 19), (74, 20), (75, 21), (76, 22), (77, 23), (78, 24), (79, 25), (80, 26), (81, 27)] none (by kernel_rfl) rfl
      ·intro xs w hw hp K hK
       go_simp
       exact hK _ (Grow.refl _)
      apply lq hsz [(15, true)] [(54, 0), (55, 1), (56, 2), (57, 3), (58, 4), (59, 5), (60, 6), (61, 7), (62, 8), (63, 9), (64, 10), (65, 11), (66, 12), (67, 13), (68, 14), (69, 15), (72, 18), (73, 19), (74, 20), (75, 21), (76, 22), (77, 23), (78, 24), (79, 25), (80, 26), (81, 27)] none (by kernel_rfl) rfl
      ·intro xs w hw hp K hK
       simp only [holdsL, List.nil_append, List.cons_append, List.getD_cons_succ, List.getD_cons_zero, if_true, and_true] at hp
       obtain ⟨p0, p1, p2, p3, p4, p5, _⟩ := HP.out w hw
       go_simp
       exact hK _ (Grow.refl _)
      apply lq hsz [(16, true)] [(54, 0), (55, 1), (56, 2), (57, 3), (58, 4), (59, 5), (60, 6), (61, 7), (62, 8), (63, 9), (64, 10), (65, 11), (66, 12), (67, 13), (68, 14), (69, 15), (70, 16), (73, 19), (74, 20), (75, 21), (76, 22), (77, 23), (78, 24), (79, 25), (80, 26), (81, 27)] none (by kernel_rfl) rfl
      ·intro xs w hw hp K hK
       simp only [holdsL, List.nil_append, List.cons_append, List.getD_cons_succ, List.getD_cons_zero, if_true, and_true] at hp
       go_simp
       exact hK _ (Grow.refl _)
      refine lexf_says hsz (fun v _ => ∃ l : List UInt8, l.length = 1 ∧ v = .string (str l)) (fun _ _ _ _ h => h) [(17, true)] [(54, 0), (55, 1), (56, 2), (57, 3), (58, 4), (59, 5), (60, 6), (61, 7), (62, 8), (63, 9), (64, 10), (65, 11), (66, 12), (67, 13), (68, 14), (69, 15), (70, 16), (71, 17), (74, 20), (75, 21), (76, 22), (78, 24), (79, 25), (80, 26), (81, 27)] none (by kernel_rfl) (by kernel_rfl) (by kernel_rfl) (by kernel_rfl) rfl ?_ ?_
      ·intro xs w hw hp K hK
       simp only [holdsL, List.nil_append, List.cons_append, List.getD_cons_succ, List.getD_cons_zero, if_true, and_true] at hp
       go_simp
       exact (rbig_at (P.items.length : Int) 1 P.items.length 1 w (by omega) rfl (by omega) (by omega) (by omega)).mono fun e w' h => h.1.elim fun l h1 => ⟨_, h1.2, hK _ _ ⟨l, h1.1, rfl⟩ h.2⟩
      refine lexf_says hsz (fun v _ => ∃ l : List UInt8, l.length = 15 ∧ v = .string (str l)) (fun _ _ _ _ h => h) [(14, true), (18, true)] [(54, 0), (55, 1), (56, 2), (57, 3), (58, 4), (59, 5), (60, 6), (61, 7), (62, 8), (63, 9), (64, 10), (65, 11), (66, 12), (67, 13), (68, 14), (69, 15), (70, 16), (71, 17), (72, 18), (74, 20), (75, 21), (76, 22), (77, 23), (79, 25), (80, 26), (81, 27)] none (by kernel_rfl) (by kernel_rfl) (by kernel_rfl) (by kernel_rfl) rfl ?_ ?_
      ·intro xs w hw hp K hK
       simp only [holdsL, List.nil_append, List.cons_append, List.getD_cons_succ, List.getD_cons_zero, if_true, and_true] at hp
       obtain ⟨⟨la, ha, h_a⟩, lb, hb, h_b⟩ := hp
       have hlt : ¬ 9223372036854775807 < la.length + lb.length := by omega
       go_simp
       exact hK _ _ ⟨la ++ lb, by rw [List.length_append]; omega, by rw [str_app]⟩ (Grow.refl _)
      apply lq hsz [] [(54, 0), (55, 1), (56, 2), (57, 3), (58, 4), (59, 5), (60, 6), (61, 7), (62, 8), (63, 9), (64, 10), (65, 11), (66, 12), (67, 13), (68, 14), (69, 15), (70, 16), (71, 17), (72, 18), (73, 19), (76, 22), (77, 23), (78, 24), (79, 25), (80, 26), (81, 27)] none (by kernel_rfl) rfl
      ·intro xs w hw hp K hK
       go_simp
       exact hK _ (Grow.refl _)
      apply lq hsz [(20, true)] [(54, 0), (55, 1), (56, 2), (57, 3), (58, 4), (59, 5), (60, 6), (61, 7), (62, 8), (63, 9), (64, 10), (65, 11), (66, 12), (67, 13), (68, 14), (69, 15), (70, 16), (71, 17), (72, 18), (73, 19), (74, 20), (77, 23), (78, 24), (79, 25), (80, 26), (81, 27)] none (by kernel_rfl) rfl
      ·intro xs w hw hp K hK
       simp only [holdsL, List.nil_append, List.cons_append, List.getD_cons_succ, List.getD_cons_zero, if_true, and_true] at hp
       obtain ⟨p0, p1, p2, p3, p4, p5, _⟩ := HP.out w hw
       go_simp
       exact hK _ (Grow.refl _)
      apply lq hsz [(21, true)] [(54, 0), (55, 1), (56, 2), (57, 3), (58, 4), (59, 5), (60, 6), (61, 7), (62, 8), (63, 9), (64, 10), (65, 11), (66, 12), (67, 13), (68, 14), (69, 15), (70, 16), (71, 17), (72, 18), (73, 19), (74, 20), (75, 21), (78, 24), (79, 25), (80, 26), (81, 27)] none (by kernel_rfl) rfl
      ·intro xs w hw hp K hK
       simp only [holdsL, List.nil_append, List.cons_append, List.getD_cons_succ, List.getD_cons_zero, if_true, and_true] at hp
       go_simp
       exact hK _ (Grow.refl _)
      refine lexf_says hsz (fun v _ => ∃ l : List UInt8, l.length = 1 ∧ v = .string (str l)) (fun _ _ _ _ h => h) [(22, true)] [(54, 0), (55, 1), (56, 2), (57, 3), (58, 4), (59, 5), (60, 6), (61, 7), (62, 8), (63, 9), (64, 10), (65, 11), (66, 12), (67, 13), (68, 14), (69, 15), (70, 16), (71, 17), (72, 18), (73, 19), (74, 20), (75, 21), (76, 22), (79, 25), (80, 26), (81, 27)] none (by kernel_rfl) (by kernel_rfl) (by kernel_rfl) (by kernel_rfl) rfl ?_ ?_
      ·intro xs w hw hp K hK
       simp only [holdsL, List.nil_append, List.cons_append, List.getD_cons_succ, List.getD_cons_zero, if_true, and_true] at hp
       go_simp
       exact (rbig_at (P.high.length : Int) 1 P.high.length 1 w (by omega) rfl (by omega) (by omega) (by omega)).mono fun e w' h => h.1.elim fun l h1 => ⟨_, h1.2, hK _ _ ⟨l, h1.1, rfl⟩ h.2⟩
      refine lexf_says hsz (fun v _ => ∃ l : List UInt8, l.length = 16 ∧ v = .string (str l)) (fun _ _ _ _ h => h) [(19, true), (23, true)] [(54, 0), (55, 1), (56, 2), (57, 3), (58, 4), (59, 5), (60, 6), (61, 7), (62, 8), (63, 9), (64, 10), (65, 11), (66, 12), (67, 13), (68, 14), (69, 15), (70, 16), (71, 17), (72, 18), (73, 19), (74, 20), (75, 21), (76, 22), (77, 23), (79, 25), (80, 26)] none (by kernel_rfl) (by kernel_rfl) (by kernel_rfl) (by kernel_rfl) rfl ?_ ?_
      ·intro xs w hw hp K hK
       simp only [holdsL, List.nil_append, List.cons_append, List.getD_cons_succ, List.getD_cons_zero, if_true, and_true] at hp
       obtain ⟨⟨la, ha, h_a⟩, lb, hb, h_b⟩ := hp
       have hlt : ¬ 9223372036854775807 < la.length + lb.length := by omega
       go_simp
       exact hK _ _ ⟨la ++ lb, by rw [List.length_append]; omega, by rw [str_app]⟩ (Grow.refl _)
      apply lq hsz [] [(54, 0), (55, 1), (56, 2), (57, 3), (58, 4), (59, 5), (60, 6), (61, 7), (62, 8), (63, 9), (64, 10), (65, 11), (66, 12), (67, 13), (68, 14), (69, 15), (70, 16), (71, 17), (72, 18), (73, 19), (74, 20), (75, 21), (76, 22), (77, 23), (78, 24), (81, 27)] none (by kernel_rfl) rfl
      ·intro xs w hw hp K hK
       go_simp
       exact hK _ (Grow.refl _)
      apply lq hsz [(25, true)] [(54, 0), (55, 1), (56, 2), (57, 3), (58, 4), (59, 5), (60, 6), (61, 7), (62, 8), (63, 9), (64, 10), (65, 11), (66, 12), (67, 13), (68, 14), (69, 15), (70, 16), (71, 17), (72, 18), (73, 19), (74, 20), (75, 21), (76, 22), (77, 23), (78, 24), (79, 25)] none (by kernel_rfl) rfl
      ·intro xs w hw hp K hK
       simp only [holdsL, List.nil_append, List.cons_append, List.getD_cons_succ, List.getD_cons_zero, if_true, and_true] at hp
       obtain ⟨p0, p1, p2, p3, p4, p5, _⟩ := HP.out w hw
       go_simp
       exact hK _ (Grow.refl _)
      refine lexf_says hsz (fun v _ => ∃ l : List UInt8, l.length = 16 + P.high.length ∧ v = .string (str l)) (fun _ _ _ _ h => h) [(24, true), (26, true)] [(54, 0), (55, 1), (56, 2), (57, 3), (58, 4), (59, 5), (60, 6), (61, 7), (62, 8), (63, 9), (64, 10), (65, 11), (66, 12), (67, 13), (68, 14), (69, 15), (70, 16), (71, 17), (72, 18), (73, 19), (74, 20), (75, 21), (76, 22), (77, 23), (78, 24), (79, 25), (80, 26)] none (by kernel_rfl) (by kernel_rfl) (by kernel_rfl) (by kernel_rfl) rfl ?_ ?_
      ·intro xs w hw hp K hK
       simp only [holdsL, List.nil_append, List.cons_append, List.getD_cons_succ, List.getD_cons_zero, if_true, and_true] at hp
       obtain ⟨⟨la, ha, h_a⟩, h_b⟩ := hp
       have hlt : ¬ 9223372036854775807 < 16 + P.high.length := by omega
       go_simp
       exact hK _ _ ⟨la ++ P.high, by rw [List.length_append]; omega, by rw [str_app]⟩ (Grow.refl _)
      intro xs w hw hp
      have ha0 := HA0.out
      clear HA0 hsz s1
      simp only [holdsL, List.nil_append, List.cons_append, List.getD_cons_succ, List.getD_cons_zero, if_true, and_true] at hp
      have h27 := hp.2.2.2.2.2.2.2.2.2.2.2.2.2.2.2.2.2.2.2.2.2.2.2.2.2.2.2
      clear hp
      subst ha0
      simp only [putAll]
      obtain ⟨L0, hL0, h27b⟩ := h27
      rw [h27b]
      have HG5 := keep (Grow.undrew hw)
      have HL0 := keep hL0
      clear hw h27b HP hL0
      go_wp2_with fail
      go_loopw [4, 5] (fun v i wr => ∃ (n : Nat) (L : List UInt8), n ≤ P.items.length ∧ v = .string (str L) ∧ i = .int .i64 n ∧ Kept (L.length = 16 + P.high.length + sumL (P.items.take n)) ∧ Kept (Grow w1 wr)) (fun _ i _ => P.items.length - (intOf i).toNat)
      case atStart => exact ⟨0, L0, Nat.zero_le _, rfl, rfl, keep (by rw [HL0.out]; simp [sumL]), HG5⟩
      case round =>
       obtain ⟨n, L, hn, rfl, rfl, HL, HG⟩ := hrel
       have hll := HL.out
       have hst := sumL_take P.items n
       have hsz : sizeP P = 20 + P.high.length + sumL P.items := rfl
       by_cases hlt : n < P.items.length
       ·obtain ⟨c, off, cap, e, hc⟩ := items_cells HI1.out (by omega)
        simp only [Value.slice.injEq] at e
        obtain ⟨rfl, _, rfl⟩ := e
        have hcell := hc n hlt
        have hstep : sumL (P.items.take (n + 1)) = sumL (P.items.take n) + (2 + P.items[n].length) := by
         rw [List.take_succ_eq_append_getElem hlt, sumL_append]; simp [sumL]
        have hst2 := sumL_take P.items (n + 1)
        rw [hstep] at hst2
        generalize P.items[n] = x at *
        have hx1 : L.length + 2 + x.length ≤ 508 := by omega
        have hnew : L.length + 2 + x.length = 16 + P.high.length + sumL (P.items.take (n + 1)) := by omega
        have HNew := keep hnew
        obtain ⟨p0, p1, p2, p3, p4, p5, _⟩ := pgres (HB1.out.fits HG.out)
        have HP9 := keep (fun (u : World) (hu : Grow wr.drew u) => pgres (HB1.out.fits (Grow.trans HG.out (Grow.undrew hu))))
        have HC9 := keep (fun (u : World) (hu : Grow wr.drew u) => (Below.cell (Grow.trans HG.out (Grow.undrew hu)) (World.block_lt_of_cell? w1 _ hcell)).trans hcell)
        clear hc hcell hstep hst2 hnew hll hst hsz
        go_upto_region 9 with fail
        refine wp_region_grow_named (by kernel_rfl) 15 (by kernel_rfl) [(89, 0), (90, 1), (91, 2), (92, 3), (93, 4), (94, 5), (95, 6), (96, 7), (97, 8), (98, 9), (99, 10), (100, 11), (101, 12), (102, 13), (103, 14)] (by kernel_rfl) [(0, true), (1, true), (2, true), (3, true), (4, true), (5, true), (6, true), (7, true), (8, true), (9, true), (10, true), (11, true), (12, true), (13, true), (14, true)] (by kernel_rfl) rfl rfl ?_
        intro a0 ha0
        have hsz : a0.tmps.size = 117 := (size_at ha0).trans rfl
        have s1 := slot_at ha0 1 rfl
        have s5 := slot_at ha0 5 rfl
        have s4 := slot_at ha0 4 rfl
        have HA0 := keep ha0
        clear ha0
        apply lq hsz [] [(90, 1), (91, 2), (92, 3), (93, 4), (94, 5), (95, 6), (96, 7), (98, 9), (99, 10), (100, 11), (101, 12), (102, 13), (103, 14)] none (by kernel_rfl) rfl
        ·intro xs w hw hp K hK
         go_simp
         exact hK _ (Grow.refl _)
        apply lq hsz [] [(89, 0), (92, 3), (93, 4), (94, 5), (95, 6), (96, 7), (97, 8), (98, 9), (99, 10), (100, 11), (101, 12), (102, 13), (103, 14)] none (by kernel_rfl) rfl
        ·intro xs w hw hp K hK
         go_simp
         exact hK _ (Grow.refl _)
        apply lq hsz [(1, true)] [(89, 0), (90, 1), (92, 3), (94, 5), (95, 6), (96, 7), (97, 8), (98, 9), (99, 10), (100, 11), (101, 12), (102, 13), (103, 14)] none (by kernel_rfl) rfl
        ·intro xs w hw hp K hK
         simp only [holdsL, List.nil_append, List.cons_append, List.getD_cons_succ, List.getD_cons_zero, if_true, and_true] at hp
         obtain ⟨p0, p1, p2, p3, p4, p5, _⟩ := HP9.out w hw
         go_simp
         exact hK _ (Grow.refl _)
        apply lq hsz [] [(89, 0), (90, 1), (91, 2), (94, 5), (95, 6), (96, 7), (97, 8), (98, 9), (99, 10), (100, 11), (101, 12), (102, 13), (103, 14)] none (by kernel_rfl) rfl
        ·intro xs w hw hp K hK
         go_simp
         exact hK _ (Grow.refl _)
        apply lq hsz [(2, true), (3, true)] [(89, 0), (90, 1), (91, 2), (92, 3), (95, 6), (96, 7), (97, 8), (98, 9), (99, 10), (100, 11), (101, 12), (102, 13), (103, 14)] none (by kernel_rfl) rfl
        ·intro xs w hw hp K hK
         simp only [holdsL, List.nil_append, List.cons_append, List.getD_cons_succ, List.getD_cons_zero, if_true, and_true] at hp
         have q1 : n < P.items.length := hlt
         have q2 : (n : Int) < (P.items.length : Int) := by omega
         go_simp
         exact hK _ (Grow.refl _)
        apply lq hsz [(4, true)] [(89, 0), (90, 1), (91, 2), (92, 3), (93, 4), (96, 7), (97, 8), (98, 9), (99, 10), (100, 11), (101, 12), (102, 13), (103, 14)] none (by kernel_rfl) rfl
        ·intro xs w hw hp K hK
         simp only [holdsL, List.nil_append, List.cons_append, List.getD_cons_succ, List.getD_cons_zero, if_true, and_true] at hp
         have c0 := HC9.out w hw
         go_simp
         exact hK _ (Grow.refl _)
        apply lq hsz [(5, true)] [(89, 0), (90, 1), (91, 2), (92, 3), (93, 4), (94, 5), (97, 8), (98, 9), (99, 10), (100, 11), (101, 12), (102, 13), (103, 14)] none (by kernel_rfl) rfl
        ·intro xs w hw hp K hK
         simp only [holdsL, List.nil_append, List.cons_append, List.getD_cons_succ, List.getD_cons_zero, if_true, and_true] at hp
         go_simp
         exact hK _ (Grow.refl _)
        refine lexf_says hsz (fun v _ => ∃ l : List UInt8, l.length = 2 ∧ v = .string (str l)) (fun _ _ _ _ h => h) [(6, true)] [(89, 0), (90, 1), (91, 2), (92, 3), (93, 4), (94, 5), (95, 6), (98, 9), (99, 10), (100, 11), (101, 12), (102, 13), (103, 14)] none (by kernel_rfl) (by kernel_rfl) (by kernel_rfl) (by kernel_rfl) rfl ?_ ?_
        ·intro xs w hw hp K hK
         simp only [holdsL, List.nil_append, List.cons_append, List.getD_cons_succ, List.getD_cons_zero, if_true, and_true] at hp
         go_simp
         exact (rbig_at (x.length : Int) 2 x.length 2 w (by omega) rfl (by omega) (by omega) (by omega)).mono fun e w' h => h.1.elim fun l h1 => ⟨_, h1.2, hK _ _ ⟨l, h1.1, rfl⟩ h.2⟩
        refine lexf_says hsz (fun v _ => ∃ l : List UInt8, l.length = L.length + 2 ∧ v = .string (str l)) (fun _ _ _ _ h => h) [(0, true), (7, true)] [(89, 0), (90, 1), (91, 2), (92, 3), (93, 4), (94, 5), (95, 6), (96, 7), (98, 9), (99, 10), (100, 11), (101, 12), (102, 13)] none (by kernel_rfl) (by kernel_rfl) (by kernel_rfl) (by kernel_rfl) rfl ?_ ?_
        ·intro xs w hw hp K hK
         simp only [holdsL, List.nil_append, List.cons_append, List.getD_cons_succ, List.getD_cons_zero, if_true, and_true] at hp
         obtain ⟨h_a, lb, hb, h_b⟩ := hp
         have hlt : ¬ 9223372036854775807 < L.length + 2 := by omega
         have hlt2 : ¬ 9223372036854775805 < L.length := by omega
         go_simp
         exact hK _ _ ⟨L ++ lb, by rw [List.length_append]; omega, by rw [str_app]⟩ (Grow.refl _)
        apply lq hsz [] [(89, 0), (90, 1), (91, 2), (92, 3), (93, 4), (94, 5), (95, 6), (96, 7), (97, 8), (100, 11), (101, 12), (102, 13), (103, 14)] none (by kernel_rfl) rfl
        ·intro xs w hw hp K hK
         go_simp
         exact hK _ (Grow.refl _)
        apply lq hsz [(9, true)] [(89, 0), (90, 1), (91, 2), (92, 3), (93, 4), (94, 5), (95, 6), (96, 7), (97, 8), (98, 9), (100, 11), (102, 13), (103, 14)] none (by kernel_rfl) rfl
        ·intro xs w hw hp K hK
         simp only [holdsL, List.nil_append, List.cons_append, List.getD_cons_succ, List.getD_cons_zero, if_true, and_true] at hp
         obtain ⟨p0, p1, p2, p3, p4, p5, _⟩ := HP9.out w hw
         go_simp
         exact hK _ (Grow.refl _)
        apply lq hsz [] [(89, 0), (90, 1), (91, 2), (92, 3), (93, 4), (94, 5), (95, 6), (96, 7), (97, 8), (98, 9), (99, 10), (102, 13), (103, 14)] none (by kernel_rfl) rfl
        ·intro xs w hw hp K hK
         go_simp
         exact hK _ (Grow.refl _)
        apply lq hsz [(10, true), (11, true)] [(89, 0), (90, 1), (91, 2), (92, 3), (93, 4), (94, 5), (95, 6), (96, 7), (97, 8), (98, 9), (99, 10), (100, 11), (103, 14)] none (by kernel_rfl) rfl
        ·intro xs w hw hp K hK
         simp only [holdsL, List.nil_append, List.cons_append, List.getD_cons_succ, List.getD_cons_zero, if_true, and_true] at hp
         have q1 : n < P.items.length := hlt
         have q2 : (n : Int) < (P.items.length : Int) := by omega
         go_simp
         exact hK _ (Grow.refl _)
        apply lq hsz [(12, true)] [(89, 0), (90, 1), (91, 2), (92, 3), (93, 4), (94, 5), (95, 6), (96, 7), (97, 8), (98, 9), (99, 10), (100, 11), (101, 12)] none (by kernel_rfl) rfl
        ·intro xs w hw hp K hK
         simp only [holdsL, List.nil_append, List.cons_append, List.getD_cons_succ, List.getD_cons_zero, if_true, and_true] at hp
         have c0 := HC9.out w hw
         go_simp
         exact hK _ (Grow.refl _)
        refine lexf_says hsz (fun v _ => ∃ l : List UInt8, l.length = L.length + 2 + x.length ∧ v = .string (str l)) (fun _ _ _ _ h => h) [(8, true), (13, true)] [(89, 0), (90, 1), (91, 2), (92, 3), (93, 4), (94, 5), (95, 6), (96, 7), (97, 8), (98, 9), (99, 10), (100, 11), (101, 12), (102, 13)] none (by kernel_rfl) (by kernel_rfl) (by kernel_rfl) (by kernel_rfl) rfl ?_ ?_
        ·intro xs w hw hp K hK
         simp only [holdsL, List.nil_append, List.cons_append, List.getD_cons_succ, List.getD_cons_zero, if_true, and_true] at hp
         obtain ⟨⟨la, ha, h_a⟩, h_b⟩ := hp
         have hlt : ¬ 9223372036854775807 < L.length + 2 + x.length := by omega
         go_simp
         exact hK _ _ ⟨la ++ x, by rw [List.length_append]; omega, by rw [str_app]⟩ (Grow.refl _)
        intro xs w hw hp
        have ha0 := HA0.out
        clear HA0 hsz s1 s5 s4
        simp only [holdsL, List.nil_append, List.cons_append, List.getD_cons_succ, List.getD_cons_zero, if_true, and_true] at hp
        have h14 := hp.2.2.2.2.2.2.2.2.2.2.2.2.2.2
        clear hp
        subst ha0
        simp only [putAll]
        obtain ⟨L1, hL1, h14b⟩ := h14
        rw [h14b]
        have HG9 := keep (Grow.trans HG.out (Grow.undrew hw))
        have HL1 := keep hL1
        clear hw h14b HP9 HC9 hL1
        clear p0 p1 p2 p3 p4 p5
        obtain ⟨p0, p1, p2, p3, p4, p5, _⟩ := pgres (HB1.out.fits HG9.out)
        go_wp2_with fail
        go_roundw
        case rel => exact ⟨n + 1, L1, by omega, rfl, by go_num, keep (by rw [HL1.out, HNew.out]), HG9⟩
        case measure => simp [intOf]; omega
       ·have e : P.items.take n = P.items := List.take_of_length_le (by omega)
        rw [e] at hll
        obtain ⟨m, hm⟩ : ∃ m, m = 508 - L.length := ⟨_, rfl⟩
        have hm1 : (508 : Int) - (L.length : Int) = (m : Int) := by omega
        have hm2 : IntKind.i64.wrap ((508 : Int) - (L.length : Int)) = (m : Int) := by rw [hm1]; exact wraps_i64 _ (by omega) (by omega)
        have hml : L.length + m = 508 := by omega
        have HMl := keep hml
        have hlt9 : ¬ 9223372036854775807 < L.length + m := by omega
        clear hm e hll hst hsz hml
        obtain ⟨i0, hi, hz0, hz1, hz2⟩ := info_parts infoU8
        obtain ⟨p0, p1, p2, p3, p4, p5, _⟩ := pgres (HB1.out.fits HG.out)
        go_wp2_with ((at_make; go_must (refine wpList_make_full _ rfl _ _ 140 rfl wr.heap.size 5 i0 (.int .u8 0) 1 Tryz.underlying140 hi hz0 hz1 .i64 .i64 _ _ m rfl rfl rfl rfl (by rw [hz2]; have := HMl.out; omega) (by unfold maxLen; have := HMl.out; omega) (Nat.le_refl _) ?_); intro w5 hown hgrow; have hz : (madeCells (Value.int IntKind.u8 0).cells (m * 1)).toList = bcells (List.replicate m 0) := (by rw [Nat.mul_one]; simp only [bcells, List.map_replicate]; exact toList_madeCells_one _ _); rw [hz] at hown; have hcv := own_convert hown (by simp)))
        rw [str_app]
        have HB5 := keep (HB1.out.fits (Grow.trans HG.out (by exact (Below.refl _ _).grown hgrow (Nat.le_refl _) (by simp))))
        have HG5b := keep (show Grow wr w5 from (Below.refl _ _).grown hgrow (Nat.le_refl _) (by simp))
        clear hown hgrow hz hcv p0 p1 p2 p3 p4 p5
        refine (rsum_any (L ++ List.replicate m 0) w5 (by rw [List.length_append, List.length_replicate]; have := HMl.out; omega)).mono ?_
        rintro x w6 ⟨⟨cc, hcc, rfl⟩, rfl⟩
        have hcw : IntKind.i64.wrap (cc : Int) = (cc : Int) := wraps_i64 _ (by omega) (by omega)
        go_wp2_with fail
        refine (rbig_at cc 4 cc 4 w5 rfl rfl (by omega) (by omega) (by omega)).mono ?_
        rintro x w7 ⟨⟨l9, hl9, rfl⟩, hb7⟩
        have hl8 : (L ++ List.replicate m (0 : UInt8)).length = 508 := by rw [List.length_append, List.length_replicate]; exact HMl.out
        generalize L ++ List.replicate m (0 : UInt8) = L8 at *
        have hlt10 : ¬ 9223372036854775807 < l9.length + L8.length := by omega
        go_wp2_with fail
        go_ret2
        exact ⟨_, _, rfl, by rw [HEo.out]; simp, Grow.trans HG1.out (Grow.trans HG.out (Grow.trans HG5b.out hb7))⟩
     ·have h3' : (512 : Int) < (sizeP P : Int) := by omega
      have HEo := keep (show encOk P = false by unfold encOk fitsP; simp [h3])
      go_wp2_with fail
      go_ret2
      exact ⟨_, _, rfl, by rw [HEo.out]; simp, Grow.trans hg0 hb1⟩
    ·have h2' : (255 : Int) < (P.items.length : Int) := by omega
     have HEo := keep (show encOk P = false by unfold encOk fitsP; simp [h2])
     go_wp2_with fail
     go_ret2
     exact ⟨_, _, rfl, by rw [HEo.out]; simp, hg0⟩
   ·have h1' : (255 : Int) < (P.high.length : Int) := by omega
    have HEo := keep (show encOk P = false by unfold encOk; simp [h1])
    go_wp2_with fail
    go_ret2
    exact ⟨_, _, rfl, by rw [HEo.out]; simp, hg0⟩
end Go.Proofs.YtaninphcgeaepaaGreat
