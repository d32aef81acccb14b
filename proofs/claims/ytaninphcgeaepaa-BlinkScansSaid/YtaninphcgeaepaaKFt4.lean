import Derived.Test.YtaninphcgeaepaaKFt1
import Derived.Test.YtaninphcgeaepaaKFw13
import Derived.Test.YtaninphcgeaepaaKLexm
import Derived.Deep.CutRange
import Derived.Test.YtaninphcgeaepaaKCg6
import Derived.Test.YtaninphcgeaepaaKLexk
namespace Go.Proofs.Ytaninphcgeaepaa
open Go.RowKit
attribute [local go_sem] givesF_none givesF_some evalF_tmp evalF_const evalF_global evalF_func lookL isB_bool isB_undef givesUpon_value givesUpon_skip givesUpon_enter
def FnRel (F : List Pg) (lv : Int) (e : En) (w0 : World) (n i : Value) (wr : World) : Prop := ∃ (k : Nat) (p : Int), k ≤ 10000 ∧ i = .int .i64 k ∧ n = .int .i64 p ∧ Kept (findF F lv e (10000 - k) p = findF F lv e 10000 1) ∧ Kept (Grow w0 wr)
theorem findF_out {F : List Pg} {lv : Int} {e : En} {k : Nat} {p : Int} (hk : k < 10000) (h : p < 1 ∨ (F.length : Int) ≤ p) : findF F lv e (10000 - k) p = 0 := by
 rw [show 10000 - k = (10000 - (k + 1)) + 1 by omega, findF, if_pos h]
theorem findF_in {F : List Pg} {lv : Int} {e : En} {k : Nat} {p : Int} (hk : k < 10000) (h : ¬ (p < 1 ∨ (F.length : Int) ≤ p)) : findF F lv e (10000 - k) p = if (wayN (F.getD p.toNat zeroP) lv e).2.2 ≠ 0 then 0 else if (wayN (F.getD p.toNat zeroP) lv e).2.1 then p else findF F lv e (10000 - (k + 1)) (wayN (F.getD p.toNat zeroP) lv e).1 := by
 rw [show 10000 - k = (10000 - (k + 1)) + 1 by omega, findF, if_neg h]
set_option maxRecDepth 100000 in
set_option maxHeartbeats 4000000 in
theorem finds_any (b fr : Nat) (D : Fr) (lv : Int) (e : En) (w_ : World) (h : ForT b w_ fr D) :
  Calls Try.prog 9 #[.pointer (some ⟨fr, 0, none⟩), .int .i64 lv, enV e] w_ fun x w' => x = .returned (.int .i64 (findF (pgD D) lv e 10000 1)) ∧ Below w_.heap.size w_ w' := by
 have hway := fun (u : World) (hu : Grow w_ u) (q : Nat) (hq : q < D.length) => way_any D[q].1 D[q].2 lv e u (PgFine.within ((h.items D[q] (List.getElem_mem hq)).2) ((h.items D[q] (List.getElem_mem hq)).1.fits hu))
 obtain ⟨v, hb0, ho⟩ := h.tab
 unfold WayPost at hway
 have HWy := keep hway
 have HO := keep ho
 have HE := keep (fun (k : Nat) (p : Int) => @findF_out (pgD D) lv e k p)
 have HI := keep (fun (k : Nat) (p : Int) => @findF_in (pgD D) lv e k p)
 obtain ⟨va, vc, rfl⟩ := own_form ho
 have HFb := keep hb0
 clear hway ho h hb0
 have hF0 : (pgD D).length = D.length := pgD_length D
 have HF0 := keep hF0
 have hgd : ∀ q (hq : q < D.length), (pgD D).getD q zeroP = D[q].1 := fun q hq => pgD_at hq
 have HGd := keep hgd
 clear hF0 hgd
 have hfin : ∃ z, z = findF (pgD D) lv e 10000 1 := ⟨_, rfl⟩
 obtain ⟨z, hz⟩ := hfin
 have HZ := keep hz
 rw [← hz]
 clear hz
 obtain ⟨ek, ep, es⟩ := e
 unfold enV
 obtain ⟨w0, hw0⟩ : ∃ w0, w0 = w_.alloc (.cells #[.string (str ek), .int .i64 ep, .int .i64 es] 36) := ⟨_, rfl⟩
 have hg0 : Grow w_ w0 := by subst hw0; exact (Grow.refl w_).alloc _
 have hE0 : Blk w0 w_.heap.size 36 [.string (str ek), .int .i64 ep, .int .i64 es] := by subst hw0; exact Blk.new w_ _ [_, _, _]
 have HG0 := keep hg0
 have HE0 := keep hE0
 clear hg0 hE0
 go_enter Try.func9, Try.ntmps9
 go_upto_region 1 with fail
 rw [← hw0]
 clear hw0
 go_wp2_with fail
 go_loopw [7, 8] (fun n i wr => FnRel (pgD D) lv (ek, ep, es) w0 n i wr) (fun _ i _ => 10000 - (intOf i).toNat)
 case atStart => exact show FnRel _ _ _ _ _ _ _ from ⟨0, 1, by omega, rfl, rfl, keep rfl, keep (Grow.refl _)⟩
 case round =>
  obtain ⟨k, p, hk, rfl, rfl, HQ, HG⟩ := hrel
  have HGG := keep (Grow.trans HG0.out HG.out)
  have f0 := (HFb.out.fits HGG.out).cell 0 (by simp)
  simp only [List.getElem_cons_zero] at f0
  by_cases hlt : k < 10000
  ·by_cases h1 : p < 1
   ·have eA : decide (p < 1) = true := decide_eq_true h1
    have hq := HE.out k p hlt (.inl h1)
    rw [HQ.out, ← HZ.out] at hq
    have HQ2 := keep hq
    clear hq h1
    go_wp2_with fail
    go_ret
    exact ⟨by rw [HQ2.out]; rfl, HGG.out⟩
   ·have eA : decide (p < 1) = false := decide_eq_false h1
    by_cases h2 : (D.length : Int) ≤ p
    ·have eB : decide ((D.length : Int) ≤ p) = true := decide_eq_true h2
     have hq := HE.out k p hlt (.inr (by rw [HF0.out]; exact h2))
     rw [HQ.out, ← HZ.out] at hq
     have HQ2 := keep hq
     clear hq h1 h2
     go_wp2_with fail
     go_ret
     exact ⟨by rw [HQ2.out]; rfl, HGG.out⟩
    ·obtain ⟨q, rfl⟩ := Int.eq_ofNat_of_zero_le (show 0 ≤ p by omega)
     have hqd : q < D.length := by omega
     have hq := HI.out k (q : Int) hlt (by rw [HF0.out]; omega)
     rw [HQ.out, ← HZ.out, Int.toNat_natCast, HGd.out q hqd] at hq
     have hwq := fun u hu => HWy.out u hu q hqd
     obtain ⟨g, cap, e5, hcap, -, hcl, -⟩ := for_at HO.out hqd
     simp only [Value.slice.injEq] at e5
     obtain ⟨rfl, -, rfl⟩ := e5
     have eB : decide (D.length ≤ q) = false := decide_eq_false (by omega)
     have eA : decide ((q : Int) < 1) = false := eA
     obtain ⟨b0, b1, b2, b3, b4, b5⟩ := hcl
     have hx : ∀ u, Grow wr u → u.cell? ⟨fr, 0, none⟩ = some (.slice (some ⟨g, 0, none⟩) D.length vc) ∧ u.cell? ⟨g, q * 6, none⟩ = some (.int .i64 D[q].1.lsn) ∧ u.cell? ⟨g, q * 6 + 1, none⟩ = some (.int .i64 D[q].1.kind) ∧ u.cell? ⟨g, q * 6 + 2, none⟩ = some (.int .i64 D[q].1.level) ∧ u.cell? ⟨g, q * 6 + 3, none⟩ = some (.int .i64 D[q].1.right) ∧ u.cell? ⟨g, q * 6 + 4, none⟩ = some (.string (str D[q].1.high)) ∧ u.cell? ⟨g, q * 6 + 5, none⟩ = some D[q].2 ∧
       u.cell? ⟨w_.heap.size, 0, none⟩ = some (.string (str ek)) ∧ u.cell? ⟨w_.heap.size, 1, none⟩ = some (.int .i64 ep) ∧ u.cell? ⟨w_.heap.size, 2, none⟩ = some (.int .i64 es) := by
      intro u hu
      have hu2 := Grow.trans HGG.out hu
      have m : ∀ a y, w_.cell? a = some y → u.cell? a = some y := fun a y ha => (hu2.cell (World.block_lt_of_cell? w_ _ ha)).trans ha
      have hE := HE0.out.fits (Grow.trans HG.out hu)
      exact ⟨m _ _ (HFb.out.cell 0 (by simp)), m _ _ b0, m _ _ b1, m _ _ b2, m _ _ b3, m _ _ b4, m _ _ b5, hE.cell 0 (by simp), hE.cell 1 (by simp), hE.cell 2 (by simp)⟩
     clear h1 h2 b0 b1 b2 b3 b4 b5 hcap
     have hwq2 := fun u (hu : Grow wr u) => hwq u (Grow.trans HGG.out hu)
     clear hwq
     generalize D[q] = d at *
     obtain ⟨P, iv⟩ := d
     unfold pgV enV at hwq2
     dsimp only at hx hq hwq2
     generalize wayN P lv (ek, ep, es) = Y at *
     obtain ⟨y1, y2, y3⟩ := Y
     dsimp only at hq hwq2
     have HX := keep hx
     have HW := keep hwq2
     have HQ3 := keep hq
     have HGw := keep HGG.out
     clear hx hwq2 hq HQ HI HE HWy HO HGd HFb HE0 HF0
     go_upto_region 7 with fail
     refine wp_region_grow_named (by kernel_rfl) 16 (by kernel_rfl) [(28, 0), (29, 1), (30, 2), (31, 3), (32, 4), (33, 5), (34, 6), (35, 7), (36, 8), (37, 9), (27, 10), (38, 11), (39, 12), (40, 13), (9, 14), (10, 15)] (by kernel_rfl) [(0, true), (1, true), (2, true), (3, true), (4, true), (5, true), (6, true), (7, true), (8, true), (9, true), (10, true), (11, true), (12, true), (13, true), (14, true), (15, true)] (by kernel_rfl) rfl rfl ?_
     intro a0 ha0
     have hsz : a0.tmps.size = 46 := (size_at ha0).trans rfl
     have s0 := slot_at ha0 0 rfl
     have s1 := slot_at ha0 1 rfl
     have s5 := slot_at ha0 5 rfl
     have s7 := slot_at ha0 7 rfl
     have HA0 := keep ha0
     clear ha0
     apply lq hsz [] [(30, 2), (31, 3), (32, 4), (33, 5), (34, 6), (35, 7), (36, 8), (37, 9), (27, 10), (38, 11), (39, 12), (40, 13)] none (by kernel_rfl) rfl
     ·intro xs w hw hp K hK
      go_simp
      exact hK _ (Grow.refl _)
     apply lq hsz [(0, true)] [(28, 0), (31, 3), (32, 4), (33, 5), (34, 6), (35, 7), (36, 8), (37, 9), (27, 10), (38, 11), (39, 12), (40, 13)] none (by kernel_rfl) rfl
     ·intro xs w hw hp K hK
      simp only [holdsL, List.nil_append, List.getD_cons_zero, if_true, and_true] at hp
      go_simp
      exact hK _ (Grow.refl _)
     apply lq hsz [(1, true)] [(28, 0), (29, 1), (32, 4), (33, 5), (34, 6), (35, 7), (36, 8), (37, 9), (27, 10), (38, 11), (39, 12), (40, 13)] none (by kernel_rfl) rfl
     ·intro xs w hw hp K hK
      simp only [holdsL, List.nil_append, List.cons_append, List.getD_cons_succ, List.getD_cons_zero, if_true, and_true] at hp
      go_simp
      exact hK _ (Grow.refl _)
     apply lq hsz [(2, true)] [(28, 0), (29, 1), (30, 2), (32, 4), (34, 6), (35, 7), (36, 8), (37, 9), (27, 10), (38, 11), (39, 12), (40, 13)] none (by kernel_rfl) rfl
     ·intro xs w hw hp K hK
      simp only [holdsL, List.nil_append, List.cons_append, List.getD_cons_succ, List.getD_cons_zero, if_true, and_true] at hp
      obtain ⟨f0, -⟩ := HX.out w (Grow.undrew hw)
      go_simp
      exact hK _ (Grow.refl _)
     apply lq hsz [] [(28, 0), (29, 1), (30, 2), (31, 3), (34, 6), (35, 7), (36, 8), (37, 9), (27, 10), (38, 11), (39, 12), (40, 13)] none (by kernel_rfl) rfl
     ·intro xs w hw hp K hK
      go_simp
      exact hK _ (Grow.refl _)
     apply lq hsz [(3, true), (4, true)] [(28, 0), (29, 1), (30, 2), (31, 3), (32, 4), (35, 7), (36, 8), (37, 9), (27, 10), (38, 11), (39, 12), (40, 13)] none (by kernel_rfl) rfl
     ·intro xs w hw hp K hK
      simp only [holdsL, List.nil_append, List.cons_append, List.getD_cons_succ, List.getD_cons_zero, if_true, and_true] at hp
      go_simp
      exact hK _ (Grow.refl _)
     apply lq hsz [(5, true)] [(28, 0), (29, 1), (30, 2), (31, 3), (32, 4), (33, 5), (35, 7), (36, 8), (27, 10), (38, 11), (39, 12), (40, 13)] none (by kernel_rfl) rfl
     ·intro xs w hw hp K hK
      simp only [holdsL, List.nil_append, List.cons_append, List.getD_cons_succ, List.getD_cons_zero, if_true, and_true] at hp
      obtain ⟨-, c0, c1, c2, c3, c4, c5, -⟩ := HX.out w (Grow.undrew hw)
      go_simp
      exact hK _ (Grow.refl _)
     apply lq hsz [] [(28, 0), (29, 1), (30, 2), (31, 3), (32, 4), (33, 5), (34, 6), (36, 8), (27, 10), (38, 11), (39, 12), (40, 13)] none (by kernel_rfl) rfl
     ·intro xs w hw hp K hK
      go_simp
      exact hK _ (Grow.refl _)
     apply lq hsz [] [(28, 0), (29, 1), (30, 2), (31, 3), (32, 4), (33, 5), (34, 6), (35, 7), (27, 10), (38, 11), (39, 12), (40, 13)] none (by kernel_rfl) rfl
     ·intro xs w hw hp K hK
      obtain ⟨-, -, -, -, -, -, -, e0, e1, e2⟩ := HX.out w (Grow.undrew hw)
      go_simp
      exact hK _ (Grow.refl _)
     apply lq hsz [(6, true), (7, true), (8, true)] [(28, 0), (29, 1), (30, 2), (31, 3), (32, 4), (33, 5), (34, 6), (35, 7), (36, 8), (38, 11), (39, 12), (40, 13)] none (by kernel_rfl) rfl
     ·intro xs w hw hp K hK
      simp only [holdsL, List.nil_append, List.cons_append, List.getD_cons_succ, List.getD_cons_zero, if_true, and_true] at hp
      go_simp
      refine (HW.out w (Grow.undrew hw)).mono ?_; rintro e w' ⟨rfl, hb⟩; exact ⟨_, rfl, hK _ hb⟩
     apply lq hsz [(9, true)] [(28, 0), (29, 1), (30, 2), (31, 3), (32, 4), (33, 5), (34, 6), (35, 7), (36, 8), (37, 9)] none (by kernel_rfl) rfl
     ·intro xs w hw hp K hK
      simp only [holdsL, List.nil_append, List.cons_append, List.getD_cons_succ, List.getD_cons_zero, if_true, and_true] at hp
      go_simp
      exact hK _ (Grow.refl _)
     apply lq hsz [(10, true)] [(28, 0), (29, 1), (30, 2), (31, 3), (32, 4), (33, 5), (34, 6), (35, 7), (36, 8), (37, 9), (27, 10), (39, 12), (40, 13)] none (by kernel_rfl) rfl
     ·intro xs w hw hp K hK
      simp only [holdsL, List.nil_append, List.cons_append, List.getD_cons_succ, List.getD_cons_zero, if_true, and_true] at hp
      go_simp
      exact hK _ (Grow.refl _)
     apply lq hsz [(10, true)] [(28, 0), (29, 1), (30, 2), (31, 3), (32, 4), (33, 5), (34, 6), (35, 7), (36, 8), (37, 9), (27, 10), (38, 11), (40, 13), (9, 14)] none (by kernel_rfl) rfl
     ·intro xs w hw hp K hK
      simp only [holdsL, List.nil_append, List.cons_append, List.getD_cons_succ, List.getD_cons_zero, if_true, and_true] at hp
      go_simp
      exact hK _ (Grow.refl _)
     apply lq hsz [(10, true)] [(28, 0), (29, 1), (30, 2), (31, 3), (32, 4), (33, 5), (34, 6), (35, 7), (36, 8), (37, 9), (27, 10), (38, 11), (39, 12), (9, 14), (10, 15)] none (by kernel_rfl) rfl
     ·intro xs w hw hp K hK
      simp only [holdsL, List.nil_append, List.cons_append, List.getD_cons_succ, List.getD_cons_zero, if_true, and_true] at hp
      go_simp
      exact hK _ (Grow.refl _)
     apply lq hsz [(11, true)] [(28, 0), (29, 1), (30, 2), (31, 3), (32, 4), (33, 5), (34, 6), (35, 7), (36, 8), (37, 9), (27, 10), (38, 11), (39, 12), (40, 13)] none (by kernel_rfl) rfl
     ·intro xs w hw hp K hK
      simp only [holdsL, List.nil_append, List.cons_append, List.getD_cons_succ, List.getD_cons_zero, if_true, and_true] at hp
      go_simp
      exact hK _ (Grow.refl _)
     apply lq hsz [(12, true)] [(28, 0), (29, 1), (30, 2), (31, 3), (32, 4), (33, 5), (34, 6), (35, 7), (36, 8), (37, 9), (27, 10), (38, 11), (39, 12), (40, 13), (9, 14)] none (by kernel_rfl) rfl
     ·intro xs w hw hp K hK
      simp only [holdsL, List.nil_append, List.cons_append, List.getD_cons_succ, List.getD_cons_zero, if_true, and_true] at hp
      go_simp
      exact hK _ (Grow.refl _)
     intro xs w hw hp
     have ha0 := HA0.out
     clear HA0 hsz s0 s1 s5 s7
     simp only [holdsL, List.nil_append, List.cons_append, List.getD_cons_succ, List.getD_cons_zero, if_true, and_true] at hp
     have h40 := hp.2.2.2.2.2.2.2.2.2.2.2.2.2.1
     have h9 := hp.2.2.2.2.2.2.2.2.2.2.2.2.2.2.1
     have h10 := hp.2.2.2.2.2.2.2.2.2.2.2.2.2.2.2
     clear hp
     subst ha0
     simp only [putAll, h40, h9, h10]
     have HG9 := keep (Grow.trans HGw.out hw.undrew)
     have HG8 := keep (Grow.trans HG.out hw.undrew)
     clear hw h9 h10 h40
     go_frame
     by_cases h3 : y3 = 0
     ·subst h3
      cases y2 with
      | true =>
       have hz : z = (q : Int) := by rw [HQ3.out]; simp
       have HZ3 := keep hz
       clear hz
       go_wp2_with fail
       go_ret
       exact ⟨by rw [HZ3.out]; rfl, HG9.out⟩
      | false =>
       have hz : findF (pgD D) lv (ek, ep, es) (10000 - (k + 1)) y1 = findF (pgD D) lv (ek, ep, es) 10000 1 := by rw [← HZ.out, HQ3.out]; simp
       have HZ3 := keep hz
       clear hz
       go_wp2_with fail
       go_roundw
       case rel => exact show FnRel _ _ _ _ _ _ _ from ⟨k + 1, y1, by omega, by go_num, rfl, HZ3, HG8⟩
       case measure => simp [intOf]; omega
     ·have eC : (y3 != 0) = true := by simpa using h3
      have hz : z = 0 := by rw [HQ3.out]; simp [h3]
      have HZ3 := keep hz
      clear hz h3
      go_wp2_with fail
      go_ret
      exact ⟨by rw [HZ3.out]; rfl, HG9.out⟩
  ·have hk2 : k = 10000 := by omega
   subst hk2
   have hz : z = 0 := by rw [HZ.out, ← HQ.out]; rfl
   have HZ3 := keep hz
   clear hz
   go_wp2_with fail
   go_ret
   exact ⟨by rw [HZ3.out]; rfl, HGG.out⟩
end Go.Proofs.Ytaninphcgeaepaa
namespace Go.Proofs.Ytaninphcgeaepaa
open Go.RowKit
attribute [local go_sem] givesF_none givesF_some evalF_tmp evalF_const evalF_global evalF_func lookL isB_bool isB_undef givesUpon_value givesUpon_skip givesUpon_enter
theorem prk_new (P : Pg) (iv : Value) (kd n : Int) (item : List UInt8) (w_ w0 : World) (h : w0 = ((w_.alloc (.cells (pgCells P iv).toArray 27)).alloc (.cells (recCells kd n (str item)).toArray 50)).alloc (.cells #[.int .i64 0, .int .i64 0, .int .i64 0, .int .i64 0, .string ⟨#[]⟩, .slice none 0 0] 27)) :
  Grow w_ w0 ∧ Blk w0 w_.heap.size 27 (pgCells P iv) ∧ Blk w0 (w_.heap.size + 1) 50 (recCells kd n (str item)) ∧ Blk w0 (w_.heap.size + 2) 27 [.int .i64 0, .int .i64 0, .int .i64 0, .int .i64 0, .string ⟨#[]⟩, .slice none 0 0] := by
 refine ⟨?_, ?_, ?_, ?_⟩
 ·subst h; exact (((Grow.refl w_).alloc _).alloc _).alloc _
 ·have := ((Blk.new w_ 27 (pgCells P iv)).alloc (.cells (recCells kd n (str item)).toArray 50)).alloc (.cells #[.int .i64 0, .int .i64 0, .int .i64 0, .int .i64 0, .string ⟨#[]⟩, .slice none 0 0] 27)
  subst h; exact this
 ·have := (Blk.new (w_.alloc (.cells (pgCells P iv).toArray 27)) 50 (recCells kd n (str item))).alloc (.cells #[.int .i64 0, .int .i64 0, .int .i64 0, .int .i64 0, .string ⟨#[]⟩, .slice none 0 0] 27)
  have e : (w_.alloc (.cells (pgCells P iv).toArray 27)).heap.size = w_.heap.size + 1 := by simp
  rw [e] at this
  subst h; exact this
 ·have := Blk.new ((w_.alloc (.cells (pgCells P iv).toArray 27)).alloc (.cells (recCells kd n (str item)).toArray 50)) 27 [.int .i64 0, .int .i64 0, .int .i64 0, .int .i64 0, .string ⟨#[]⟩, .slice none 0 0]
  have e : ((w_.alloc (.cells (pgCells P iv).toArray 27)).alloc (.cells (recCells kd n (str item)).toArray 50)).heap.size = w_.heap.size + 2 := by simp
  rw [e] at this
  subst h; exact this
set_option maxRecDepth 100000 in
set_option maxHeartbeats 4000000 in
theorem changed_out (P : Pg) (iv : Value) (n : Int) (item : List UInt8) (e : En) (w_ : World) (hin : PgIn w_ iv P) (hs : (item.length : Int) ≤ 140737488355328) (hde : decN item = (e, 0)) :
  Calls Try.prog 26 #[pgV P iv, recV 4 n (str item)] w_ (PgPost (remN P e).1 (remN P e).2 w_) := by
 obtain ⟨w0, hw0⟩ : ∃ w0, w0 = ((w_.alloc (.cells (pgCells P iv).toArray 27)).alloc (.cells (recCells 4 n (str item)).toArray 50)).alloc (.cells #[.int .i64 0, .int .i64 0, .int .i64 0, .int .i64 0, .string ⟨#[]⟩, .slice none 0 0] 27) := ⟨_, rfl⟩
 obtain ⟨hg0, hP0, hC0, hR0⟩ := prk_new P iv 4 n item w_ w0 hw0
 have hdc := fun (u : World) => decode_any item u (by omega)
 have hins := fun (u : World) (hu : Grow w_ u) => remove_fn P iv e u (hin.fits hu)
 have hpo : ∀ (x : Ending) (w' : World), PgPost (remN P e).1 (remN P e).2 w_ x w' ↔ (∃ iv, x = .returned (.tuple #[pgV (remN P e).1 iv, .int .i64 (remN P e).2]) ∧ ItemsC w' iv (remN P e).1.items ∧ Below w_.heap.size w_ w') := fun _ _ => Iff.rfl
 rw [hde] at hdc
 unfold PgPost at hins
 generalize remN P e = Y at *
 obtain ⟨Q, qc⟩ := Y
 obtain ⟨k, p, s⟩ := e
 dsimp only at hdc hins hpo
 unfold pgV at hins
 unfold enV at hdc hins
 dsimp only at hdc hins
 have HDc := keep hdc
 have HIns := keep hins
 have HPo := keep hpo
 have HP0 := keep hP0
 have HC0 := keep hC0
 have HR0 := keep hR0
 have HG0 := keep hg0
 have hz0 := hR0.lt
 clear hdc hins hpo hin hde hg0 hR0
 unfold pgCells recCells at hw0
 unfold pgCells at hP0
 unfold recCells at hC0
 obtain ⟨p0, p1, p2, p3, p4, p5, _⟩ := pgres hP0
 obtain ⟨⟨r0, r1, r2, r3, r4, r5, r6, r7, r8, r9, r10, r11, r12, r13, r14, r15⟩, _⟩ := recres hC0
 clear hP0 hC0
 unfold pgV recV
 go_enter Try.func26, Try.ntmps26
 go_upto_region 1 with fail
 rw [← hw0]
 clear hw0
 go_wp2_with fail
 refine (HDc.out w0).mono ?_
 rintro x w1 ⟨rfl, hb1⟩
 clear p0 p1 p2 p3 p4 p5 r0 r1 r2 r3 r4 r5 r6 r7 r8 r9 r10 r11 r12 r13 r14 r15 HDc
 go_upto_region 7 with fail
 obtain ⟨w2, hw2⟩ : ∃ w2, w2 = w1.alloc (.cells #[.string (str k), .int .i64 p, .int .i64 s] 36) := ⟨_, rfl⟩
 rw [← hw2]
 have hg2 : Grow w0 w2 := by subst hw2; exact Grow.alloc hb1 _
 have hX2 : Blk w2 w1.heap.size 36 [.string (str k), .int .i64 p, .int .i64 s] := by subst hw2; exact Blk.new w1 _ [_, _, _]
 have HG2 := keep hg2
 have hP2 := HP0.out.fits hg2
 have hC2 := HC0.out.fits hg2
 unfold pgCells at hP2
 unfold recCells at hC2
 obtain ⟨p0, p1, p2, p3, p4, p5, _⟩ := pgres hP2
 obtain ⟨⟨r0, r1, r2, r3, r4, r5, r6, r7, r8, r9, r10, r11, r12, r13, r14, r15⟩, _⟩ := recres hC2
 obtain ⟨c0, c1, c2, _⟩ := enres hX2
 clear hw2 hg2 hX2 hP2 hC2 hb1
 go_wp2_with fail
 refine (HIns.out w2 (Grow.trans HG0.out HG2.out)).mono ?_
 rintro x w3 ⟨jv, rfl, hit, hb3⟩
 obtain ⟨ja, jc, rfl⟩ := itemsS_form hit.1
 have HG3 := keep (Grow.trans HG2.out hb3)
 have HR3 := keep (HR0.out.fits HG3.out)
 have HIt3 := keep hit
 clear p0 p1 p2 p3 p4 p5 r0 r1 r2 r3 r4 r5 r6 r7 r8 r9 r10 r11 r12 r13 r14 r15 c0 c1 c2 hb3 hit HIns
 go_wp2_with ((refine wpList_store_pg rfl _ _ rfl (w_.heap.size + 2) _ rfl rfl HR3.out rfl rfl rfl ?_); intro wz hset hbz; have Hset := keep hset; have Hbut := keep hbz; clear hset hbz)
 have hga := Grow.trans HG0.out HG3.out
 refine bodyPost_ret (v := .tuple #[pgV Q (.slice ja Q.items.length jc), .int .i64 qc]) ?_ rfl ((HPo.out _ _).2 ⟨_, rfl, itemsC_but HIt3.out Hbut.out HR3.out (by decide), But.below hga Hbut.out (by omega) hga.size⟩)
 obtain ⟨s0, s1, s2, s3, s4, s5, _⟩ := pgres Hset.out
 simp [results, Try.results26, go_sem, s0, s1, s2, s3, s4, s5, pgV]
set_option maxRecDepth 100000 in
set_option maxHeartbeats 4000000 in
theorem changed_above (P : Pg) (iv : Value) (n : Int) (item : List UInt8) (e : En) (c : Int) (w_ : World) (hin : PgIn w_ iv P) (hs : (item.length : Int) ≤ 140737488355328) (hlv : 0 < P.level) (hde : unsN item = (e, c, 0)) :
  Calls Try.prog 26 #[pgV P iv, recV 3 n (str item)] w_ (PgPost (postN P e c).1 (postN P e c).2 w_) := by
 obtain ⟨w0, hw0⟩ : ∃ w0, w0 = ((w_.alloc (.cells (pgCells P iv).toArray 27)).alloc (.cells (recCells 3 n (str item)).toArray 50)).alloc (.cells #[.int .i64 0, .int .i64 0, .int .i64 0, .int .i64 0, .string ⟨#[]⟩, .slice none 0 0] 27) := ⟨_, rfl⟩
 obtain ⟨hg0, hP0, hC0, hR0⟩ := prk_new P iv 3 n item w_ w0 hw0
 have hdc := fun (u : World) => unsep_any item u (by omega)
 have hins := fun (u : World) (hu : Grow w_ u) => post_any P iv e c u (hin.fits hu)
 have hpo : ∀ (x : Ending) (w' : World), PgPost (postN P e c).1 (postN P e c).2 w_ x w' ↔ (∃ iv, x = .returned (.tuple #[pgV (postN P e c).1 iv, .int .i64 (postN P e c).2]) ∧ ItemsC w' iv (postN P e c).1.items ∧ Below w_.heap.size w_ w') := fun _ _ => Iff.rfl
 rw [hde] at hdc
 unfold PgPost at hins
 generalize postN P e c = Y at *
 obtain ⟨Q, qc⟩ := Y
 obtain ⟨k, p, s⟩ := e
 dsimp only at hdc hins hpo
 unfold pgV at hins
 unfold enV at hdc hins
 dsimp only at hdc hins
 have hlv0 : decide ((0 : Int) < P.level) = true := decide_eq_true hlv
 have HDc := keep hdc
 have HIns := keep hins
 have HPo := keep hpo
 have HP0 := keep hP0
 have HC0 := keep hC0
 have HR0 := keep hR0
 have HG0 := keep hg0
 have hz0 := hR0.lt
 clear hdc hins hpo hin hde hg0 hR0 hlv
 unfold pgCells recCells at hw0
 unfold pgCells at hP0
 unfold recCells at hC0
 obtain ⟨p0, p1, p2, p3, p4, p5, _⟩ := pgres hP0
 obtain ⟨⟨r0, r1, r2, r3, r4, r5, r6, r7, r8, r9, r10, r11, r12, r13, r14, r15⟩, _⟩ := recres hC0
 clear hP0 hC0
 unfold pgV recV
 go_enter Try.func26, Try.ntmps26
 go_upto_region 1 with fail
 rw [← hw0]
 clear hw0
 go_wp2_with fail
 refine (HDc.out w0).mono ?_
 rintro x w1 ⟨rfl, hb1⟩
 clear p0 p1 p2 p3 p4 p5 r0 r1 r2 r3 r4 r5 r6 r7 r8 r9 r10 r11 r12 r13 r14 r15 HDc
 go_upto_region 3 with fail
 obtain ⟨w2, hw2⟩ : ∃ w2, w2 = w1.alloc (.cells #[.string (str k), .int .i64 p, .int .i64 s] 36) := ⟨_, rfl⟩
 rw [← hw2]
 have hg2 : Grow w0 w2 := by subst hw2; exact Grow.alloc hb1 _
 have hX2 : Blk w2 w1.heap.size 36 [.string (str k), .int .i64 p, .int .i64 s] := by subst hw2; exact Blk.new w1 _ [_, _, _]
 have HG2 := keep hg2
 have hP2 := HP0.out.fits hg2
 have hC2 := HC0.out.fits hg2
 unfold pgCells at hP2
 unfold recCells at hC2
 obtain ⟨p0, p1, p2, p3, p4, p5, _⟩ := pgres hP2
 obtain ⟨⟨r0, r1, r2, r3, r4, r5, r6, r7, r8, r9, r10, r11, r12, r13, r14, r15⟩, _⟩ := recres hC2
 obtain ⟨c0, c1, c2, _⟩ := enres hX2
 clear hw2 hg2 hX2 hP2 hC2 hb1
 go_wp2_with fail
 refine (HIns.out w2 (Grow.trans HG0.out HG2.out)).mono ?_
 rintro x w3 ⟨jv, rfl, hit, hb3⟩
 obtain ⟨ja, jc, rfl⟩ := itemsS_form hit.1
 have HG3 := keep (Grow.trans HG2.out hb3)
 have HR3 := keep (HR0.out.fits HG3.out)
 have HIt3 := keep hit
 clear p0 p1 p2 p3 p4 p5 r0 r1 r2 r3 r4 r5 r6 r7 r8 r9 r10 r11 r12 r13 r14 r15 c0 c1 c2 hb3 hit HIns
 go_wp2_with ((refine wpList_store_pg rfl _ _ rfl (w_.heap.size + 2) _ rfl rfl HR3.out rfl rfl rfl ?_); intro wz hset hbz; have Hset := keep hset; have Hbut := keep hbz; clear hset hbz)
 have hga := Grow.trans HG0.out HG3.out
 refine bodyPost_ret (v := .tuple #[pgV Q (.slice ja Q.items.length jc), .int .i64 qc]) ?_ rfl ((HPo.out _ _).2 ⟨_, rfl, itemsC_but HIt3.out Hbut.out HR3.out (by decide), But.below hga Hbut.out (by omega) hga.size⟩)
 obtain ⟨s0, s1, s2, s3, s4, s5, _⟩ := pgres Hset.out
 simp [results, Try.results26, go_sem, s0, s1, s2, s3, s4, s5, pgV]
end Go.Proofs.Ytaninphcgeaepaa
namespace Go.Proofs.Ytaninphcgeaepaa
open Go.RowKit
attribute [local go_sem] givesF_none givesF_some evalF_tmp evalF_const evalF_global evalF_func lookL isB_bool isB_undef givesUpon_value givesUpon_skip givesUpon_enter
def lk14 (j : Nat) : Nat := if j = 14 then 13 else j
def DoesPost (b fr : Nat) (D : Fr) (q : Nat) (Q : Pg) (w : World) (x : Ending) (w' : World) : Prop := x = .returned (.bool true) ∧ (∃ iv, ForT b w' fr (D.set q (Q, iv))) ∧ Fel b w w'
set_option maxRecDepth 100000 in
set_option maxHeartbeats 4000000 in
theorem does_one (bs fr : Nat) (D : Fr) (kd : Int) (q : Nat) (d : List UInt8) (Q : Pg) (w_ : World) (h : ForT bs w_ fr D) (hb : bs ≤ w_.heap.size) (h1 : 1 ≤ q) (hq : q < D.length) (hk5 : (kd == 5) = false) (hf : PgFine Q)
  (hch : ∀ u, Grow w_ u → Calls Try.prog 26 #[pgV D[q].1 D[q].2, recV kd (q : Int) (str d)] u (PgPost Q 0 u)) :
  Calls Try.prog 14 #[.pointer (some ⟨fr, 0, none⟩), recV kd (q : Int) (str d)] w_ (DoesPost bs fr D q Q w_) := by
 obtain ⟨w0, hw0⟩ : ∃ w0, w0 = w_.alloc (.cells (recCells kd (q : Int) (str d)).toArray 50) := ⟨_, rfl⟩
 have hg0 : Grow w_ w0 := by subst hw0; exact (Grow.refl w_).alloc _
 have hC0 : Blk w0 w_.heap.size 50 (recCells kd (q : Int) (str d)) := by subst hw0; exact Blk.new w_ _ _
 have hT0 := h.fits hg0
 obtain ⟨v, hb0, ho⟩ := h.tab
 obtain ⟨g, cap, rfl, hcap, hbg, hcl, -⟩ := for_at ho hq
 have eA : decide ((q : Int) < 1) = false := decide_eq_false (by omega)
 have eB : decide (D.length ≤ q) = false := decide_eq_false (by omega)
 have hfb := hb0.fits hg0
 have f0 := hfb.cell 0 (by simp)
 simp only [List.getElem_cons_zero] at f0
 have HF0 := keep hfb
 have HC0 := keep hC0
 have HT0 := keep hT0
 have HG0 := keep hg0
 have HO := keep ho
 have HCh := keep (fun u (hu : Grow w0 u) => hch u (Grow.trans hg0 hu))
 have HB := keep hb
 have HPf := keep hf
 have hm : ∀ a y, w_.cell? a = some y → ∀ u, Grow w0 u → u.cell? a = some y := fun a y ha u hu => ((Grow.trans hg0 hu).cell (World.block_lt_of_cell? w_ _ ha)).trans ha
 have HCl := keep (fun (u : World) (hu : Grow w0 u) => And.intro (hm _ _ hcl.1 u hu) (And.intro (hm _ _ hcl.2.1 u hu) (And.intro (hm _ _ hcl.2.2.1 u hu) (And.intro (hm _ _ hcl.2.2.2.1 u hu) (And.intro (hm _ _ hcl.2.2.2.2.1 u hu) (hm _ _ hcl.2.2.2.2.2 u hu))))))
 have HCap := keep hcap
 have HBg := keep hbg
 clear hm hcl h hg0 hT0 hb0 ho hch hb hf hcap hbg hfb
 unfold recCells at hC0 hw0
 obtain ⟨⟨r0, r1, r2, r3, r4, r5, r6, r7, r8, r9, r10, r11, r12, r13, r14, r15⟩, _⟩ := recres hC0
 clear hC0
 unfold recV
 go_enter Try.func14, Try.ntmps14
 go_upto_region 1 with fail
 rw [← hw0]
 clear hw0
 go_wp2_with fail
 go_loopw [5] (fun i wr => i = .int .i64 0 ∧ Kept (wr = w0)) (fun _ _ => 0)
 case atStart => exact ⟨rfl, keep rfl⟩
 case round =>
  obtain ⟨rfl, hwr⟩ := hrel
  have hwr := hwr.out
  subst hwr
  go_upto_region 12 with fail
  go_quiet (fail)
  go_upto_region 14 with fail
  obtain ⟨w5, hw5⟩ : ∃ w5, w5 = wr.drewN nq := ⟨_, rfl⟩
  have hg5 : Grow wr w5 := by subst hw5; exact below_drewN (Grow.refl _) _
  rw [← hw5]
  have HG5 := keep hg5
  have hx : ∀ u, Grow wr u → u.cell? ⟨fr, 0, none⟩ = some (.slice (some ⟨g, 0, none⟩) D.length cap) ∧ (u.cell? ⟨w_.heap.size, 0, none⟩ = some (.int .i64 0) ∧ u.cell? ⟨w_.heap.size, 1, none⟩ = some (.int .i64 0) ∧ u.cell? ⟨w_.heap.size, 2, none⟩ = some (.int .i64 0) ∧ u.cell? ⟨w_.heap.size, 3, none⟩ = some (.int .u8 kd) ∧ u.cell? ⟨w_.heap.size, 4, none⟩ = some (.int .i64 0) ∧ u.cell? ⟨w_.heap.size, 5, none⟩ = some (.int .i64 (q : Int)) ∧ u.cell? ⟨w_.heap.size, 6, none⟩ = some (.int .i64 0) ∧ u.cell? ⟨w_.heap.size, 7, none⟩ = some (.int .i64 0) ∧ u.cell? ⟨w_.heap.size, 8, none⟩ = some (.int .i64 0) ∧ u.cell? ⟨w_.heap.size, 9, none⟩ = some (.int .i64 0) ∧ u.cell? ⟨w_.heap.size, 10, none⟩ = some (.string (str d)) ∧ u.cell? ⟨w_.heap.size, 11, none⟩ = some (.slice none 0 0) ∧ u.cell? ⟨w_.heap.size, 12, none⟩ = some (.slice none 0 0) ∧ u.cell? ⟨w_.heap.size, 13, none⟩ = some (.slice none 0 0) ∧ u.cell? ⟨w_.heap.size, 14, none⟩ = some (.slice none 0 0) ∧ u.cell? ⟨w_.heap.size, 15, none⟩ = some (.slice none 0 0)) ∧ u.cell? ⟨g, q * 6, none⟩ = some (.int .i64 D[q].1.lsn) ∧ u.cell? ⟨g, q * 6 + 1, none⟩ = some (.int .i64 D[q].1.kind) ∧ u.cell? ⟨g, q * 6 + 2, none⟩ = some (.int .i64 D[q].1.level) ∧ u.cell? ⟨g, q * 6 + 3, none⟩ = some (.int .i64 D[q].1.right) ∧ u.cell? ⟨g, q * 6 + 4, none⟩ = some (.string (str D[q].1.high)) ∧ u.cell? ⟨g, q * 6 + 5, none⟩ = some D[q].2 := by
   intro u hu
   have hC := HC0.out.fits hu
   unfold recCells at hC
   exact ⟨(HF0.out.fits hu).cell 0 (by simp), (recres hC).1, HCl.out u hu⟩
  have HXr := keep hx
  have HX := keep (fun (u : World) (hu : Fill w5.heap.size 27 (GoodC Q) w5.drew u) => hx u (Grow.trans hg5 (Grow.undrew hu.below)))
  have hch5 := fun (u : World) (hu : Fill w5.heap.size 27 (GoodC Q) w5.drew u) => HCh.out u (Grow.trans hg5 (Grow.undrew hu.below))
  unfold PgPost pgV recV at hch5
  have HCh5 := keep hch5
  clear hch5 hx HCh HCl hw5 hwr f0 r0 r1 r2 r3 r4 r5 r6 r7 r8 r9 r10 r11 r12 r13 r14 r15 hg5
  generalize D[q] = dq at *
  obtain ⟨P, iv⟩ := dq
  dsimp only at HX HCh5 HXr
  refine wp_region_link_named (by kernel_rfl) 15 lk14 (Fill w5.heap.size 27 (GoodC Q)) (Fill.refl _) (fun _ _ _ => Fill.trans (goodC_stays Q)) (by kernel_rfl) (by kernel_rfl) [(90, 0), (91, 1), (92, 2), (93, 3), (94, 4), (95, 5), (96, 6), (97, 7), (98, 8), (99, 9), (89, 10), (100, 11), (101, 12), (7, 13)] (by kernel_rfl) [(0, true), (1, true), (2, true), (3, true), (4, true), (5, true), (6, true), (7, true), (8, true), (9, true), (10, true), (11, true), (12, true), (13, true), (14, true)] (by kernel_rfl) rfl rfl ?_
  intro a0 ha0
  have hsz : a0.tmps.size = 114 := (size_at ha0).trans rfl
  have s0 := slot_at ha0 0 rfl
  have s3 := slot_at ha0 3 rfl
  have HA0 := keep ha0
  clear ha0
  apply lexkf_eq hsz [] [(92, 2), (93, 3), (94, 4), (95, 5), (96, 6), (97, 7), (98, 8), (99, 9), (89, 10), (100, 11), (101, 12), (7, 13)] none (by kernel_rfl) (by kernel_rfl) (by kernel_rfl) (by kernel_rfl) rfl rfl
  ·intro xs w hw hp K hK
   go_simp
   exact hK _ (Fill.refl _)
  apply lexkf_eq hsz [(0, true)] [(90, 0), (93, 3), (94, 4), (95, 5), (96, 6), (97, 7), (98, 8), (99, 9), (89, 10), (100, 11), (101, 12), (7, 13)] none (by kernel_rfl) (by kernel_rfl) (by kernel_rfl) (by kernel_rfl) rfl rfl
  ·intro xs w hw hp K hK
   simp only [holdsK, lk14, reduceIte, Nat.reduceEqDiff, List.nil_append, List.getD_cons_zero, if_true, and_true] at hp
   go_simp
   exact hK _ (Fill.refl _)
  apply lexkf_eq hsz [(1, true)] [(90, 0), (91, 1), (94, 4), (95, 5), (96, 6), (97, 7), (98, 8), (99, 9), (89, 10), (100, 11), (101, 12), (7, 13)] none (by kernel_rfl) (by kernel_rfl) (by kernel_rfl) (by kernel_rfl) rfl rfl
  ·intro xs w hw hp K hK
   simp only [holdsK, lk14, reduceIte, Nat.reduceEqDiff, List.nil_append, List.cons_append, List.getD_cons_succ, List.getD_cons_zero, if_true, and_true] at hp
   go_simp
   exact hK _ (Fill.refl _)
  apply lexkf_eq hsz [(2, true)] [(90, 0), (91, 1), (92, 2), (94, 4), (95, 5), (97, 7), (98, 8), (99, 9), (89, 10), (100, 11), (101, 12), (7, 13)] none (by kernel_rfl) (by kernel_rfl) (by kernel_rfl) (by kernel_rfl) rfl rfl
  ·intro xs w hw hp K hK
   simp only [holdsK, lk14, reduceIte, Nat.reduceEqDiff, List.nil_append, List.cons_append, List.getD_cons_succ, List.getD_cons_zero, if_true, and_true] at hp
   obtain ⟨f0, -⟩ := HX.out w hw
   go_simp
   exact hK _ (Fill.refl _)
  apply lexkf_eq hsz [] [(90, 0), (91, 1), (92, 2), (93, 3), (96, 6), (97, 7), (98, 8), (99, 9), (89, 10), (100, 11), (101, 12), (7, 13)] none (by kernel_rfl) (by kernel_rfl) (by kernel_rfl) (by kernel_rfl) rfl rfl
  ·intro xs w hw hp K hK
   go_simp
   exact hK _ (Fill.refl _)
  apply lexkf_eq hsz [(4, true)] [(90, 0), (91, 1), (92, 2), (93, 3), (94, 4), (97, 7), (98, 8), (99, 9), (89, 10), (100, 11), (101, 12), (7, 13)] none (by kernel_rfl) (by kernel_rfl) (by kernel_rfl) (by kernel_rfl) rfl rfl
  ·intro xs w hw hp K hK
   simp only [holdsK, lk14, reduceIte, Nat.reduceEqDiff, List.nil_append, List.cons_append, List.getD_cons_succ, List.getD_cons_zero, if_true, and_true] at hp
   obtain ⟨-, ⟨r0, r1, r2, r3, r4, r5, r6, r7, r8, r9, r10, r11, r12, r13, r14, r15⟩, -⟩ := HX.out w hw
   go_simp
   exact hK _ (Fill.refl _)
  apply lexkf_eq hsz [(3, true), (5, true)] [(90, 0), (91, 1), (92, 2), (93, 3), (94, 4), (95, 5), (98, 8), (99, 9), (89, 10), (100, 11), (101, 12), (7, 13)] none (by kernel_rfl) (by kernel_rfl) (by kernel_rfl) (by kernel_rfl) rfl rfl
  ·intro xs w hw hp K hK
   simp only [holdsK, lk14, reduceIte, Nat.reduceEqDiff, List.nil_append, List.cons_append, List.getD_cons_succ, List.getD_cons_zero, if_true, and_true] at hp
   go_simp
   exact hK _ (Fill.refl _)
  apply lexkf_eq hsz [(6, true)] [(90, 0), (91, 1), (92, 2), (93, 3), (94, 4), (95, 5), (96, 6), (98, 8), (89, 10), (100, 11), (101, 12), (7, 13)] none (by kernel_rfl) (by kernel_rfl) (by kernel_rfl) (by kernel_rfl) rfl rfl
  ·intro xs w hw hp K hK
   simp only [holdsK, lk14, reduceIte, Nat.reduceEqDiff, List.nil_append, List.cons_append, List.getD_cons_succ, List.getD_cons_zero, if_true, and_true] at hp
   obtain ⟨-, -, c0, c1, c2, c3, c4, c5⟩ := HX.out w hw
   go_simp
   exact hK _ (Fill.refl _)
  apply lexkf_eq hsz [] [(90, 0), (91, 1), (92, 2), (93, 3), (94, 4), (95, 5), (96, 6), (97, 7), (89, 10), (100, 11), (101, 12), (7, 13)] none (by kernel_rfl) (by kernel_rfl) (by kernel_rfl) (by kernel_rfl) rfl rfl
  ·intro xs w hw hp K hK
   obtain ⟨-, ⟨r0, r1, r2, r3, r4, r5, r6, r7, r8, r9, r10, r11, r12, r13, r14, r15⟩, -⟩ := HX.out w hw
   go_simp
   exact hK _ (Fill.refl _)
  refine lexkf_says hsz (fun v u => ∃ iv, v = .tuple #[pgV Q iv, .int .i64 0] ∧ ItemsC u iv Q.items) (fun _ _ _ g h => h.elim fun iv h => ⟨iv, h.1, g.itemsC h.2⟩) [(7, true), (8, true)] [(90, 0), (91, 1), (92, 2), (93, 3), (94, 4), (95, 5), (96, 6), (97, 7), (98, 8), (100, 11), (101, 12), (7, 13)] none (by kernel_rfl) (by kernel_rfl) (by kernel_rfl) (by kernel_rfl) rfl rfl ?_ ?_
  ·intro xs w hw hp K hK
   simp only [holdsK, lk14, reduceIte, Nat.reduceEqDiff, List.nil_append, List.cons_append, List.getD_cons_succ, List.getD_cons_zero, if_true, and_true] at hp
   go_simp
   exact (HCh5.out w hw).mono fun e w' ⟨iv, h1, h2, h3⟩ => ⟨_, h1, hK _ _ ⟨iv, rfl, h2⟩ (Fill.of_grow h3 hw.below.size)⟩
  refine lexkf_says hsz (fun v u => ∃ iv, v = .tuple #[pgV Q iv, .int .i64 0] ∧ ItemsC u iv Q.items) (fun _ _ _ g h => h.elim fun iv h => ⟨iv, h.1, g.itemsC h.2⟩) [(9, true)] [(90, 0), (91, 1), (92, 2), (93, 3), (94, 4), (95, 5), (96, 6), (97, 7), (98, 8), (99, 9), (7, 13)] none (by kernel_rfl) (by kernel_rfl) (by kernel_rfl) (by kernel_rfl) rfl rfl ?_ ?_
  ·intro xs w hw hp K hK
   simp only [holdsK, lk14, reduceIte, Nat.reduceEqDiff, List.nil_append, List.cons_append, List.getD_cons_succ, List.getD_cons_zero, if_true, and_true] at hp
   obtain ⟨iv8, h8, hit⟩ := hp
   go_simp
   exact hK _ _ ⟨iv8, rfl, hit⟩ (Fill.refl _)
  refine lexkf_says hsz (fun v u => ∃ iv, v = pgV Q iv ∧ ItemsC u iv Q.items) (fun _ _ _ g h => h.elim fun iv h => ⟨iv, h.1, g.itemsC h.2⟩) [(10, true)] [(90, 0), (91, 1), (92, 2), (93, 3), (94, 4), (95, 5), (96, 6), (97, 7), (98, 8), (99, 9), (89, 10), (101, 12), (7, 13)] none (by kernel_rfl) (by kernel_rfl) (by kernel_rfl) (by kernel_rfl) rfl rfl ?_ ?_
  ·intro xs w hw hp K hK
   simp only [holdsK, lk14, reduceIte, Nat.reduceEqDiff, List.nil_append, List.cons_append, List.getD_cons_succ, List.getD_cons_zero, if_true, and_true] at hp
   obtain ⟨iv8, h8, hit⟩ := hp
   go_simp
   exact hK _ _ ⟨iv8, rfl, hit⟩ (Fill.refl _)
  refine lexkf_says hsz (fun v _ => v = .int .i64 0) (fun _ _ _ _ h => h) [(10, true)] [(90, 0), (91, 1), (92, 2), (93, 3), (94, 4), (95, 5), (96, 6), (97, 7), (98, 8), (99, 9), (89, 10), (100, 11), (7, 13)] none (by kernel_rfl) (by kernel_rfl) (by kernel_rfl) (by kernel_rfl) rfl rfl ?_ ?_
  ·intro xs w hw hp K hK
   simp only [holdsK, lk14, reduceIte, Nat.reduceEqDiff, List.nil_append, List.cons_append, List.getD_cons_succ, List.getD_cons_zero, if_true, and_true] at hp
   obtain ⟨iv8, h8, hit⟩ := hp
   go_simp
   exact hK _ _ rfl (Fill.refl _)
  refine lexkf_says hsz (fun v u => ∃ b, v = .pointer (some ⟨b, 0, none⟩) ∧ w5.heap.size ≤ b ∧ ∃ a0 a1 a2 a3 a4 a5, Blk u b 27 [a0, a1, a2, a3, a4, a5]) (fun _ _ _ g ⟨b, h1, h2, h3⟩ => ⟨b, h1, h2, fill_six g h3⟩) [] [(90, 0), (91, 1), (92, 2), (93, 3), (94, 4), (95, 5), (96, 6), (97, 7), (98, 8), (99, 9), (89, 10), (100, 11), (101, 12)] none (by kernel_rfl) (by kernel_rfl) (by kernel_rfl) (by kernel_rfl) rfl rfl ?_ ?_
  ·intro xs w hw hp K hK
   go_simp
   exact hK _ _ ⟨_, rfl, hw.below.size, _, _, _, _, _, _, Blk.new w _ [_, _, _, _, _, _]⟩ (Fill.of_grow ((Grow.refl w).alloc _) hw.below.size)
  refine lexkf_link hsz (fun v u => ∃ b, v = .pointer (some ⟨b, 0, none⟩) ∧ w5.heap.size ≤ b ∧ ∃ iv', Blk u b 27 (pgCells Q iv') ∧ ItemsC u iv' Q.items) (fun _ _ _ hg ⟨b, h1, h2, iv', h3, h4⟩ => ⟨b, h1, h2, goodC_lasts hg h3 h4⟩) [(11, true), (13, true)] [(90, 0), (91, 1), (92, 2), (93, 3), (94, 4), (95, 5), (96, 6), (97, 7), (98, 8), (99, 9), (89, 10), (100, 11), (101, 12), (7, 13)] none (by kernel_rfl) (by kernel_rfl) (by kernel_rfl) (by kernel_rfl) rfl (by decide) ?_ ?_
  ·intro xs w hw hp K hK
   simp only [holdsK, lk14, reduceIte, Nat.reduceEqDiff, List.nil_append, List.cons_append, List.getD_cons_succ, List.getD_cons_zero, if_true, and_true] at hp
   obtain ⟨⟨iv', h17, hit⟩, b, h19, hbN, a0_, a1_, a2_, a3_, a4_, a5_, hB⟩ := hp
   obtain ⟨c0, c1, c2, c3, c4, c5, f0, f1, f2, f3, f4, f5⟩ := pgres hB
   obtain ⟨iva', ivc', rfl⟩ := itemsS_form hit.1
   have Hset := keep (pgset hB (.int .i64 Q.lsn) (.int .i64 Q.kind) (.int .i64 Q.level) (.int .i64 Q.right) (.string (str Q.high)) (.slice iva' Q.items.length ivc'))
   have Hbut := keep (pgbut w b (.int .i64 Q.lsn) (.int .i64 Q.kind) (.int .i64 Q.level) (.int .i64 Q.right) (.string (str Q.high)) (.slice iva' Q.items.length ivc'))
   have Hit2 := keep (itemsC_but hit Hbut.out hB (by decide))
   have HB := keep hB
   unfold pgV at h17
   clear hB hit
   go_simp
   exact hK _ _ ⟨b, h19, hbN, _, Hset.out, Hit2.out⟩ (Fill.but (cs' := pgCells Q (.slice iva' Q.items.length ivc')) Hbut.out hbN hw.below.size HB.out rfl Hset.out ⟨_, rfl, Hit2.out⟩)
  intro xs w hw hp
  have ha0 := HA0.out
  clear HA0 hsz s0 s3
  simp only [holdsK, lk14, reduceIte, Nat.reduceEqDiff, List.nil_append, List.cons_append, List.getD_cons_succ, List.getD_cons_zero, if_true, and_true] at hp
  have hM := hp.2.2.2.2.2.2.2.2.2.2.2.2.1
  obtain ⟨b, h19, hbN, ivQ, hQ, hiQ⟩ := hp.2.2.2.2.2.2.2.2.2.2.2.2.2.2
  clear hp
  subst ha0
  simp only [putAll, hM, h19]
  have hwU := hw.undrew
  have HG6 := keep (Grow.trans HG5.out hwU.below)
  obtain ⟨ja, jc, rfl⟩ := itemsS_form hiQ.1
  have HIt6 := keep hiQ
  have HQ6 := keep hQ
  have HbN := keep hbN
  generalize w = w6 at *
  have HX2 := keep (fun (u : World) (hu : Grow w6 u) => (show u.cell? ⟨fr, 0, none⟩ = some (.slice (some ⟨g, 0, none⟩) D.length cap) ∧ u.cell? ⟨w_.heap.size, 5, none⟩ = some (.int .i64 q) ∧ u.cell? ⟨b, 0, none⟩ = some (.int .i64 Q.lsn) ∧ u.cell? ⟨b, 1, none⟩ = some (.int .i64 Q.kind) ∧ u.cell? ⟨b, 2, none⟩ = some (.int .i64 Q.level) ∧ u.cell? ⟨b, 3, none⟩ = some (.int .i64 Q.right) ∧ u.cell? ⟨b, 4, none⟩ = some (.string (str Q.high)) ∧ u.cell? ⟨b, 5, none⟩ = some (.slice ja Q.items.length jc) from
   ⟨(HXr.out u (Grow.trans HG6.out hu)).1, (HXr.out u (Grow.trans HG6.out hu)).2.1.2.2.2.2.2.1, (HQ6.out.fits hu).cell 0 (by simp [pgCells]), (HQ6.out.fits hu).cell 1 (by simp [pgCells]), (HQ6.out.fits hu).cell 2 (by simp [pgCells]), (HQ6.out.fits hu).cell 3 (by simp [pgCells]), (HQ6.out.fits hu).cell 4 (by simp [pgCells]), (HQ6.out.fits hu).cell 5 (by simp [pgCells])⟩))
  clear hw hwU h19 hQ hiQ hM HX HCh5
  go_upto_region 16 with fail
  refine wp_region_grow_named (by kernel_rfl) 8 (by kernel_rfl) [(104, 0), (105, 1), (106, 2), (107, 3), (108, 4), (109, 5), (110, 6), (111, 7)] (by kernel_rfl) [(0, true), (1, true), (2, true), (3, true), (4, true), (5, true), (6, true), (7, true)] (by kernel_rfl) rfl rfl ?_
  intro a0 ha0
  have hsz : a0.tmps.size = 114 := (size_at ha0).trans rfl
  have s0 := slot_at ha0 0 rfl
  have s3 := slot_at ha0 3 rfl
  have s7 := slot_at ha0 7 rfl
  have HA0 := keep ha0
  clear ha0
  apply lq hsz [] [(106, 2), (107, 3), (108, 4), (109, 5), (110, 6)] none (by kernel_rfl) rfl
  ·intro xs w hw hp K hK
   go_simp
   exact hK _ (Grow.refl _)
  apply lq hsz [(0, true)] [(104, 0), (107, 3), (108, 4), (109, 5), (110, 6)] none (by kernel_rfl) rfl
  ·intro xs w hw hp K hK
   simp only [holdsL, List.nil_append, List.getD_cons_zero, if_true, and_true] at hp
   go_simp
   exact hK _ (Grow.refl _)
  apply lq hsz [(1, true)] [(104, 0), (105, 1), (108, 4), (109, 5), (110, 6)] none (by kernel_rfl) rfl
  ·intro xs w hw hp K hK
   simp only [holdsL, List.nil_append, List.cons_append, List.getD_cons_succ, List.getD_cons_zero, if_true, and_true] at hp
   go_simp
   exact hK _ (Grow.refl _)
  apply lq hsz [(2, true)] [(104, 0), (105, 1), (106, 2), (108, 4), (109, 5), (110, 6)] none (by kernel_rfl) rfl
  ·intro xs w hw hp K hK
   simp only [holdsL, List.nil_append, List.cons_append, List.getD_cons_succ, List.getD_cons_zero, if_true, and_true] at hp
   obtain ⟨f0, -⟩ := HX2.out w (Grow.undrew hw)
   go_simp
   exact hK _ (Grow.refl _)
  apply lq hsz [] [(104, 0), (105, 1), (106, 2), (107, 3), (110, 6)] none (by kernel_rfl) rfl
  ·intro xs w hw hp K hK
   go_simp
   exact hK _ (Grow.refl _)
  apply lq hsz [(4, true)] [(104, 0), (105, 1), (106, 2), (107, 3), (108, 4), (110, 6)] none (by kernel_rfl) rfl
  ·intro xs w hw hp K hK
   simp only [holdsL, List.nil_append, List.cons_append, List.getD_cons_succ, List.getD_cons_zero, if_true, and_true] at hp
   obtain ⟨-, r5, -⟩ := HX2.out w (Grow.undrew hw)
   go_simp
   exact hK _ (Grow.refl _)
  apply lq hsz [] [(104, 0), (105, 1), (106, 2), (107, 3), (108, 4), (109, 5)] none (by kernel_rfl) rfl
  ·intro xs w hw hp K hK
   obtain ⟨-, -, p0, p1, p2, p3, p4, p5⟩ := HX2.out w (Grow.undrew hw)
   go_simp
   exact hK _ (Grow.refl _)
  apply lq hsz [(3, true), (5, true)] [(104, 0), (105, 1), (106, 2), (107, 3), (108, 4), (109, 5), (110, 6)] none (by kernel_rfl) rfl
  ·intro xs w hw hp K hK
   simp only [holdsL, List.nil_append, List.cons_append, List.getD_cons_succ, List.getD_cons_zero, if_true, and_true] at hp
   go_simp
   exact hK _ (Grow.refl _)
  intro xs w hw hp
  have ha0 := HA0.out
  clear HA0 hsz s0 s3 s7
  simp only [holdsL, List.nil_append, List.cons_append, List.getD_cons_succ, List.getD_cons_zero, if_true, and_true] at hp
  have h110 := hp.2.2.2.2.2.2.1
  have h111 := hp.2.2.2.2.2.2.2
  clear hp
  subst ha0
  simp only [putAll, h110, h111]
  have hg7 := Grow.trans HG6.out hw.undrew
  have HG7 := keep hg7
  have HGw := keep hw.undrew
  obtain ⟨g', cap', e5, -, -, ⟨c0, c1, c2, c3, c4, c5⟩, hfz⟩ := for_at (owns_fits HO.out (Grow.trans HG0.out hg7)) hq
  simp only [Value.slice.injEq, Option.some.injEq, Addr.mk.injEq, true_and, and_true] at e5
  obtain ⟨rfl, rfl⟩ := e5
  have z0 := hfz (q * 6)
  have z1 := hfz (q * 6 + 1)
  have z2 := hfz (q * 6 + 2)
  have z3 := hfz (q * 6 + 3)
  have z4 := hfz (q * 6 + 4)
  have z5 := hfz (q * 6 + 5)
  clear hw h110 h111 hg7 hfz
  go_frame
  go_wp2_with fail
  go_ret
  have hGG := Grow.trans HG0.out HG7.out
  have k6 := ((((((But.refl g w).setCell (q * 6) (.int .i64 Q.lsn)).setCell (q * 6 + 1) (.int .i64 Q.kind)).setCell (q * 6 + 2) (.int .i64 Q.level)).setCell (q * 6 + 3) (.int .i64 Q.right)).setCell (q * 6 + 4) (.string (str Q.high))).setCell (q * 6 + 5) (.slice ja Q.items.length jc)
  exact ⟨rfl, ⟨_, ForT.set (HT0.out.fits HG7.out) (HF0.out.fits HG7.out) hq (HIt6.out.fits HGw.out) HPf.out⟩, (Fel.of_grow HB.out hGG).trans (Fel.but k6 (own_page_blk (owns_fits HO.out hGG)).choose_spec (.inr rfl) HBg.out (Nat.le_trans HB.out hGG.size))⟩
end Go.Proofs.Ytaninphcgeaepaa
