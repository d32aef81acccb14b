
import Derived.Test.YtikmkimkhngihaaGreatKVq3
/- The document's reader: texts; and its end. -/
namespace Go.Proofs.YtikmkimkhngihaaGreat
open Go.RowKit

attribute [local go_sem] givesF_none givesF_some evalF_tmp evalF_const evalF_global evalF_func lookL isB_bool isB_undef givesUpon_value givesUpon_skip givesUpon_enter

theorem rrnum_any (b : Nat) (l : List UInt8) (most : Int) (x : List UInt8 × Int) (w : World) (h : Rr w b l x) (hs : (l.length : Int) ≤ 4611686018427387904) (hm : 0 ≤ most) :
    Calls Tryz.prog 74 #[.pointer (some ⟨b, 0, none⟩), .int .i64 most] w fun e w' =>
    e = .returned (.int .i64 (rdNum2 most x).1) ∧ Rr w' b l (rdNum2 most x).2 ∧ But b w w' := by
  obtain ⟨y, er⟩ := x
  obtain ⟨a, ha, hr, hd⟩ := h
  dsimp only at hr hd
  unfold rdNum2
  dsimp only
  by_cases he : er = 0
  · subst he
    rw [if_pos rfl, ← hd rfl]
    exact rrnum_ok b l a most w hr hs ha hm
  · rw [if_neg he]
    refine (rrnum_bad b l a er most w hr he).mono ?_
    rintro x w' ⟨rfl, rfl⟩
    exact ⟨rfl, ⟨a, ha, hr, hd⟩, But.refl _ _⟩
theorem rrend_any (b : Nat) (l : List UInt8) (x : List UInt8 × Int) (w : World) (h : Rr w b l x) : Calls Tryz.prog 59 #[.pointer (some ⟨b, 0, none⟩)] w fun e w' =>
    e = .returned (.int .i64 (endE x)) ∧ Grow w w' := by
  obtain ⟨y, er⟩ := x
  obtain ⟨a, ha, hr, hd⟩ := h
  dsimp only at hr hd
  have he : endE (y, er) = rendE l a er := by
    unfold endE rendE
    dsimp only
    by_cases h0 : er = 0
    · have h1 := hd h0
      have h2 : y.length = l.length - a := by rw [← h1, List.length_drop]
      have h3 : (0 < y.length) ↔ ((a : Int) < (l.length : Int)) := by omega
      simp only [h0, true_and, h3]
    · simp [h0]
  rw [he]
  exact rend_any b l a er w hr
theorem extract_mid (l : List UInt8) (a n : Nat) : (str l).extract a (a + n) = str ((l.drop a).take n) := by
  rw [Lib.extract_eq, Nat.add_sub_cancel_left]; rfl

set_option maxRecDepth 100000 in
set_option maxHeartbeats 4000000 in
theorem rrtext_ok (b : Nat) (l : List UInt8) (a0_ : Nat) (most : Int) (w_ : World) (h : Rf w_ b l a0_ 0) (hs : (l.length : Int) ≤ 4611686018427387904) (ha : a0_ ≤ l.length) (hm : 0 ≤ most) : Calls Tryz.prog 57 #[.pointer (some ⟨b, 0, none⟩), .int .i64 most] w_ fun x w' =>
    x = .returned (.string (str (rdTextS most (l.drop a0_)).1)) ∧ Rr w' b l (rdTextS most (l.drop a0_)).2 ∧ But b w_ w' := by
  have hc := rrnum_ok b l a0_ most w_ h hs ha hm
  have hf := rdNumS_facts most (l.drop a0_)
  have ht : rdTextS most (l.drop a0_) = if (rdNumS most (l.drop a0_)).2.2 = 0 then
    if ((rdNumS most (l.drop a0_)).2.1.length : Int) < (rdNumS most (l.drop a0_)).1 then ([], [], 10)
    else ((rdNumS most (l.drop a0_)).2.1.take (rdNumS most (l.drop a0_)).1.toNat, (rdNumS most (l.drop a0_)).2.1.drop (rdNumS most (l.drop a0_)).1.toNat, 0)
    else ([], [], (rdNumS most (l.drop a0_)).2.2) := rfl
  generalize rdTextS most (l.drop a0_) = T at *
  generalize rdNumS most (l.drop a0_) = N at *
  obtain ⟨n, rest, er⟩ := N
  dsimp only at hc hf ht
  obtain ⟨n, rfl⟩ := Int.eq_ofNat_of_zero_le hf.1
  have hz : er ≠ 0 → n = 0 := fun he => by have := (hf.2.2.2.1 he).2; omega
  rw [Int.toNat_natCast] at ht
  have HT := keep ht
  have HC := keep hc
  clear hf ht hc h
  go_enter Tryz.func57, Tryz.ntmps57
  go_wp2_with fail
  refine HC.out.mono ?_
  rintro x w1 ⟨rfl, ⟨a, ha2, hr1, hd⟩, hb1⟩
  have HR1 := keep hr1
  have HB1 := keep hb1
  have HD := keep hd
  dsimp only at hr1
  obtain ⟨c0, c1, c2, f0, f1, f2⟩ := enres hr1
  clear hr1 hb1 hd HC
  go_upto_region 2 with fail
  by_cases he : er = 0
  · subst he
    have hdr := HD.out rfl
    have hrl : rest.length = l.length - a := by rw [← hdr, List.length_drop]
    by_cases hlt : (rest.length : Int) < n
    · have hw5 : IntKind.i64.wrap ((l.length : Int) - (a : Int)) = (l.length : Int) - (a : Int) := wraps_i64 _ (by omega) (by omega)
      have hl2 : (l.length : Int) - (a : Int) < (n : Int) := by omega
      go_quiet (fail)
      go_wp2_with fail
      refine (rwrong_drewN 10 HR1.out _).mono ?_
      rintro x w2 ⟨rfl, hr2, hb2⟩
      have HR2 := keep hr2
      have HB2 := keep hb2
      obtain ⟨c0, c1, c2, f0, f1, f2⟩ := enres hr2
      clear hr2 hb2
      go_wp2_with fail
      go_ret
      rw [HT.out, if_pos (by simp), if_pos hlt]
      exact ⟨rfl, ⟨a, ha2, HR2.out, fun h => by cases h⟩, HB1.out.trans HB2.out⟩
    · have hw5 : IntKind.i64.wrap ((l.length : Int) - (a : Int)) = (l.length : Int) - (a : Int) := wraps_i64 _ (by omega) (by omega)
      have hl2 : ¬ (l.length : Int) - (a : Int) < (n : Int) := by omega
      go_quiet (fail)
      go_upto_region 6 with fail
      generalize hwq : w1.drewN _ = wq at *
      have hRq : Rf wq b l a 0 := by subst hwq; exact HR1.out
      have HGq := keep (show Grow w1 wq by subst hwq; exact below_drewN (Grow.refl _) _)
      have HRq := keep hRq
      have HQ := keep (fun (u : World) (hu : Grow wq.drew u) => enres (Blk.fits hRq (Grow.undrew hu)))
      clear hwq hRq c0 c1 c2 f0 f1 f2 hw5 hl2
      refine wp_region_grow_named (by kernel_rfl) 15 (by kernel_rfl) [(36, 0), (37, 1), (38, 2), (39, 3), (40, 4), (41, 5), (42, 6), (43, 7), (44, 8), (45, 9), (46, 10), (47, 11), (48, 12), (49, 13), (50, 14)] (by kernel_rfl) [(0, true), (1, true), (2, true), (3, true), (4, true), (5, true), (6, true), (7, true), (8, true), (9, true), (10, true), (11, true), (12, true), (13, true), (14, true)] (by kernel_rfl) rfl rfl ?_
      intro a0 ha0
      have hsz : a0.tmps.size = 61 := (size_at ha0).trans rfl
      have s0 := slot_at ha0 0 rfl
      have s5 := slot_at ha0 5 rfl
      have HA0 := keep ha0
      clear ha0
      -- operation 0
      apply lexf_eq hsz [] [(38, 2), (39, 3), (40, 4), (41, 5), (42, 6), (43, 7), (44, 8), (45, 9), (46, 10), (47, 11), (48, 12), (49, 13), (50, 14)] none (by kernel_rfl) (by kernel_rfl) (by kernel_rfl) (by kernel_rfl) rfl
      · intro xs w hw hp K hK
        go_simp
        exact hK _ (Grow.refl _)
      -- operation 1
      apply lexf_eq hsz [(0, true)] [(36, 0), (39, 3), (40, 4), (41, 5), (42, 6), (43, 7), (44, 8), (45, 9), (46, 10), (47, 11), (48, 12), (49, 13), (50, 14)] none (by kernel_rfl) (by kernel_rfl) (by kernel_rfl) (by kernel_rfl) rfl
      · intro xs w hw hp K hK
        simp only [holdsL, List.nil_append, List.getD_cons_zero, if_true, and_true] at hp
        go_simp
        exact hK _ (Grow.refl _)
      -- operation 2
      apply lexf_eq hsz [(1, true)] [(36, 0), (37, 1), (40, 4), (41, 5), (42, 6), (43, 7), (44, 8), (45, 9), (46, 10), (47, 11), (48, 12), (49, 13), (50, 14)] none (by kernel_rfl) (by kernel_rfl) (by kernel_rfl) (by kernel_rfl) rfl
      · intro xs w hw hp K hK
        simp only [holdsL, List.nil_append, List.cons_append, List.getD_cons_succ, List.getD_cons_zero, if_true, and_true] at hp
        obtain ⟨c0, c1, c2, _⟩ := HQ.out w hw
        go_simp
        exact hK _ (Grow.refl _)
      -- operation 3
      apply lexf_eq hsz [(2, true)] [(36, 0), (37, 1), (38, 2), (40, 4), (41, 5), (42, 6), (43, 7), (44, 8), (45, 9), (46, 10), (47, 11), (48, 12), (49, 13)] none (by kernel_rfl) (by kernel_rfl) (by kernel_rfl) (by kernel_rfl) rfl
      · intro xs w hw hp K hK
        simp only [holdsL, List.nil_append, List.cons_append, List.getD_cons_succ, List.getD_cons_zero, if_true, and_true] at hp
        obtain ⟨c0, c1, c2, _⟩ := HQ.out w hw
        go_simp
        exact hK _ (Grow.refl _)
      -- operation 4
      apply lexf_eq hsz [] [(36, 0), (37, 1), (38, 2), (39, 3), (42, 6), (43, 7), (44, 8), (45, 9), (46, 10), (47, 11), (48, 12), (49, 13), (50, 14)] none (by kernel_rfl) (by kernel_rfl) (by kernel_rfl) (by kernel_rfl) rfl
      · intro xs w hw hp K hK
        go_simp
        exact hK _ (Grow.refl _)
      -- operation 5
      apply lexf_eq hsz [(4, true)] [(36, 0), (37, 1), (38, 2), (39, 3), (40, 4), (43, 7), (44, 8), (45, 9), (46, 10), (47, 11), (48, 12), (49, 13), (50, 14)] none (by kernel_rfl) (by kernel_rfl) (by kernel_rfl) (by kernel_rfl) rfl
      · intro xs w hw hp K hK
        simp only [holdsL, List.nil_append, List.cons_append, List.getD_cons_succ, List.getD_cons_zero, if_true, and_true] at hp
        go_simp
        exact hK _ (Grow.refl _)
      -- operation 6
      apply lexf_eq hsz [(5, true)] [(36, 0), (37, 1), (38, 2), (39, 3), (40, 4), (41, 5), (44, 8), (45, 9), (46, 10), (47, 11), (48, 12), (49, 13), (50, 14)] none (by kernel_rfl) (by kernel_rfl) (by kernel_rfl) (by kernel_rfl) rfl
      · intro xs w hw hp K hK
        simp only [holdsL, List.nil_append, List.cons_append, List.getD_cons_succ, List.getD_cons_zero, if_true, and_true] at hp
        obtain ⟨c0, c1, c2, _⟩ := HQ.out w hw
        go_simp
        exact hK _ (Grow.refl _)
      -- operation 7
      apply lexf_eq hsz [(6, true)] [(36, 0), (37, 1), (38, 2), (39, 3), (40, 4), (41, 5), (42, 6), (44, 8), (45, 9), (46, 10), (47, 11), (48, 12), (49, 13)] none (by kernel_rfl) (by kernel_rfl) (by kernel_rfl) (by kernel_rfl) rfl
      · intro xs w hw hp K hK
        simp only [holdsL, List.nil_append, List.cons_append, List.getD_cons_succ, List.getD_cons_zero, if_true, and_true] at hp
        obtain ⟨c0, c1, c2, _⟩ := HQ.out w hw
        go_simp
        exact hK _ (Grow.refl _)
      -- operation 8
      apply lexf_eq hsz [] [(36, 0), (37, 1), (38, 2), (39, 3), (40, 4), (41, 5), (42, 6), (43, 7), (46, 10), (47, 11), (48, 12), (49, 13), (50, 14)] none (by kernel_rfl) (by kernel_rfl) (by kernel_rfl) (by kernel_rfl) rfl
      · intro xs w hw hp K hK
        go_simp
        exact hK _ (Grow.refl _)
      -- operation 9
      apply lexf_eq hsz [(8, true)] [(36, 0), (37, 1), (38, 2), (39, 3), (40, 4), (41, 5), (42, 6), (43, 7), (44, 8), (47, 11), (48, 12), (49, 13), (50, 14)] none (by kernel_rfl) (by kernel_rfl) (by kernel_rfl) (by kernel_rfl) rfl
      · intro xs w hw hp K hK
        simp only [holdsL, List.nil_append, List.cons_append, List.getD_cons_succ, List.getD_cons_zero, if_true, and_true] at hp
        go_simp
        exact hK _ (Grow.refl _)
      -- operation 10
      apply lexf_eq hsz [(9, true)] [(36, 0), (37, 1), (38, 2), (39, 3), (40, 4), (41, 5), (42, 6), (43, 7), (44, 8), (45, 9), (48, 12), (49, 13), (50, 14)] none (by kernel_rfl) (by kernel_rfl) (by kernel_rfl) (by kernel_rfl) rfl
      · intro xs w hw hp K hK
        simp only [holdsL, List.nil_append, List.cons_append, List.getD_cons_succ, List.getD_cons_zero, if_true, and_true] at hp
        obtain ⟨c0, c1, c2, _⟩ := HQ.out w hw
        go_simp
        exact hK _ (Grow.refl _)
      -- operation 11
      apply lexf_eq hsz [(10, true)] [(36, 0), (37, 1), (38, 2), (39, 3), (40, 4), (41, 5), (42, 6), (43, 7), (44, 8), (45, 9), (46, 10), (48, 12), (50, 14)] none (by kernel_rfl) (by kernel_rfl) (by kernel_rfl) (by kernel_rfl) rfl
      · intro xs w hw hp K hK
        simp only [holdsL, List.nil_append, List.cons_append, List.getD_cons_succ, List.getD_cons_zero, if_true, and_true] at hp
        obtain ⟨c0, c1, c2, _⟩ := HQ.out w hw
        go_simp
        exact hK _ (Grow.refl _)
      -- operation 12
      apply lexf_eq hsz [] [(36, 0), (37, 1), (38, 2), (39, 3), (40, 4), (41, 5), (42, 6), (43, 7), (44, 8), (45, 9), (46, 10), (47, 11), (50, 14)] none (by kernel_rfl) (by kernel_rfl) (by kernel_rfl) (by kernel_rfl) rfl
      · intro xs w hw hp K hK
        go_simp
        exact hK _ (Grow.refl _)
      -- operation 13
      apply lexf_eq hsz [(11, true), (12, true)] [(36, 0), (37, 1), (38, 2), (39, 3), (40, 4), (41, 5), (42, 6), (43, 7), (44, 8), (45, 9), (46, 10), (47, 11), (48, 12)] none (by kernel_rfl) (by kernel_rfl) (by kernel_rfl) (by kernel_rfl) rfl
      · intro xs w hw hp K hK
        simp only [holdsL, List.nil_append, List.cons_append, List.getD_cons_succ, List.getD_cons_zero, if_true, and_true] at hp
        have q1 : IntKind.i64.wrap ((a : Int) + (n : Int)) = ((a : Int) + (n : Int)) := wraps_i64 _ (by omega) (by omega)
        go_simp
        exact hK _ (Grow.refl _)
      -- operation 14
      apply lexf_eq hsz [(3, true), (7, true), (13, true)] [(36, 0), (37, 1), (38, 2), (39, 3), (40, 4), (41, 5), (42, 6), (43, 7), (44, 8), (45, 9), (46, 10), (47, 11), (48, 12), (49, 13)] none (by kernel_rfl) (by kernel_rfl) (by kernel_rfl) (by kernel_rfl) rfl
      · intro xs w hw hp K hK
        simp only [holdsL, List.nil_append, List.cons_append, List.getD_cons_succ, List.getD_cons_zero, if_true, and_true] at hp
        have q1 : (a : Int) + (n : Int) ≤ (l.length : Int) := by omega
        have q2 : (a : Int) ≤ (a : Int) + (n : Int) := by omega
        have q3 : a + n ≤ l.length := by omega
        go_simp
        exact hK _ (Grow.refl _)
      intro xs w hw hp
      have ha0 := HA0.out
      clear HA0 hsz s0 s5
      simp only [holdsL, List.nil_append, List.cons_append, List.getD_cons_succ, List.getD_cons_zero, if_true, and_true] at hp
      have h14 := hp.2.2.2.2.2.2.2.2.2.2.2.2.2.2
      clear hp
      subst ha0
      simp only [putAll, h14]
      have HG := keep (Grow.trans HGq.out (Grow.undrew hw))
      have HRw := keep (Blk.fits HRq.out (Grow.undrew hw))
      clear hw h14 HQ HGq HRq
      obtain ⟨c0, c1, c2, f0, f1, f2⟩ := enres HRw.out
      have hw6 : IntKind.i64.wrap ((a : Int) + (n : Int)) = (a : Int) + (n : Int) := wraps_i64 _ (by omega) (by omega)
      go_wp2_with fail
      go_ret
      rw [HT.out, if_pos (by simp), if_neg (by omega), ← hdr]
      refine ⟨?_, ⟨a + n, by omega, ?_, fun _ => by rw [List.drop_drop]⟩, HB1.out.trans ((But.of_below HG.out).trans ((But.refl b w).setCell 1 _))⟩
      · dsimp only
        rw [← extract_mid]
        rfl
      · have hr := Blk.set HRw.out 1 (.int .i64 ((a : Int) + (n : Int)))
        unfold Rf
        rw [Int.natCast_add]
        exact hr
  · have hn0 := hz he
    subst hn0
    go_quiet (fail)
    go_wp2_with fail
    go_ret
    rw [HT.out, if_neg he]
    exact ⟨rfl, ⟨a, ha2, HR1.out, fun h => absurd h he⟩, HB1.out.trans (But.drewN (But.refl b w1))⟩
theorem Rr.set_other {w : World} {b : Nat} {l : List UInt8} {x : List UInt8 × Int} (h : Rr w b l x) (a : Addr) (ha : b ≠ a.block) (v : Value) : Rr (w.setCell a v) b l x := by
  obtain ⟨i, h1, h2, h3⟩ := h
  exact ⟨i, h1, Blk.set_other h2 a ha v, h3⟩
theorem Rr.fits {w w' : World} {b : Nat} {l : List UInt8} {x : List UInt8 × Int} (h : Rr w b l x) (g : Grow w w') : Rr w' b l x := by
  obtain ⟨i, h1, h2, h3⟩ := h
  exact ⟨i, h1, Blk.fits h2 g, h3⟩
theorem rrtext_any (b : Nat) (l y : List UInt8) (most : Int) (w : World) (h : Rr w b l (y, 0)) (hs : (l.length : Int) ≤ 4611686018427387904) (hm : 0 ≤ most) : Calls Tryz.prog 57 #[.pointer (some ⟨b, 0, none⟩), .int .i64 most] w fun x w' =>
    x = .returned (.string (str (rdTextS most y).1)) ∧ Rr w' b l (rdTextS most y).2 ∧ But b w w' := by
  obtain ⟨a, ha, hr, hd⟩ := h
  have h1 : l.drop a = y := hd rfl
  rw [← h1]
  exact rrtext_ok b l a most w hr hs ha hm
theorem Below.step {B b : Nat} {u w w' : World} (h : Below B u w) (k : But b w w') (hb : B ≤ b) (hB : B ≤ w.heap.size) : Below B u w' := But.below h k hb hB

end Go.Proofs.YtikmkimkhngihaaGreat
