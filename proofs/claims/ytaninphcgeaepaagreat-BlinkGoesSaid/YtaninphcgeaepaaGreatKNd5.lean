import Derived.Test.YtaninphcgeaepaaGreatKEqe
/- node.Unsep. -/
namespace Go.Proofs.YtaninphcgeaepaaGreat
open Go.RowKit
attribute [local go_sem] gives givesUpon_value givesUpon_skip givesUpon_enter
attribute [local simp] neq_least
attribute [local go_sem] guard_entry

/-- What a separator's bytes say, or the least, 0 and what is wrong. -/
def unsOk (l : List UInt8) : Bool := decide (endE ((takeC l).2.1, (takeC l).2.2) = 0) && (inB (takeC l).1 1 65535 && (decide (partE l = leastE) || enOk (partE l)))
def unsN (l : List UInt8) : En × Int × Int := if unsOk l then (partE l, (takeC l).1, 0) else (leastE, 0, 140)

set_option maxRecDepth 100000 in
set_option maxHeartbeats 2000000 in
theorem unsep_1 (l : List UInt8) (w_ : World) (hs : (l.length : Int) ≤ 9223372036854775807)
    (hE0 : endE ((takeC l).2.1, (takeC l).2.2) ≠ 0) :
    Calls Tryz.prog 48 #[.string (str l)] w_ fun x w' => x = .returned (.tuple #[enV (unsN l).1, .int .i64 (unsN l).2.1, .int .i64 (unsN l).2.2]) ∧ Below w_.heap.size w_ w' := by
  obtain ⟨w0, hw0⟩ : ∃ w0, w0 = (w_.alloc (.cells #[.string ⟨#[]⟩, .int .i64 0, .int .i64 0] 41)) := ⟨_, rfl⟩
  have hg0 : Grow w_ w0 := by subst hw0; exact (Grow.refl w_).alloc _
  have hR0 : Blk w0 w_.heap.size 41 [.string ⟨#[]⟩, .int .i64 0, .int .i64 0] := by subst hw0; exact Blk.new w_ _ [_, _, _]
  have hz0 : w_.heap.size < w0.heap.size := hR0.lt
  have h1 := takeK_le l
  have h2 := takeP_le l
  have h3 := takeS_le l
  have h4 := takeC_le l
  have hd : unsN l = if decide (endE ((takeC l).2.1, (takeC l).2.2) = 0) && (inB (takeC l).1 1 65535 && (decide (((takeK l).1, (takeP l).1, (takeS l).1) = leastE) || enOk ((takeK l).1, (takeP l).1, (takeS l).1))) then (((takeK l).1, (takeP l).1, (takeS l).1), (takeC l).1, 0) else (leastE, 0, 140) := rfl
  have hK := fun u b (h : Rd u b (str l) 0) => rdText_ok b (str l) 24 u h (by unfold maxLen; simp; omega) (by decide)
  have hP := fun u b (h : Rd u b (str (takeK l).2.1) (takeK l).2.2) => rdNum_any b 65535 ((takeK l).2.1, (takeK l).2.2) u h (by dsimp only; omega) (by decide)
  have hS := fun u b (h : Rd u b (str (takeP l).2.1) (takeP l).2.2) => rdNum_any b 65535 ((takeP l).2.1, (takeP l).2.2) u h (by dsimp only; omega) (by decide)
  have hC := fun u b (h : Rd u b (str (takeS l).2.1) (takeS l).2.2) => rdNum_any b 65535 ((takeS l).2.1, (takeS l).2.2) u h (by dsimp only; omega) (by decide)
  have hE := fun u b (h : Rd u b (str (takeC l).2.1) (takeC l).2.2) => rdEnd b (str (takeC l).2.1) (takeC l).2.2 u h
  have hee : (if (takeC l).2.2 = 0 ∧ 0 < (str (takeC l).2.1).size then (12 : Int) else (takeC l).2.2) = endE ((takeC l).2.1, (takeC l).2.2) := rfl
  simp only [str_toList] at hK
  rw [hee] at hE
  change ∀ u b, Rd u b (str (takeK l).2.1) (takeK l).2.2 → Calls _ _ _ _ (fun e w' => e = .returned (.int .i64 (takeP l).1) ∧ Rd w' b (str (takeP l).2.1) (takeP l).2.2 ∧ But b u w') at hP
  change ∀ u b, Rd u b (str (takeP l).2.1) (takeP l).2.2 → Calls _ _ _ _ (fun e w' => e = .returned (.int .i64 (takeS l).1) ∧ Rd w' b (str (takeS l).2.1) (takeS l).2.2 ∧ But b u w') at hS
  change ∀ u b, Rd u b (str (takeS l).2.1) (takeS l).2.2 → Calls _ _ _ _ (fun e w' => e = .returned (.int .i64 (takeC l).1) ∧ Rd w' b (str (takeC l).2.1) (takeC l).2.2 ∧ But b u w') at hC
  change ∀ u b, Rd u b (str l) 0 → Calls _ _ _ _ (fun e w' => e = .returned (.string (str (takeK l).1)) ∧ Rd w' b (str (takeK l).2.1) (takeK l).2.2 ∧ But b u w') at hK
  clear hee h1 h2 h3 h4
  generalize endE ((takeC l).2.1, (takeC l).2.2) = EE at *
  generalize takeC l = C at *
  generalize takeS l = S at *
  generalize takeP l = P at *
  generalize takeK l = K at *
  obtain ⟨k, kr, ke⟩ := K
  obtain ⟨p, pr, pe⟩ := P
  obtain ⟨s, sr, se⟩ := S
  obtain ⟨c, cr, ce⟩ := C
  dsimp only at hd hK hP hS hC hE
  have hd2 : unsN l = (leastE, 0, 140) := by rw [hd, decide_eq_false hE0]; rfl
  have HD2 := keep hd2
  clear hd hd2
  have HK := keep hK
  have HP := keep hP
  have HS := keep hS
  have HE := keep hE
  have HCn := keep hC
  clear hK hP hS hC hE
  go_enter Tryz.func48, Tryz.ntmps48
  go_upto_region 1 with fail
  rw [← hw0]
  clear hw0
  go_wp2_with fail
  refine (rdRead (str l) w0).mono ?_
  rintro x w1 ⟨rfl, hw1⟩
  have hg1 : Grow w0 w1 := by subst hw1; exact (Grow.refl _).alloc _
  have hD1 : Rd w1 w0.heap.size (str l) 0 := by subst hw1; exact Blk.new w0 _ [_, _]
  clear hw1
  have hR1 := hR0.fits hg1
  go_wp2_with fail
  refine (HK.out w1 _ hD1).mono ?_
  rintro x w2 ⟨rfl, hD2, hb2⟩
  have hR2 := hR1.but hb2 (by omega)
  go_wp2_with fail
  refine (HP.out w2 _ hD2).mono ?_
  rintro x w3 ⟨rfl, hD3, hb3⟩
  have hR3 := hR2.but hb3 (by omega)
  go_wp2_with fail
  refine (HS.out w3 _ hD3).mono ?_
  rintro x w4 ⟨rfl, hD4, hb4⟩
  have hR4 := hR3.but hb4 (by omega)
  have hbt : But w0.heap.size w1 w4 := (hb2.trans hb3).trans hb4
  have hg4 : Below w_.heap.size w_ w4 := But.below (Below.trans hg0 (hg1.mono (by omega))) hbt (by omega) (by have := hR1.lt; omega)
  clear hD1 hD2 hD3 hb2 hb3 hb4 hR1 hR2 hR3 hR0 hg0 hg1 hbt
  go_upto_region 3 with fail
  obtain ⟨w5, hw5⟩ : ∃ w5, w5 = w4.alloc (.cells #[.string (str k), .int .i64 p, .int .i64 s] 41) := ⟨_, rfl⟩
  rw [← hw5]
  have hg5 : Grow w4 w5 := by subst hw5; exact (Grow.refl _).alloc _
  have hN5 : Blk w5 w4.heap.size 41 [.string (str k), .int .i64 p, .int .i64 s] := by subst hw5; exact Blk.new w4 _ [_, _, _]
  have hD5 : Rd w5 w0.heap.size (str sr) se := Blk.fits hD4 hg5
  have hR5 := hR4.fits hg5
  have hlt4 := hD4.lt
  have hgg : Grow w_ w5 := Below.trans hg4 (hg5.mono (by have := hR4.lt; omega))
  clear hw5 hg5 hR4 hg4
  go_wp2_with fail
  refine (HCn.out w5 _ hD5).mono ?_
  rintro x w6 ⟨rfl, hD6, hb6⟩
  have hR6 := hR5.but hb6 (by omega)
  have hN6 := hN5.but hb6 (by omega)
  have hg6 : Grow w_ w6 := But.below hgg hb6 (by omega) (by have := hR5.lt; omega)
  clear hD4 hD5 hb6 hR5 hN5 hgg
  have HN0 := keep hN6
  have HN := keep (fun (u : World) (hu : Grow w6.drew u) => Blk.fits (w := w6.drew) hN6 hu)
  have HEu := keep (fun (u : World) (hu : Grow w6.drew u) => HE.out u w0.heap.size (Blk.fits (w := w6.drew) hD6 hu))
  clear hN6 hD6
  have qE : (EE != 0) = true := by simp [hE0]
  clear hE0
  go_wp2_with fail
  refine wp_region_grow (by kernel_rfl) 17 (by kernel_rfl) [(19, 0), (20, 1), (21, 2), (22, 3), (23, 4), (24, 5), (25, 6), (26, 7), (27, 8), (28, 9), (29, 10), (30, 11), (31, 12), (32, 13), (33, 14), (34, 15), (35, 16)] (by kernel_rfl) [(0, true), (1, true), (2, true), (3, true), (4, true), (5, true), (6, true), (7, true), (8, true), (9, true), (10, true), (11, true), (12, true), (13, true), (14, true), (15, true), (16, true)] (by kernel_rfl) rfl rfl ?_
  -- operation 0
  apply lex_eq [] [(21, 2), (22, 3), (23, 4), (24, 5), (25, 6), (26, 7), (27, 8), (28, 9), (29, 10), (30, 11), (31, 12), (32, 13), (33, 14), (34, 15), (35, 16), (36, 17)] (by kernel_rfl) (by kernel_rfl) rfl
  · intro xs w hw hp K hK
    simp only [putAll]
    go_simp
    exact hK _ (Grow.refl _)
  -- operation 1
  apply lex_eq [(0, true)] [(19, 0), (23, 4), (24, 5), (25, 6), (26, 7), (27, 8), (28, 9), (29, 10), (30, 11), (31, 12), (32, 13), (33, 14), (34, 15), (35, 16), (36, 17)] (by kernel_rfl) (by kernel_rfl) rfl
  · intro xs w hw hp K hK
    simp only [holdsL, List.nil_append, List.cons_append, List.getD_cons_succ, List.getD_cons_zero, if_true, and_true] at hp
    simp only [putAll]
    go_simp
    exact (HEu.out w hw).mono fun e w' h => ⟨_, h.1, hK _ (by rw [← h.2]; exact Grow.refl _)⟩
  -- operation 2
  apply lex_eq [(1, true)] [(19, 0), (20, 1), (23, 4), (24, 5), (25, 6), (26, 7), (27, 8), (28, 9), (29, 10), (30, 11), (31, 12), (32, 13), (33, 14), (34, 15), (35, 16), (36, 17)] (by kernel_rfl) (by kernel_rfl) rfl
  · intro xs w hw hp K hK
    simp only [holdsL, List.nil_append, List.cons_append, List.getD_cons_succ, List.getD_cons_zero, if_true, and_true] at hp
    simp only [putAll]
    go_simp
    exact hK _ (Grow.refl _)
  -- operation 3
  apply lex_eq [(2, true)] [(19, 0), (20, 1), (21, 2), (27, 8), (28, 9), (29, 10), (30, 11), (31, 12), (32, 13), (33, 14), (34, 15), (35, 16), (36, 17)] (by kernel_rfl) (by kernel_rfl) rfl
  · intro xs w hw hp K hK
    simp only [holdsL, List.nil_append, List.cons_append, List.getD_cons_succ, List.getD_cons_zero, if_true, and_true] at hp
    simp only [putAll]
    go_simp
    exact hK _ (Grow.refl _)
  -- operation 4
  apply lex_eq [(3, true)] [(19, 0), (20, 1), (21, 2), (22, 3), (25, 6), (26, 7), (27, 8), (28, 9), (29, 10), (30, 11), (31, 12), (32, 13), (33, 14), (34, 15), (35, 16), (36, 17)] (by kernel_rfl) (by kernel_rfl) rfl
  · intro xs w hw hp K hK
    simp only [holdsL, List.nil_append, List.cons_append, List.getD_cons_succ, List.getD_cons_zero, if_true, and_true] at hp
    simp only [putAll]
    go_simp
    exact hK _ (Grow.refl _)
  -- operation 5
  apply lex_eq [(3, true), (4, true)] [(19, 0), (20, 1), (21, 2), (22, 3), (23, 4), (26, 7), (28, 9), (29, 10), (30, 11), (31, 12), (32, 13), (33, 14), (34, 15), (35, 16), (36, 17)] (by kernel_rfl) (by kernel_rfl) rfl
  · intro xs w hw hp K hK
    simp only [holdsL, List.nil_append, List.cons_append, List.getD_cons_succ, List.getD_cons_zero, if_true, and_true] at hp
    simp only [putAll]
    go_simp
    exact hK _ (Grow.refl _)
  -- operation 6
  apply lex_eq [(3, true), (5, true)] [(19, 0), (20, 1), (21, 2), (22, 3), (23, 4), (24, 5), (27, 8), (28, 9), (29, 10), (30, 11), (31, 12), (32, 13), (33, 14), (34, 15), (35, 16), (36, 17)] (by kernel_rfl) (by kernel_rfl) rfl
  · intro xs w hw hp K hK
    simp only [holdsL, List.nil_append, List.cons_append, List.getD_cons_succ, List.getD_cons_zero, if_true, and_true] at hp
    simp only [putAll]
    go_simp
    exact hK _ (Grow.refl _)
  -- operation 7
  apply lex_eq [(3, true), (6, true)] [(19, 0), (20, 1), (21, 2), (22, 3), (23, 4), (24, 5), (25, 6), (28, 9), (29, 10), (30, 11), (31, 12), (32, 13), (33, 14), (34, 15), (35, 16), (36, 17)] (by kernel_rfl) (by kernel_rfl) rfl
  · intro xs w hw hp K hK
    simp only [holdsL, List.nil_append, List.cons_append, List.getD_cons_succ, List.getD_cons_zero, if_true, and_true] at hp
    simp only [putAll]
    go_simp
    exact hK _ (Grow.refl _)
  -- operation 8
  apply lex_eq [(7, true)] [(19, 0), (20, 1), (21, 2), (22, 3), (23, 4), (24, 5), (25, 6), (26, 7), (32, 13), (33, 14), (34, 15)] (by kernel_rfl) (by kernel_rfl) rfl
  · intro xs w hw hp K hK
    simp only [holdsL, List.nil_append, List.cons_append, List.getD_cons_succ, List.getD_cons_zero, if_true, and_true] at hp
    simp only [putAll]
    go_simp
    exact hK _ (Grow.refl _)
  -- operation 9
  apply lex_eq [(8, true)] [(19, 0), (20, 1), (21, 2), (22, 3), (23, 4), (24, 5), (25, 6), (26, 7), (27, 8), (29, 10), (31, 12), (32, 13), (33, 14), (34, 15), (35, 16), (36, 17)] (by kernel_rfl) (by kernel_rfl) rfl
  · intro xs w hw hp K hK
    simp only [holdsL, List.nil_append, List.cons_append, List.getD_cons_succ, List.getD_cons_zero, if_true, and_true] at hp
    simp only [putAll]
    go_simp
    exact hK _ (Grow.refl _)
  -- operation 10
  apply lex_eq [(8, true)] [(19, 0), (20, 1), (21, 2), (22, 3), (23, 4), (24, 5), (25, 6), (26, 7), (27, 8), (28, 9), (32, 13), (33, 14), (34, 15), (35, 16), (36, 17)] (by kernel_rfl) (by kernel_rfl) rfl
  · intro xs w hw hp K hK
    simp only [holdsL, List.nil_append, List.cons_append, List.getD_cons_succ, List.getD_cons_zero, if_true, and_true] at hp
    simp only [putAll]
    go_simp
    exact hK _ (Grow.refl _)
  -- operation 11
  apply lex_eq [(8, true), (9, true), (10, true)] [(19, 0), (20, 1), (21, 2), (22, 3), (23, 4), (24, 5), (25, 6), (26, 7), (27, 8), (28, 9), (29, 10), (32, 13), (33, 14), (34, 15), (35, 16), (36, 17)] (by kernel_rfl) (by kernel_rfl) rfl
  · intro xs w hw hp K hK
    simp only [holdsL, List.nil_append, List.cons_append, List.getD_cons_succ, List.getD_cons_zero, if_true, and_true] at hp
    simp only [putAll]
    go_simp
    exact hK _ (Grow.refl _)
  -- operation 12
  apply lex_eq [(8, true), (11, true)] [(19, 0), (20, 1), (21, 2), (22, 3), (23, 4), (24, 5), (25, 6), (26, 7), (27, 8), (28, 9), (29, 10), (30, 11), (36, 17)] (by kernel_rfl) (by kernel_rfl) rfl
  · intro xs w hw hp K hK
    simp only [holdsL, List.nil_append, List.cons_append, List.getD_cons_succ, List.getD_cons_zero, if_true, and_true] at hp
    simp only [putAll]
    go_simp
    exact hK _ (Grow.refl _)
  -- operation 13
  apply lex_eq [(12, true)] [(19, 0), (20, 1), (21, 2), (22, 3), (23, 4), (24, 5), (25, 6), (26, 7), (27, 8), (28, 9), (29, 10), (30, 11), (31, 12), (34, 15), (35, 16), (36, 17)] (by kernel_rfl) (by kernel_rfl) rfl
  · intro xs w hw hp K hK
    simp only [holdsL, List.nil_append, List.cons_append, List.getD_cons_succ, List.getD_cons_zero, if_true, and_true] at hp
    simp only [putAll]
    go_simp
    exact hK _ (Grow.refl _)
  -- operation 14
  apply lex_eq [(12, true), (13, true)] [(19, 0), (20, 1), (21, 2), (22, 3), (23, 4), (24, 5), (25, 6), (26, 7), (27, 8), (28, 9), (29, 10), (30, 11), (31, 12), (32, 13), (35, 16), (36, 17)] (by kernel_rfl) (by kernel_rfl) rfl
  · intro xs w hw hp K hK
    simp only [holdsL, List.nil_append, List.cons_append, List.getD_cons_succ, List.getD_cons_zero, if_true, and_true] at hp
    simp only [putAll]
    go_simp
    exact hK _ (Grow.refl _)
  -- operation 15
  apply lex_eq [(12, true), (14, true)] [(19, 0), (20, 1), (21, 2), (22, 3), (23, 4), (24, 5), (25, 6), (26, 7), (27, 8), (28, 9), (29, 10), (30, 11), (31, 12), (32, 13), (33, 14), (36, 17)] (by kernel_rfl) (by kernel_rfl) rfl
  · intro xs w hw hp K hK
    simp only [holdsL, List.nil_append, List.cons_append, List.getD_cons_succ, List.getD_cons_zero, if_true, and_true] at hp
    simp only [putAll]
    go_simp
    exact hK _ (Grow.refl _)
  -- operation 16
  apply lex_eq [(8, true), (12, true), (15, true)] [(19, 0), (20, 1), (21, 2), (22, 3), (23, 4), (24, 5), (25, 6), (26, 7), (27, 8), (28, 9), (29, 10), (30, 11), (31, 12), (32, 13), (33, 14), (34, 15)] (by kernel_rfl) (by kernel_rfl) rfl
  · intro xs w hw hp K hK
    simp only [holdsL, List.nil_append, List.cons_append, List.getD_cons_succ, List.getD_cons_zero, if_true, and_true] at hp
    simp only [putAll]
    go_simp
    exact hK _ (Grow.refl _)
  intro xs w hw hp
  generalize hA : putAll xs _ _ = A
  simp only [holdsL, List.nil_append, List.cons_append, List.getD_cons_succ, List.getD_cons_zero, if_true, and_true] at hp
  have h8 := hp.2.2.2.2.2.2.2.2.1
  have h16 := hp.2.2.2.2.2.2.2.2.2.2.2.2.2.2.2.2
  clear hp
  subst hA
  simp only [putAll, h8, h16]
  have hgw : Grow w6 w := hw.undrew
  have hR7 := hR6.fits hgw
  have hN7 := HN0.out.fits hgw
  have hg7 := Grow.trans hg6 hgw
  have Hlt := keep hR7.lt
  clear hw h8 h16 hgw hR6 hg6
  obtain ⟨r0, r1, r2, f0, f1, f2⟩ := enres hR7
  have Hset := keep (enset hR7 (.string ⟨#[]⟩) (.int .i64 0) (.int .i64 0))
  have Hbut := keep (enbut w w_.heap.size (.string ⟨#[]⟩) (.int .i64 0) (.int .i64 0))
  clear hR7 hN7
  go_wp2_with fail
  rw [HD2.out]
  refine bodyPost_ret (v := .tuple #[enV leastE, .int .i64 0, .int .i64 140]) ?_ rfl ⟨rfl, But.below hg7 Hbut.out (Nat.le_refl _) (Nat.le_of_lt Hlt.out)⟩
  obtain ⟨s0, s1, s2, _⟩ := enres Hset.out
  simp [results, Tryz.results48, go_sem, s0, s1, s2, enV, leastE]
  rfl

set_option maxRecDepth 100000 in
set_option maxHeartbeats 2000000 in
theorem unsep_2 (l : List UInt8) (w_ : World) (hs : (l.length : Int) ≤ 9223372036854775807)
    (hE0 : endE ((takeC l).2.1, (takeC l).2.2) = 0) (hCi : inB (takeC l).1 1 65535 = false) :
    Calls Tryz.prog 48 #[.string (str l)] w_ fun x w' => x = .returned (.tuple #[enV (unsN l).1, .int .i64 (unsN l).2.1, .int .i64 (unsN l).2.2]) ∧ Below w_.heap.size w_ w' := by
  obtain ⟨w0, hw0⟩ : ∃ w0, w0 = (w_.alloc (.cells #[.string ⟨#[]⟩, .int .i64 0, .int .i64 0] 41)) := ⟨_, rfl⟩
  have hg0 : Grow w_ w0 := by subst hw0; exact (Grow.refl w_).alloc _
  have hR0 : Blk w0 w_.heap.size 41 [.string ⟨#[]⟩, .int .i64 0, .int .i64 0] := by subst hw0; exact Blk.new w_ _ [_, _, _]
  have hz0 : w_.heap.size < w0.heap.size := hR0.lt
  have h1 := takeK_le l
  have h2 := takeP_le l
  have h3 := takeS_le l
  have h4 := takeC_le l
  have hd : unsN l = if decide (endE ((takeC l).2.1, (takeC l).2.2) = 0) && (inB (takeC l).1 1 65535 && (decide (((takeK l).1, (takeP l).1, (takeS l).1) = leastE) || enOk ((takeK l).1, (takeP l).1, (takeS l).1))) then (((takeK l).1, (takeP l).1, (takeS l).1), (takeC l).1, 0) else (leastE, 0, 140) := rfl
  have hK := fun u b (h : Rd u b (str l) 0) => rdText_ok b (str l) 24 u h (by unfold maxLen; simp; omega) (by decide)
  have hP := fun u b (h : Rd u b (str (takeK l).2.1) (takeK l).2.2) => rdNum_any b 65535 ((takeK l).2.1, (takeK l).2.2) u h (by dsimp only; omega) (by decide)
  have hS := fun u b (h : Rd u b (str (takeP l).2.1) (takeP l).2.2) => rdNum_any b 65535 ((takeP l).2.1, (takeP l).2.2) u h (by dsimp only; omega) (by decide)
  have hC := fun u b (h : Rd u b (str (takeS l).2.1) (takeS l).2.2) => rdNum_any b 65535 ((takeS l).2.1, (takeS l).2.2) u h (by dsimp only; omega) (by decide)
  have hE := fun u b (h : Rd u b (str (takeC l).2.1) (takeC l).2.2) => rdEnd b (str (takeC l).2.1) (takeC l).2.2 u h
  have hee : (if (takeC l).2.2 = 0 ∧ 0 < (str (takeC l).2.1).size then (12 : Int) else (takeC l).2.2) = endE ((takeC l).2.1, (takeC l).2.2) := rfl
  simp only [str_toList] at hK
  rw [hee] at hE
  change ∀ u b, Rd u b (str (takeK l).2.1) (takeK l).2.2 → Calls _ _ _ _ (fun e w' => e = .returned (.int .i64 (takeP l).1) ∧ Rd w' b (str (takeP l).2.1) (takeP l).2.2 ∧ But b u w') at hP
  change ∀ u b, Rd u b (str (takeP l).2.1) (takeP l).2.2 → Calls _ _ _ _ (fun e w' => e = .returned (.int .i64 (takeS l).1) ∧ Rd w' b (str (takeS l).2.1) (takeS l).2.2 ∧ But b u w') at hS
  change ∀ u b, Rd u b (str (takeS l).2.1) (takeS l).2.2 → Calls _ _ _ _ (fun e w' => e = .returned (.int .i64 (takeC l).1) ∧ Rd w' b (str (takeC l).2.1) (takeC l).2.2 ∧ But b u w') at hC
  change ∀ u b, Rd u b (str l) 0 → Calls _ _ _ _ (fun e w' => e = .returned (.string (str (takeK l).1)) ∧ Rd w' b (str (takeK l).2.1) (takeK l).2.2 ∧ But b u w') at hK
  clear hee h1 h2 h3 h4
  generalize endE ((takeC l).2.1, (takeC l).2.2) = EE at *
  generalize takeC l = C at *
  generalize takeS l = S at *
  generalize takeP l = P at *
  generalize takeK l = K at *
  obtain ⟨k, kr, ke⟩ := K
  obtain ⟨p, pr, pe⟩ := P
  obtain ⟨s, sr, se⟩ := S
  obtain ⟨c, cr, ce⟩ := C
  dsimp only at hd hK hP hS hC hE
  have hd2 : unsN l = (leastE, 0, 140) := by rw [hd, hCi]; simp
  have HD2 := keep hd2
  have HC := keep hCi
  clear hd hd2 hCi
  have HK := keep hK
  have HP := keep hP
  have HS := keep hS
  have HE := keep hE
  have HCn := keep hC
  clear hK hP hS hC hE
  go_enter Tryz.func48, Tryz.ntmps48
  go_upto_region 1 with fail
  rw [← hw0]
  clear hw0
  go_wp2_with fail
  refine (rdRead (str l) w0).mono ?_
  rintro x w1 ⟨rfl, hw1⟩
  have hg1 : Grow w0 w1 := by subst hw1; exact (Grow.refl _).alloc _
  have hD1 : Rd w1 w0.heap.size (str l) 0 := by subst hw1; exact Blk.new w0 _ [_, _]
  clear hw1
  have hR1 := hR0.fits hg1
  go_wp2_with fail
  refine (HK.out w1 _ hD1).mono ?_
  rintro x w2 ⟨rfl, hD2, hb2⟩
  have hR2 := hR1.but hb2 (by omega)
  go_wp2_with fail
  refine (HP.out w2 _ hD2).mono ?_
  rintro x w3 ⟨rfl, hD3, hb3⟩
  have hR3 := hR2.but hb3 (by omega)
  go_wp2_with fail
  refine (HS.out w3 _ hD3).mono ?_
  rintro x w4 ⟨rfl, hD4, hb4⟩
  have hR4 := hR3.but hb4 (by omega)
  have hbt : But w0.heap.size w1 w4 := (hb2.trans hb3).trans hb4
  have hg4 : Below w_.heap.size w_ w4 := But.below (Below.trans hg0 (hg1.mono (by omega))) hbt (by omega) (by have := hR1.lt; omega)
  clear hD1 hD2 hD3 hb2 hb3 hb4 hR1 hR2 hR3 hR0 hg0 hg1 hbt
  go_upto_region 3 with fail
  obtain ⟨w5, hw5⟩ : ∃ w5, w5 = w4.alloc (.cells #[.string (str k), .int .i64 p, .int .i64 s] 41) := ⟨_, rfl⟩
  rw [← hw5]
  have hg5 : Grow w4 w5 := by subst hw5; exact (Grow.refl _).alloc _
  have hN5 : Blk w5 w4.heap.size 41 [.string (str k), .int .i64 p, .int .i64 s] := by subst hw5; exact Blk.new w4 _ [_, _, _]
  have hD5 : Rd w5 w0.heap.size (str sr) se := Blk.fits hD4 hg5
  have hR5 := hR4.fits hg5
  have hlt4 := hD4.lt
  have hgg : Grow w_ w5 := Below.trans hg4 (hg5.mono (by have := hR4.lt; omega))
  clear hw5 hg5 hR4 hg4
  go_wp2_with fail
  refine (HCn.out w5 _ hD5).mono ?_
  rintro x w6 ⟨rfl, hD6, hb6⟩
  have hR6 := hR5.but hb6 (by omega)
  have hN6 := hN5.but hb6 (by omega)
  have hg6 : Grow w_ w6 := But.below hgg hb6 (by omega) (by have := hR5.lt; omega)
  clear hD4 hD5 hb6 hR5 hN5 hgg
  have HN0 := keep hN6
  have HN := keep (fun (u : World) (hu : Grow w6.drew u) => Blk.fits (w := w6.drew) hN6 hu)
  have HEu := keep (fun (u : World) (hu : Grow w6.drew u) => HE.out u w0.heap.size (Blk.fits (w := w6.drew) hD6 hu))
  clear hN6 hD6
  subst hE0
  go_wp2_with fail
  refine wp_region_grow (by kernel_rfl) 17 (by kernel_rfl) [(19, 0), (20, 1), (21, 2), (22, 3), (23, 4), (24, 5), (25, 6), (26, 7), (27, 8), (28, 9), (29, 10), (30, 11), (31, 12), (32, 13), (33, 14), (34, 15), (35, 16)] (by kernel_rfl) [(0, true), (1, true), (2, true), (3, true), (4, true), (5, true), (6, true), (7, true), (8, true), (9, true), (10, true), (11, true), (12, true), (13, true), (14, true), (15, true), (16, true)] (by kernel_rfl) rfl rfl ?_
  -- operation 0
  apply lex_eq [] [(21, 2), (22, 3), (23, 4), (24, 5), (25, 6), (26, 7), (27, 8), (28, 9), (29, 10), (30, 11), (31, 12), (32, 13), (33, 14), (34, 15), (35, 16), (36, 17)] (by kernel_rfl) (by kernel_rfl) rfl
  · intro xs w hw hp K hK
    simp only [putAll]
    go_simp
    exact hK _ (Grow.refl _)
  -- operation 1
  apply lex_eq [(0, true)] [(19, 0), (23, 4), (24, 5), (25, 6), (26, 7), (27, 8), (28, 9), (29, 10), (30, 11), (31, 12), (32, 13), (33, 14), (34, 15), (35, 16), (36, 17)] (by kernel_rfl) (by kernel_rfl) rfl
  · intro xs w hw hp K hK
    simp only [holdsL, List.nil_append, List.cons_append, List.getD_cons_succ, List.getD_cons_zero, if_true, and_true] at hp
    simp only [putAll]
    go_simp
    exact (HEu.out w hw).mono fun e w' h => ⟨_, h.1, hK _ (by rw [← h.2]; exact Grow.refl _)⟩
  -- operation 2
  apply lex_eq [(1, true)] [(19, 0), (20, 1), (23, 4), (24, 5), (25, 6), (26, 7), (27, 8), (28, 9), (29, 10), (30, 11), (31, 12), (32, 13), (33, 14), (34, 15), (35, 16), (36, 17)] (by kernel_rfl) (by kernel_rfl) rfl
  · intro xs w hw hp K hK
    simp only [holdsL, List.nil_append, List.cons_append, List.getD_cons_succ, List.getD_cons_zero, if_true, and_true] at hp
    simp only [putAll]
    go_simp
    exact hK _ (Grow.refl _)
  -- operation 3
  apply lex_eq [(2, true)] [(19, 0), (20, 1), (21, 2), (27, 8), (28, 9), (29, 10), (30, 11), (31, 12), (32, 13), (33, 14), (34, 15), (35, 16), (36, 17)] (by kernel_rfl) (by kernel_rfl) rfl
  · intro xs w hw hp K hK
    simp only [holdsL, List.nil_append, List.cons_append, List.getD_cons_succ, List.getD_cons_zero, if_true, and_true] at hp
    simp only [putAll]
    go_simp
    exact hK _ (Grow.refl _)
  -- operation 4
  apply lex_eq [(3, true)] [(19, 0), (20, 1), (21, 2), (22, 3), (25, 6), (26, 7), (27, 8), (28, 9), (29, 10), (30, 11), (31, 12), (32, 13), (33, 14), (34, 15), (35, 16), (36, 17)] (by kernel_rfl) (by kernel_rfl) rfl
  · intro xs w hw hp K hK
    simp only [holdsL, List.nil_append, List.cons_append, List.getD_cons_succ, List.getD_cons_zero, if_true, and_true] at hp
    simp only [putAll]
    go_simp
    exact hK _ (Grow.refl _)
  -- operation 5
  apply lex_eq [(3, true), (4, true)] [(19, 0), (20, 1), (21, 2), (22, 3), (23, 4), (26, 7), (28, 9), (29, 10), (30, 11), (31, 12), (32, 13), (33, 14), (34, 15), (35, 16), (36, 17)] (by kernel_rfl) (by kernel_rfl) rfl
  · intro xs w hw hp K hK
    simp only [holdsL, List.nil_append, List.cons_append, List.getD_cons_succ, List.getD_cons_zero, if_true, and_true] at hp
    simp only [putAll]
    go_simp
    exact (isChild_any c w).mono fun e w' h => ⟨_, h.1.trans (by rw [HC.out]), hK _ (by rw [← h.2]; exact Grow.refl _)⟩
  -- operation 6
  apply lex_eq [(3, true), (5, true)] [(19, 0), (20, 1), (21, 2), (22, 3), (23, 4), (24, 5), (27, 8), (28, 9), (29, 10), (30, 11), (31, 12), (32, 13), (33, 14), (34, 15), (35, 16), (36, 17)] (by kernel_rfl) (by kernel_rfl) rfl
  · intro xs w hw hp K hK
    simp only [holdsL, List.nil_append, List.cons_append, List.getD_cons_succ, List.getD_cons_zero, if_true, and_true] at hp
    simp only [putAll]
    go_simp
    exact hK _ (Grow.refl _)
  -- operation 7
  apply lex_eq [(3, true), (6, true)] [(19, 0), (20, 1), (21, 2), (22, 3), (23, 4), (24, 5), (25, 6), (28, 9), (29, 10), (30, 11), (31, 12), (32, 13), (33, 14), (34, 15), (35, 16), (36, 17)] (by kernel_rfl) (by kernel_rfl) rfl
  · intro xs w hw hp K hK
    simp only [holdsL, List.nil_append, List.cons_append, List.getD_cons_succ, List.getD_cons_zero, if_true, and_true] at hp
    simp only [putAll]
    go_simp
    exact hK _ (Grow.refl _)
  -- operation 8
  apply lex_eq [(7, true)] [(19, 0), (20, 1), (21, 2), (22, 3), (23, 4), (24, 5), (25, 6), (26, 7), (32, 13), (33, 14), (34, 15)] (by kernel_rfl) (by kernel_rfl) rfl
  · intro xs w hw hp K hK
    simp only [holdsL, List.nil_append, List.cons_append, List.getD_cons_succ, List.getD_cons_zero, if_true, and_true] at hp
    simp only [putAll]
    go_simp
    exact hK _ (Grow.refl _)
  -- operation 9
  apply lex_eq [(8, true)] [(19, 0), (20, 1), (21, 2), (22, 3), (23, 4), (24, 5), (25, 6), (26, 7), (27, 8), (29, 10), (31, 12), (32, 13), (33, 14), (34, 15), (35, 16), (36, 17)] (by kernel_rfl) (by kernel_rfl) rfl
  · intro xs w hw hp K hK
    simp only [holdsL, List.nil_append, List.cons_append, List.getD_cons_succ, List.getD_cons_zero, if_true, and_true] at hp
    simp only [putAll]
    go_simp
    exact hK _ (Grow.refl _)
  -- operation 10
  apply lex_eq [(8, true)] [(19, 0), (20, 1), (21, 2), (22, 3), (23, 4), (24, 5), (25, 6), (26, 7), (27, 8), (28, 9), (32, 13), (33, 14), (34, 15), (35, 16), (36, 17)] (by kernel_rfl) (by kernel_rfl) rfl
  · intro xs w hw hp K hK
    simp only [holdsL, List.nil_append, List.cons_append, List.getD_cons_succ, List.getD_cons_zero, if_true, and_true] at hp
    simp only [putAll]
    go_simp
    exact hK _ (Grow.refl _)
  -- operation 11
  apply lex_eq [(8, true), (9, true), (10, true)] [(19, 0), (20, 1), (21, 2), (22, 3), (23, 4), (24, 5), (25, 6), (26, 7), (27, 8), (28, 9), (29, 10), (32, 13), (33, 14), (34, 15), (35, 16), (36, 17)] (by kernel_rfl) (by kernel_rfl) rfl
  · intro xs w hw hp K hK
    simp only [holdsL, List.nil_append, List.cons_append, List.getD_cons_succ, List.getD_cons_zero, if_true, and_true] at hp
    simp only [putAll]
    go_simp
    exact hK _ (Grow.refl _)
  -- operation 12
  apply lex_eq [(8, true), (11, true)] [(19, 0), (20, 1), (21, 2), (22, 3), (23, 4), (24, 5), (25, 6), (26, 7), (27, 8), (28, 9), (29, 10), (30, 11), (36, 17)] (by kernel_rfl) (by kernel_rfl) rfl
  · intro xs w hw hp K hK
    simp only [holdsL, List.nil_append, List.cons_append, List.getD_cons_succ, List.getD_cons_zero, if_true, and_true] at hp
    simp only [putAll]
    go_simp
    exact hK _ (Grow.refl _)
  -- operation 13
  apply lex_eq [(12, true)] [(19, 0), (20, 1), (21, 2), (22, 3), (23, 4), (24, 5), (25, 6), (26, 7), (27, 8), (28, 9), (29, 10), (30, 11), (31, 12), (34, 15), (35, 16), (36, 17)] (by kernel_rfl) (by kernel_rfl) rfl
  · intro xs w hw hp K hK
    simp only [holdsL, List.nil_append, List.cons_append, List.getD_cons_succ, List.getD_cons_zero, if_true, and_true] at hp
    simp only [putAll]
    go_simp
    exact hK _ (Grow.refl _)
  -- operation 14
  apply lex_eq [(12, true), (13, true)] [(19, 0), (20, 1), (21, 2), (22, 3), (23, 4), (24, 5), (25, 6), (26, 7), (27, 8), (28, 9), (29, 10), (30, 11), (31, 12), (32, 13), (35, 16), (36, 17)] (by kernel_rfl) (by kernel_rfl) rfl
  · intro xs w hw hp K hK
    simp only [holdsL, List.nil_append, List.cons_append, List.getD_cons_succ, List.getD_cons_zero, if_true, and_true] at hp
    simp only [putAll]
    go_simp
    exact hK _ (Grow.refl _)
  -- operation 15
  apply lex_eq [(12, true), (14, true)] [(19, 0), (20, 1), (21, 2), (22, 3), (23, 4), (24, 5), (25, 6), (26, 7), (27, 8), (28, 9), (29, 10), (30, 11), (31, 12), (32, 13), (33, 14), (36, 17)] (by kernel_rfl) (by kernel_rfl) rfl
  · intro xs w hw hp K hK
    simp only [holdsL, List.nil_append, List.cons_append, List.getD_cons_succ, List.getD_cons_zero, if_true, and_true] at hp
    simp only [putAll]
    go_simp
    exact hK _ (Grow.refl _)
  -- operation 16
  apply lex_eq [(8, true), (12, true), (15, true)] [(19, 0), (20, 1), (21, 2), (22, 3), (23, 4), (24, 5), (25, 6), (26, 7), (27, 8), (28, 9), (29, 10), (30, 11), (31, 12), (32, 13), (33, 14), (34, 15)] (by kernel_rfl) (by kernel_rfl) rfl
  · intro xs w hw hp K hK
    simp only [holdsL, List.nil_append, List.cons_append, List.getD_cons_succ, List.getD_cons_zero, if_true, and_true] at hp
    simp only [putAll]
    go_simp
    exact hK _ (Grow.refl _)
  intro xs w hw hp
  generalize hA : putAll xs _ _ = A
  simp only [holdsL, List.nil_append, List.cons_append, List.getD_cons_succ, List.getD_cons_zero, if_true, and_true] at hp
  have h8 := hp.2.2.2.2.2.2.2.2.1
  have h16 := hp.2.2.2.2.2.2.2.2.2.2.2.2.2.2.2.2
  clear hp
  subst hA
  simp only [putAll, h8, h16]
  have hgw : Grow w6 w := hw.undrew
  have hR7 := hR6.fits hgw
  have hN7 := HN0.out.fits hgw
  have hg7 := Grow.trans hg6 hgw
  have Hlt := keep hR7.lt
  clear hw h8 h16 hgw hR6 hg6
  obtain ⟨r0, r1, r2, f0, f1, f2⟩ := enres hR7
  have Hset := keep (enset hR7 (.string ⟨#[]⟩) (.int .i64 0) (.int .i64 0))
  have Hbut := keep (enbut w w_.heap.size (.string ⟨#[]⟩) (.int .i64 0) (.int .i64 0))
  clear hR7 hN7
  go_wp2_with fail
  rw [HD2.out]
  refine bodyPost_ret (v := .tuple #[enV leastE, .int .i64 0, .int .i64 140]) ?_ rfl ⟨rfl, But.below hg7 Hbut.out (Nat.le_refl _) (Nat.le_of_lt Hlt.out)⟩
  obtain ⟨s0, s1, s2, _⟩ := enres Hset.out
  simp [results, Tryz.results48, go_sem, s0, s1, s2, enV, leastE]
  rfl

set_option maxRecDepth 100000 in
set_option maxHeartbeats 2000000 in
theorem unsep_3 (l : List UInt8) (w_ : World) (hs : (l.length : Int) ≤ 9223372036854775807)
    (hE0 : endE ((takeC l).2.1, (takeC l).2.2) = 0) (hCi : inB (takeC l).1 1 65535 = true) (hL : isL ((takeK l).1, (takeP l).1, (takeS l).1) = true) :
    Calls Tryz.prog 48 #[.string (str l)] w_ fun x w' => x = .returned (.tuple #[enV (unsN l).1, .int .i64 (unsN l).2.1, .int .i64 (unsN l).2.2]) ∧ Below w_.heap.size w_ w' := by
  obtain ⟨w0, hw0⟩ : ∃ w0, w0 = (w_.alloc (.cells #[.string ⟨#[]⟩, .int .i64 0, .int .i64 0] 41)) := ⟨_, rfl⟩
  have hg0 : Grow w_ w0 := by subst hw0; exact (Grow.refl w_).alloc _
  have hR0 : Blk w0 w_.heap.size 41 [.string ⟨#[]⟩, .int .i64 0, .int .i64 0] := by subst hw0; exact Blk.new w_ _ [_, _, _]
  have hz0 : w_.heap.size < w0.heap.size := hR0.lt
  have h1 := takeK_le l
  have h2 := takeP_le l
  have h3 := takeS_le l
  have h4 := takeC_le l
  have hd : unsN l = if decide (endE ((takeC l).2.1, (takeC l).2.2) = 0) && (inB (takeC l).1 1 65535 && (decide (((takeK l).1, (takeP l).1, (takeS l).1) = leastE) || enOk ((takeK l).1, (takeP l).1, (takeS l).1))) then (((takeK l).1, (takeP l).1, (takeS l).1), (takeC l).1, 0) else (leastE, 0, 140) := rfl
  have hK := fun u b (h : Rd u b (str l) 0) => rdText_ok b (str l) 24 u h (by unfold maxLen; simp; omega) (by decide)
  have hP := fun u b (h : Rd u b (str (takeK l).2.1) (takeK l).2.2) => rdNum_any b 65535 ((takeK l).2.1, (takeK l).2.2) u h (by dsimp only; omega) (by decide)
  have hS := fun u b (h : Rd u b (str (takeP l).2.1) (takeP l).2.2) => rdNum_any b 65535 ((takeP l).2.1, (takeP l).2.2) u h (by dsimp only; omega) (by decide)
  have hC := fun u b (h : Rd u b (str (takeS l).2.1) (takeS l).2.2) => rdNum_any b 65535 ((takeS l).2.1, (takeS l).2.2) u h (by dsimp only; omega) (by decide)
  have hE := fun u b (h : Rd u b (str (takeC l).2.1) (takeC l).2.2) => rdEnd b (str (takeC l).2.1) (takeC l).2.2 u h
  have hee : (if (takeC l).2.2 = 0 ∧ 0 < (str (takeC l).2.1).size then (12 : Int) else (takeC l).2.2) = endE ((takeC l).2.1, (takeC l).2.2) := rfl
  simp only [str_toList] at hK
  rw [hee] at hE
  change ∀ u b, Rd u b (str (takeK l).2.1) (takeK l).2.2 → Calls _ _ _ _ (fun e w' => e = .returned (.int .i64 (takeP l).1) ∧ Rd w' b (str (takeP l).2.1) (takeP l).2.2 ∧ But b u w') at hP
  change ∀ u b, Rd u b (str (takeP l).2.1) (takeP l).2.2 → Calls _ _ _ _ (fun e w' => e = .returned (.int .i64 (takeS l).1) ∧ Rd w' b (str (takeS l).2.1) (takeS l).2.2 ∧ But b u w') at hS
  change ∀ u b, Rd u b (str (takeS l).2.1) (takeS l).2.2 → Calls _ _ _ _ (fun e w' => e = .returned (.int .i64 (takeC l).1) ∧ Rd w' b (str (takeC l).2.1) (takeC l).2.2 ∧ But b u w') at hC
  change ∀ u b, Rd u b (str l) 0 → Calls _ _ _ _ (fun e w' => e = .returned (.string (str (takeK l).1)) ∧ Rd w' b (str (takeK l).2.1) (takeK l).2.2 ∧ But b u w') at hK
  clear hee h1 h2 h3 h4
  generalize endE ((takeC l).2.1, (takeC l).2.2) = EE at *
  generalize takeC l = C at *
  generalize takeS l = S at *
  generalize takeP l = P at *
  generalize takeK l = K at *
  obtain ⟨k, kr, ke⟩ := K
  obtain ⟨p, pr, pe⟩ := P
  obtain ⟨s, sr, se⟩ := S
  obtain ⟨c, cr, ce⟩ := C
  dsimp only at hd hK hP hS hC hE
  have hd2 : unsN l = ((k, p, s), c, 0) := by rw [hd, hCi, hE0, show decide ((k, p, s) = leastE) = true from hL]; rfl
  have HD2 := keep hd2
  have HC := keep hCi
  have HQ := keep hL
  clear hd hd2 hCi hL
  have HK := keep hK
  have HP := keep hP
  have HS := keep hS
  have HE := keep hE
  have HCn := keep hC
  clear hK hP hS hC hE
  go_enter Tryz.func48, Tryz.ntmps48
  go_upto_region 1 with fail
  rw [← hw0]
  clear hw0
  go_wp2_with fail
  refine (rdRead (str l) w0).mono ?_
  rintro x w1 ⟨rfl, hw1⟩
  have hg1 : Grow w0 w1 := by subst hw1; exact (Grow.refl _).alloc _
  have hD1 : Rd w1 w0.heap.size (str l) 0 := by subst hw1; exact Blk.new w0 _ [_, _]
  clear hw1
  have hR1 := hR0.fits hg1
  go_wp2_with fail
  refine (HK.out w1 _ hD1).mono ?_
  rintro x w2 ⟨rfl, hD2, hb2⟩
  have hR2 := hR1.but hb2 (by omega)
  go_wp2_with fail
  refine (HP.out w2 _ hD2).mono ?_
  rintro x w3 ⟨rfl, hD3, hb3⟩
  have hR3 := hR2.but hb3 (by omega)
  go_wp2_with fail
  refine (HS.out w3 _ hD3).mono ?_
  rintro x w4 ⟨rfl, hD4, hb4⟩
  have hR4 := hR3.but hb4 (by omega)
  have hbt : But w0.heap.size w1 w4 := (hb2.trans hb3).trans hb4
  have hg4 : Below w_.heap.size w_ w4 := But.below (Below.trans hg0 (hg1.mono (by omega))) hbt (by omega) (by have := hR1.lt; omega)
  clear hD1 hD2 hD3 hb2 hb3 hb4 hR1 hR2 hR3 hR0 hg0 hg1 hbt
  go_upto_region 3 with fail
  obtain ⟨w5, hw5⟩ : ∃ w5, w5 = w4.alloc (.cells #[.string (str k), .int .i64 p, .int .i64 s] 41) := ⟨_, rfl⟩
  rw [← hw5]
  have hg5 : Grow w4 w5 := by subst hw5; exact (Grow.refl _).alloc _
  have hN5 : Blk w5 w4.heap.size 41 [.string (str k), .int .i64 p, .int .i64 s] := by subst hw5; exact Blk.new w4 _ [_, _, _]
  have hD5 : Rd w5 w0.heap.size (str sr) se := Blk.fits hD4 hg5
  have hR5 := hR4.fits hg5
  have hlt4 := hD4.lt
  have hgg : Grow w_ w5 := Below.trans hg4 (hg5.mono (by have := hR4.lt; omega))
  clear hw5 hg5 hR4 hg4
  go_wp2_with fail
  refine (HCn.out w5 _ hD5).mono ?_
  rintro x w6 ⟨rfl, hD6, hb6⟩
  have hR6 := hR5.but hb6 (by omega)
  have hN6 := hN5.but hb6 (by omega)
  have hg6 : Grow w_ w6 := But.below hgg hb6 (by omega) (by have := hR5.lt; omega)
  clear hD4 hD5 hb6 hR5 hN5 hgg
  have HN0 := keep hN6
  have HN := keep (fun (u : World) (hu : Grow w6.drew u) => Blk.fits (w := w6.drew) hN6 hu)
  have HEu := keep (fun (u : World) (hu : Grow w6.drew u) => HE.out u w0.heap.size (Blk.fits (w := w6.drew) hD6 hu))
  clear hN6 hD6
  subst hE0
  go_wp2_with fail
  refine wp_region_grow (by kernel_rfl) 17 (by kernel_rfl) [(19, 0), (20, 1), (21, 2), (22, 3), (23, 4), (24, 5), (25, 6), (26, 7), (27, 8), (28, 9), (29, 10), (30, 11), (31, 12), (32, 13), (33, 14), (34, 15), (35, 16)] (by kernel_rfl) [(0, true), (1, true), (2, true), (3, true), (4, true), (5, true), (6, true), (7, true), (8, true), (9, true), (10, true), (11, true), (12, true), (13, true), (14, true), (15, true), (16, true)] (by kernel_rfl) rfl rfl ?_
  -- operation 0
  apply lex_eq [] [(21, 2), (22, 3), (23, 4), (24, 5), (25, 6), (26, 7), (27, 8), (28, 9), (29, 10), (30, 11), (31, 12), (32, 13), (33, 14), (34, 15), (35, 16), (36, 17)] (by kernel_rfl) (by kernel_rfl) rfl
  · intro xs w hw hp K hK
    simp only [putAll]
    go_simp
    exact hK _ (Grow.refl _)
  -- operation 1
  apply lex_eq [(0, true)] [(19, 0), (23, 4), (24, 5), (25, 6), (26, 7), (27, 8), (28, 9), (29, 10), (30, 11), (31, 12), (32, 13), (33, 14), (34, 15), (35, 16), (36, 17)] (by kernel_rfl) (by kernel_rfl) rfl
  · intro xs w hw hp K hK
    simp only [holdsL, List.nil_append, List.cons_append, List.getD_cons_succ, List.getD_cons_zero, if_true, and_true] at hp
    simp only [putAll]
    go_simp
    exact (HEu.out w hw).mono fun e w' h => ⟨_, h.1, hK _ (by rw [← h.2]; exact Grow.refl _)⟩
  -- operation 2
  apply lex_eq [(1, true)] [(19, 0), (20, 1), (23, 4), (24, 5), (25, 6), (26, 7), (27, 8), (28, 9), (29, 10), (30, 11), (31, 12), (32, 13), (33, 14), (34, 15), (35, 16), (36, 17)] (by kernel_rfl) (by kernel_rfl) rfl
  · intro xs w hw hp K hK
    simp only [holdsL, List.nil_append, List.cons_append, List.getD_cons_succ, List.getD_cons_zero, if_true, and_true] at hp
    simp only [putAll]
    go_simp
    exact hK _ (Grow.refl _)
  -- operation 3
  apply lex_eq [(2, true)] [(19, 0), (20, 1), (21, 2), (27, 8), (28, 9), (29, 10), (30, 11), (31, 12), (32, 13), (33, 14), (34, 15), (35, 16), (36, 17)] (by kernel_rfl) (by kernel_rfl) rfl
  · intro xs w hw hp K hK
    simp only [holdsL, List.nil_append, List.cons_append, List.getD_cons_succ, List.getD_cons_zero, if_true, and_true] at hp
    simp only [putAll]
    go_simp
    exact hK _ (Grow.refl _)
  -- operation 4
  apply lex_eq [(3, true)] [(19, 0), (20, 1), (21, 2), (22, 3), (25, 6), (26, 7), (27, 8), (28, 9), (29, 10), (30, 11), (31, 12), (32, 13), (33, 14), (34, 15), (35, 16), (36, 17)] (by kernel_rfl) (by kernel_rfl) rfl
  · intro xs w hw hp K hK
    simp only [holdsL, List.nil_append, List.cons_append, List.getD_cons_succ, List.getD_cons_zero, if_true, and_true] at hp
    simp only [putAll]
    go_simp
    exact hK _ (Grow.refl _)
  -- operation 5
  apply lex_eq [(3, true), (4, true)] [(19, 0), (20, 1), (21, 2), (22, 3), (23, 4), (26, 7), (28, 9), (29, 10), (30, 11), (31, 12), (32, 13), (33, 14), (34, 15), (35, 16), (36, 17)] (by kernel_rfl) (by kernel_rfl) rfl
  · intro xs w hw hp K hK
    simp only [holdsL, List.nil_append, List.cons_append, List.getD_cons_succ, List.getD_cons_zero, if_true, and_true] at hp
    simp only [putAll]
    go_simp
    exact (isChild_any c w).mono fun e w' h => ⟨_, h.1.trans (by rw [HC.out]), hK _ (by rw [← h.2]; exact Grow.refl _)⟩
  -- operation 6
  apply lex_eq [(3, true), (5, true)] [(19, 0), (20, 1), (21, 2), (22, 3), (23, 4), (24, 5), (27, 8), (28, 9), (29, 10), (30, 11), (31, 12), (32, 13), (33, 14), (34, 15), (35, 16), (36, 17)] (by kernel_rfl) (by kernel_rfl) rfl
  · intro xs w hw hp K hK
    simp only [holdsL, List.nil_append, List.cons_append, List.getD_cons_succ, List.getD_cons_zero, if_true, and_true] at hp
    simp only [putAll]
    go_simp
    exact hK _ (Grow.refl _)
  -- operation 7
  apply lex_eq [(3, true), (6, true)] [(19, 0), (20, 1), (21, 2), (22, 3), (23, 4), (24, 5), (25, 6), (28, 9), (29, 10), (30, 11), (31, 12), (32, 13), (33, 14), (34, 15), (35, 16), (36, 17)] (by kernel_rfl) (by kernel_rfl) rfl
  · intro xs w hw hp K hK
    simp only [holdsL, List.nil_append, List.cons_append, List.getD_cons_succ, List.getD_cons_zero, if_true, and_true] at hp
    simp only [putAll]
    go_simp
    exact hK _ (Grow.refl _)
  -- operation 8
  apply lex_eq [(7, true)] [(19, 0), (20, 1), (21, 2), (22, 3), (23, 4), (24, 5), (25, 6), (26, 7), (32, 13), (33, 14), (34, 15)] (by kernel_rfl) (by kernel_rfl) rfl
  · intro xs w hw hp K hK
    simp only [holdsL, List.nil_append, List.cons_append, List.getD_cons_succ, List.getD_cons_zero, if_true, and_true] at hp
    simp only [putAll]
    go_simp
    exact hK _ (Grow.refl _)
  -- operation 9
  apply lex_eq [(8, true)] [(19, 0), (20, 1), (21, 2), (22, 3), (23, 4), (24, 5), (25, 6), (26, 7), (27, 8), (29, 10), (31, 12), (32, 13), (33, 14), (34, 15), (35, 16), (36, 17)] (by kernel_rfl) (by kernel_rfl) rfl
  · intro xs w hw hp K hK
    simp only [holdsL, List.nil_append, List.cons_append, List.getD_cons_succ, List.getD_cons_zero, if_true, and_true] at hp
    simp only [putAll]
    have h2 := enres (HN.out w hw)
    have c0 := h2.1
    have c1 := h2.2.1
    have c2 := h2.2.2.1
    go_simp
    exact hK _ (Grow.refl _)
  -- operation 10
  apply lex_eq [(8, true)] [(19, 0), (20, 1), (21, 2), (22, 3), (23, 4), (24, 5), (25, 6), (26, 7), (27, 8), (28, 9), (32, 13), (33, 14), (34, 15), (35, 16), (36, 17)] (by kernel_rfl) (by kernel_rfl) rfl
  · intro xs w hw hp K hK
    simp only [holdsL, List.nil_append, List.cons_append, List.getD_cons_succ, List.getD_cons_zero, if_true, and_true] at hp
    simp only [putAll]
    go_simp
    exact (least_any w).mono fun e w' h => ⟨_, h.1, hK _ h.2⟩
  -- operation 11
  apply lex_eq [(8, true), (9, true), (10, true)] [(19, 0), (20, 1), (21, 2), (22, 3), (23, 4), (24, 5), (25, 6), (26, 7), (27, 8), (28, 9), (29, 10), (32, 13), (33, 14), (34, 15), (35, 16), (36, 17)] (by kernel_rfl) (by kernel_rfl) rfl
  · intro xs w hw hp K hK
    simp only [holdsL, List.nil_append, List.cons_append, List.getD_cons_succ, List.getD_cons_zero, if_true, and_true] at hp
    unfold enV at hp
    simp only [putAll]
    go_simp
    simp only [HQ.out, Bool.not_true, Bool.not_false]
    exact hK _ (Grow.refl _)
  -- operation 12
  apply lex_eq [(8, true), (11, true)] [(19, 0), (20, 1), (21, 2), (22, 3), (23, 4), (24, 5), (25, 6), (26, 7), (27, 8), (28, 9), (29, 10), (30, 11), (36, 17)] (by kernel_rfl) (by kernel_rfl) rfl
  · intro xs w hw hp K hK
    simp only [holdsL, List.nil_append, List.cons_append, List.getD_cons_succ, List.getD_cons_zero, if_true, and_true] at hp
    simp only [putAll]
    go_simp
    exact hK _ (Grow.refl _)
  -- operation 13
  apply lex_eq [(12, true)] [(19, 0), (20, 1), (21, 2), (22, 3), (23, 4), (24, 5), (25, 6), (26, 7), (27, 8), (28, 9), (29, 10), (30, 11), (31, 12), (34, 15), (35, 16), (36, 17)] (by kernel_rfl) (by kernel_rfl) rfl
  · intro xs w hw hp K hK
    simp only [holdsL, List.nil_append, List.cons_append, List.getD_cons_succ, List.getD_cons_zero, if_true, and_true] at hp
    simp only [putAll]
    go_simp
    exact hK _ (Grow.refl _)
  -- operation 14
  apply lex_eq [(12, true), (13, true)] [(19, 0), (20, 1), (21, 2), (22, 3), (23, 4), (24, 5), (25, 6), (26, 7), (27, 8), (28, 9), (29, 10), (30, 11), (31, 12), (32, 13), (35, 16), (36, 17)] (by kernel_rfl) (by kernel_rfl) rfl
  · intro xs w hw hp K hK
    simp only [holdsL, List.nil_append, List.cons_append, List.getD_cons_succ, List.getD_cons_zero, if_true, and_true] at hp
    simp only [putAll]
    go_simp
    exact hK _ (Grow.refl _)
  -- operation 15
  apply lex_eq [(12, true), (14, true)] [(19, 0), (20, 1), (21, 2), (22, 3), (23, 4), (24, 5), (25, 6), (26, 7), (27, 8), (28, 9), (29, 10), (30, 11), (31, 12), (32, 13), (33, 14), (36, 17)] (by kernel_rfl) (by kernel_rfl) rfl
  · intro xs w hw hp K hK
    simp only [holdsL, List.nil_append, List.cons_append, List.getD_cons_succ, List.getD_cons_zero, if_true, and_true] at hp
    simp only [putAll]
    go_simp
    exact hK _ (Grow.refl _)
  -- operation 16
  apply lex_eq [(8, true), (12, true), (15, true)] [(19, 0), (20, 1), (21, 2), (22, 3), (23, 4), (24, 5), (25, 6), (26, 7), (27, 8), (28, 9), (29, 10), (30, 11), (31, 12), (32, 13), (33, 14), (34, 15)] (by kernel_rfl) (by kernel_rfl) rfl
  · intro xs w hw hp K hK
    simp only [holdsL, List.nil_append, List.cons_append, List.getD_cons_succ, List.getD_cons_zero, if_true, and_true] at hp
    simp only [putAll]
    go_simp
    exact hK _ (Grow.refl _)
  intro xs w hw hp
  generalize hA : putAll xs _ _ = A
  simp only [holdsL, List.nil_append, List.cons_append, List.getD_cons_succ, List.getD_cons_zero, if_true, and_true] at hp
  have h8 := hp.2.2.2.2.2.2.2.2.1
  have h16 := hp.2.2.2.2.2.2.2.2.2.2.2.2.2.2.2.2
  clear hp
  subst hA
  simp only [putAll, h8, h16]
  have hgw : Grow w6 w := hw.undrew
  have hR7 := hR6.fits hgw
  have hN7 := HN0.out.fits hgw
  have hg7 := Grow.trans hg6 hgw
  have Hlt := keep hR7.lt
  clear hw h8 h16 hgw hR6 hg6
  obtain ⟨r0, r1, r2, f0, f1, f2⟩ := enres hR7
  obtain ⟨c0, c1, c2, _⟩ := enres hN7
  have Hset := keep (enset hR7 (.string (str k)) (.int .i64 p) (.int .i64 s))
  have Hbut := keep (enbut w w_.heap.size (.string (str k)) (.int .i64 p) (.int .i64 s))
  clear hR7 hN7
  go_wp2_with fail
  rw [HD2.out]
  refine bodyPost_ret (v := .tuple #[enV (k, p, s), .int .i64 c, .int .i64 0]) ?_ rfl ⟨rfl, But.below hg7 Hbut.out (Nat.le_refl _) (Nat.le_of_lt Hlt.out)⟩
  obtain ⟨s0, s1, s2, _⟩ := enres Hset.out
  simp [results, Tryz.results48, go_sem, s0, s1, s2, enV]

set_option maxRecDepth 100000 in
set_option maxHeartbeats 2000000 in
theorem unsep_4 (l : List UInt8) (w_ : World) (hs : (l.length : Int) ≤ 9223372036854775807)
    (hE0 : endE ((takeC l).2.1, (takeC l).2.2) = 0) (hCi : inB (takeC l).1 1 65535 = true) (hL : isL ((takeK l).1, (takeP l).1, (takeS l).1) = false) (hA : enOk ((takeK l).1, (takeP l).1, (takeS l).1) = true) :
    Calls Tryz.prog 48 #[.string (str l)] w_ fun x w' => x = .returned (.tuple #[enV (unsN l).1, .int .i64 (unsN l).2.1, .int .i64 (unsN l).2.2]) ∧ Below w_.heap.size w_ w' := by
  obtain ⟨w0, hw0⟩ : ∃ w0, w0 = (w_.alloc (.cells #[.string ⟨#[]⟩, .int .i64 0, .int .i64 0] 41)) := ⟨_, rfl⟩
  have hg0 : Grow w_ w0 := by subst hw0; exact (Grow.refl w_).alloc _
  have hR0 : Blk w0 w_.heap.size 41 [.string ⟨#[]⟩, .int .i64 0, .int .i64 0] := by subst hw0; exact Blk.new w_ _ [_, _, _]
  have hz0 : w_.heap.size < w0.heap.size := hR0.lt
  have h1 := takeK_le l
  have h2 := takeP_le l
  have h3 := takeS_le l
  have h4 := takeC_le l
  have hd : unsN l = if decide (endE ((takeC l).2.1, (takeC l).2.2) = 0) && (inB (takeC l).1 1 65535 && (decide (((takeK l).1, (takeP l).1, (takeS l).1) = leastE) || enOk ((takeK l).1, (takeP l).1, (takeS l).1))) then (((takeK l).1, (takeP l).1, (takeS l).1), (takeC l).1, 0) else (leastE, 0, 140) := rfl
  have hK := fun u b (h : Rd u b (str l) 0) => rdText_ok b (str l) 24 u h (by unfold maxLen; simp; omega) (by decide)
  have hP := fun u b (h : Rd u b (str (takeK l).2.1) (takeK l).2.2) => rdNum_any b 65535 ((takeK l).2.1, (takeK l).2.2) u h (by dsimp only; omega) (by decide)
  have hS := fun u b (h : Rd u b (str (takeP l).2.1) (takeP l).2.2) => rdNum_any b 65535 ((takeP l).2.1, (takeP l).2.2) u h (by dsimp only; omega) (by decide)
  have hC := fun u b (h : Rd u b (str (takeS l).2.1) (takeS l).2.2) => rdNum_any b 65535 ((takeS l).2.1, (takeS l).2.2) u h (by dsimp only; omega) (by decide)
  have hE := fun u b (h : Rd u b (str (takeC l).2.1) (takeC l).2.2) => rdEnd b (str (takeC l).2.1) (takeC l).2.2 u h
  have hee : (if (takeC l).2.2 = 0 ∧ 0 < (str (takeC l).2.1).size then (12 : Int) else (takeC l).2.2) = endE ((takeC l).2.1, (takeC l).2.2) := rfl
  simp only [str_toList] at hK
  rw [hee] at hE
  change ∀ u b, Rd u b (str (takeK l).2.1) (takeK l).2.2 → Calls _ _ _ _ (fun e w' => e = .returned (.int .i64 (takeP l).1) ∧ Rd w' b (str (takeP l).2.1) (takeP l).2.2 ∧ But b u w') at hP
  change ∀ u b, Rd u b (str (takeP l).2.1) (takeP l).2.2 → Calls _ _ _ _ (fun e w' => e = .returned (.int .i64 (takeS l).1) ∧ Rd w' b (str (takeS l).2.1) (takeS l).2.2 ∧ But b u w') at hS
  change ∀ u b, Rd u b (str (takeS l).2.1) (takeS l).2.2 → Calls _ _ _ _ (fun e w' => e = .returned (.int .i64 (takeC l).1) ∧ Rd w' b (str (takeC l).2.1) (takeC l).2.2 ∧ But b u w') at hC
  change ∀ u b, Rd u b (str l) 0 → Calls _ _ _ _ (fun e w' => e = .returned (.string (str (takeK l).1)) ∧ Rd w' b (str (takeK l).2.1) (takeK l).2.2 ∧ But b u w') at hK
  clear hee h1 h2 h3 h4
  generalize endE ((takeC l).2.1, (takeC l).2.2) = EE at *
  generalize takeC l = C at *
  generalize takeS l = S at *
  generalize takeP l = P at *
  generalize takeK l = K at *
  obtain ⟨k, kr, ke⟩ := K
  obtain ⟨p, pr, pe⟩ := P
  obtain ⟨s, sr, se⟩ := S
  obtain ⟨c, cr, ce⟩ := C
  dsimp only at hd hK hP hS hC hE
  have hd2 : unsN l = ((k, p, s), c, 0) := by rw [hd, hCi, hE0, hA]; simp
  have HD2 := keep hd2
  have HC := keep hCi
  have HQ := keep hL
  have HA := keep hA
  clear hd hd2 hCi hL hA
  have HK := keep hK
  have HP := keep hP
  have HS := keep hS
  have HE := keep hE
  have HCn := keep hC
  clear hK hP hS hC hE
  go_enter Tryz.func48, Tryz.ntmps48
  go_upto_region 1 with fail
  rw [← hw0]
  clear hw0
  go_wp2_with fail
  refine (rdRead (str l) w0).mono ?_
  rintro x w1 ⟨rfl, hw1⟩
  have hg1 : Grow w0 w1 := by subst hw1; exact (Grow.refl _).alloc _
  have hD1 : Rd w1 w0.heap.size (str l) 0 := by subst hw1; exact Blk.new w0 _ [_, _]
  clear hw1
  have hR1 := hR0.fits hg1
  go_wp2_with fail
  refine (HK.out w1 _ hD1).mono ?_
  rintro x w2 ⟨rfl, hD2, hb2⟩
  have hR2 := hR1.but hb2 (by omega)
  go_wp2_with fail
  refine (HP.out w2 _ hD2).mono ?_
  rintro x w3 ⟨rfl, hD3, hb3⟩
  have hR3 := hR2.but hb3 (by omega)
  go_wp2_with fail
  refine (HS.out w3 _ hD3).mono ?_
  rintro x w4 ⟨rfl, hD4, hb4⟩
  have hR4 := hR3.but hb4 (by omega)
  have hbt : But w0.heap.size w1 w4 := (hb2.trans hb3).trans hb4
  have hg4 : Below w_.heap.size w_ w4 := But.below (Below.trans hg0 (hg1.mono (by omega))) hbt (by omega) (by have := hR1.lt; omega)
  clear hD1 hD2 hD3 hb2 hb3 hb4 hR1 hR2 hR3 hR0 hg0 hg1 hbt
  go_upto_region 3 with fail
  obtain ⟨w5, hw5⟩ : ∃ w5, w5 = w4.alloc (.cells #[.string (str k), .int .i64 p, .int .i64 s] 41) := ⟨_, rfl⟩
  rw [← hw5]
  have hg5 : Grow w4 w5 := by subst hw5; exact (Grow.refl _).alloc _
  have hN5 : Blk w5 w4.heap.size 41 [.string (str k), .int .i64 p, .int .i64 s] := by subst hw5; exact Blk.new w4 _ [_, _, _]
  have hD5 : Rd w5 w0.heap.size (str sr) se := Blk.fits hD4 hg5
  have hR5 := hR4.fits hg5
  have hlt4 := hD4.lt
  have hgg : Grow w_ w5 := Below.trans hg4 (hg5.mono (by have := hR4.lt; omega))
  clear hw5 hg5 hR4 hg4
  go_wp2_with fail
  refine (HCn.out w5 _ hD5).mono ?_
  rintro x w6 ⟨rfl, hD6, hb6⟩
  have hR6 := hR5.but hb6 (by omega)
  have hN6 := hN5.but hb6 (by omega)
  have hg6 : Grow w_ w6 := But.below hgg hb6 (by omega) (by have := hR5.lt; omega)
  clear hD4 hD5 hb6 hR5 hN5 hgg
  have HN0 := keep hN6
  have HN := keep (fun (u : World) (hu : Grow w6.drew u) => Blk.fits (w := w6.drew) hN6 hu)
  have HEu := keep (fun (u : World) (hu : Grow w6.drew u) => HE.out u w0.heap.size (Blk.fits (w := w6.drew) hD6 hu))
  clear hN6 hD6
  subst hE0
  go_wp2_with fail
  refine wp_region_grow (by kernel_rfl) 17 (by kernel_rfl) [(19, 0), (20, 1), (21, 2), (22, 3), (23, 4), (24, 5), (25, 6), (26, 7), (27, 8), (28, 9), (29, 10), (30, 11), (31, 12), (32, 13), (33, 14), (34, 15), (35, 16)] (by kernel_rfl) [(0, true), (1, true), (2, true), (3, true), (4, true), (5, true), (6, true), (7, true), (8, true), (9, true), (10, true), (11, true), (12, true), (13, true), (14, true), (15, true), (16, true)] (by kernel_rfl) rfl rfl ?_
  -- operation 0
  apply lex_eq [] [(21, 2), (22, 3), (23, 4), (24, 5), (25, 6), (26, 7), (27, 8), (28, 9), (29, 10), (30, 11), (31, 12), (32, 13), (33, 14), (34, 15), (35, 16), (36, 17)] (by kernel_rfl) (by kernel_rfl) rfl
  · intro xs w hw hp K hK
    simp only [putAll]
    go_simp
    exact hK _ (Grow.refl _)
  -- operation 1
  apply lex_eq [(0, true)] [(19, 0), (23, 4), (24, 5), (25, 6), (26, 7), (27, 8), (28, 9), (29, 10), (30, 11), (31, 12), (32, 13), (33, 14), (34, 15), (35, 16), (36, 17)] (by kernel_rfl) (by kernel_rfl) rfl
  · intro xs w hw hp K hK
    simp only [holdsL, List.nil_append, List.cons_append, List.getD_cons_succ, List.getD_cons_zero, if_true, and_true] at hp
    simp only [putAll]
    go_simp
    exact (HEu.out w hw).mono fun e w' h => ⟨_, h.1, hK _ (by rw [← h.2]; exact Grow.refl _)⟩
  -- operation 2
  apply lex_eq [(1, true)] [(19, 0), (20, 1), (23, 4), (24, 5), (25, 6), (26, 7), (27, 8), (28, 9), (29, 10), (30, 11), (31, 12), (32, 13), (33, 14), (34, 15), (35, 16), (36, 17)] (by kernel_rfl) (by kernel_rfl) rfl
  · intro xs w hw hp K hK
    simp only [holdsL, List.nil_append, List.cons_append, List.getD_cons_succ, List.getD_cons_zero, if_true, and_true] at hp
    simp only [putAll]
    go_simp
    exact hK _ (Grow.refl _)
  -- operation 3
  apply lex_eq [(2, true)] [(19, 0), (20, 1), (21, 2), (27, 8), (28, 9), (29, 10), (30, 11), (31, 12), (32, 13), (33, 14), (34, 15), (35, 16), (36, 17)] (by kernel_rfl) (by kernel_rfl) rfl
  · intro xs w hw hp K hK
    simp only [holdsL, List.nil_append, List.cons_append, List.getD_cons_succ, List.getD_cons_zero, if_true, and_true] at hp
    simp only [putAll]
    go_simp
    exact hK _ (Grow.refl _)
  -- operation 4
  apply lex_eq [(3, true)] [(19, 0), (20, 1), (21, 2), (22, 3), (25, 6), (26, 7), (27, 8), (28, 9), (29, 10), (30, 11), (31, 12), (32, 13), (33, 14), (34, 15), (35, 16), (36, 17)] (by kernel_rfl) (by kernel_rfl) rfl
  · intro xs w hw hp K hK
    simp only [holdsL, List.nil_append, List.cons_append, List.getD_cons_succ, List.getD_cons_zero, if_true, and_true] at hp
    simp only [putAll]
    go_simp
    exact hK _ (Grow.refl _)
  -- operation 5
  apply lex_eq [(3, true), (4, true)] [(19, 0), (20, 1), (21, 2), (22, 3), (23, 4), (26, 7), (28, 9), (29, 10), (30, 11), (31, 12), (32, 13), (33, 14), (34, 15), (35, 16), (36, 17)] (by kernel_rfl) (by kernel_rfl) rfl
  · intro xs w hw hp K hK
    simp only [holdsL, List.nil_append, List.cons_append, List.getD_cons_succ, List.getD_cons_zero, if_true, and_true] at hp
    simp only [putAll]
    go_simp
    exact (isChild_any c w).mono fun e w' h => ⟨_, h.1.trans (by rw [HC.out]), hK _ (by rw [← h.2]; exact Grow.refl _)⟩
  -- operation 6
  apply lex_eq [(3, true), (5, true)] [(19, 0), (20, 1), (21, 2), (22, 3), (23, 4), (24, 5), (27, 8), (28, 9), (29, 10), (30, 11), (31, 12), (32, 13), (33, 14), (34, 15), (35, 16), (36, 17)] (by kernel_rfl) (by kernel_rfl) rfl
  · intro xs w hw hp K hK
    simp only [holdsL, List.nil_append, List.cons_append, List.getD_cons_succ, List.getD_cons_zero, if_true, and_true] at hp
    simp only [putAll]
    go_simp
    exact hK _ (Grow.refl _)
  -- operation 7
  apply lex_eq [(3, true), (6, true)] [(19, 0), (20, 1), (21, 2), (22, 3), (23, 4), (24, 5), (25, 6), (28, 9), (29, 10), (30, 11), (31, 12), (32, 13), (33, 14), (34, 15), (35, 16), (36, 17)] (by kernel_rfl) (by kernel_rfl) rfl
  · intro xs w hw hp K hK
    simp only [holdsL, List.nil_append, List.cons_append, List.getD_cons_succ, List.getD_cons_zero, if_true, and_true] at hp
    simp only [putAll]
    go_simp
    exact hK _ (Grow.refl _)
  -- operation 8
  apply lex_eq [(7, true)] [(19, 0), (20, 1), (21, 2), (22, 3), (23, 4), (24, 5), (25, 6), (26, 7), (32, 13), (33, 14), (34, 15)] (by kernel_rfl) (by kernel_rfl) rfl
  · intro xs w hw hp K hK
    simp only [holdsL, List.nil_append, List.cons_append, List.getD_cons_succ, List.getD_cons_zero, if_true, and_true] at hp
    simp only [putAll]
    go_simp
    exact hK _ (Grow.refl _)
  -- operation 9
  apply lex_eq [(8, true)] [(19, 0), (20, 1), (21, 2), (22, 3), (23, 4), (24, 5), (25, 6), (26, 7), (27, 8), (29, 10), (31, 12), (32, 13), (33, 14), (34, 15), (35, 16), (36, 17)] (by kernel_rfl) (by kernel_rfl) rfl
  · intro xs w hw hp K hK
    simp only [holdsL, List.nil_append, List.cons_append, List.getD_cons_succ, List.getD_cons_zero, if_true, and_true] at hp
    simp only [putAll]
    have h2 := enres (HN.out w hw)
    have c0 := h2.1
    have c1 := h2.2.1
    have c2 := h2.2.2.1
    go_simp
    exact hK _ (Grow.refl _)
  -- operation 10
  apply lex_eq [(8, true)] [(19, 0), (20, 1), (21, 2), (22, 3), (23, 4), (24, 5), (25, 6), (26, 7), (27, 8), (28, 9), (32, 13), (33, 14), (34, 15), (35, 16), (36, 17)] (by kernel_rfl) (by kernel_rfl) rfl
  · intro xs w hw hp K hK
    simp only [holdsL, List.nil_append, List.cons_append, List.getD_cons_succ, List.getD_cons_zero, if_true, and_true] at hp
    simp only [putAll]
    go_simp
    exact (least_any w).mono fun e w' h => ⟨_, h.1, hK _ h.2⟩
  -- operation 11
  apply lex_eq [(8, true), (9, true), (10, true)] [(19, 0), (20, 1), (21, 2), (22, 3), (23, 4), (24, 5), (25, 6), (26, 7), (27, 8), (28, 9), (29, 10), (32, 13), (33, 14), (34, 15), (35, 16), (36, 17)] (by kernel_rfl) (by kernel_rfl) rfl
  · intro xs w hw hp K hK
    simp only [holdsL, List.nil_append, List.cons_append, List.getD_cons_succ, List.getD_cons_zero, if_true, and_true] at hp
    unfold enV at hp
    simp only [putAll]
    go_simp
    simp only [HQ.out, Bool.not_true, Bool.not_false]
    exact hK _ (Grow.refl _)
  -- operation 12
  apply lex_eq [(8, true), (11, true)] [(19, 0), (20, 1), (21, 2), (22, 3), (23, 4), (24, 5), (25, 6), (26, 7), (27, 8), (28, 9), (29, 10), (30, 11), (36, 17)] (by kernel_rfl) (by kernel_rfl) rfl
  · intro xs w hw hp K hK
    simp only [holdsL, List.nil_append, List.cons_append, List.getD_cons_succ, List.getD_cons_zero, if_true, and_true] at hp
    simp only [putAll]
    go_simp
    exact hK _ (Grow.refl _)
  -- operation 13
  apply lex_eq [(12, true)] [(19, 0), (20, 1), (21, 2), (22, 3), (23, 4), (24, 5), (25, 6), (26, 7), (27, 8), (28, 9), (29, 10), (30, 11), (31, 12), (34, 15), (35, 16), (36, 17)] (by kernel_rfl) (by kernel_rfl) rfl
  · intro xs w hw hp K hK
    simp only [holdsL, List.nil_append, List.cons_append, List.getD_cons_succ, List.getD_cons_zero, if_true, and_true] at hp
    simp only [putAll]
    have h2 := enres (HN.out w hw)
    have c0 := h2.1
    have c1 := h2.2.1
    have c2 := h2.2.2.1
    go_simp
    exact hK _ (Grow.refl _)
  -- operation 14
  apply lex_eq [(12, true), (13, true)] [(19, 0), (20, 1), (21, 2), (22, 3), (23, 4), (24, 5), (25, 6), (26, 7), (27, 8), (28, 9), (29, 10), (30, 11), (31, 12), (32, 13), (35, 16), (36, 17)] (by kernel_rfl) (by kernel_rfl) rfl
  · intro xs w hw hp K hK
    simp only [holdsL, List.nil_append, List.cons_append, List.getD_cons_succ, List.getD_cons_zero, if_true, and_true] at hp
    simp only [putAll]
    go_simp
    exact (isEntry_any (k, p, s) w).mono fun e w' h => ⟨_, h.1.trans (by rw [HA.out]), hK _ h.2⟩
  -- operation 15
  apply lex_eq [(12, true), (14, true)] [(19, 0), (20, 1), (21, 2), (22, 3), (23, 4), (24, 5), (25, 6), (26, 7), (27, 8), (28, 9), (29, 10), (30, 11), (31, 12), (32, 13), (33, 14), (36, 17)] (by kernel_rfl) (by kernel_rfl) rfl
  · intro xs w hw hp K hK
    simp only [holdsL, List.nil_append, List.cons_append, List.getD_cons_succ, List.getD_cons_zero, if_true, and_true] at hp
    simp only [putAll]
    go_simp
    exact hK _ (Grow.refl _)
  -- operation 16
  apply lex_eq [(8, true), (12, true), (15, true)] [(19, 0), (20, 1), (21, 2), (22, 3), (23, 4), (24, 5), (25, 6), (26, 7), (27, 8), (28, 9), (29, 10), (30, 11), (31, 12), (32, 13), (33, 14), (34, 15)] (by kernel_rfl) (by kernel_rfl) rfl
  · intro xs w hw hp K hK
    simp only [holdsL, List.nil_append, List.cons_append, List.getD_cons_succ, List.getD_cons_zero, if_true, and_true] at hp
    simp only [putAll]
    go_simp
    exact hK _ (Grow.refl _)
  intro xs w hw hp
  generalize hA : putAll xs _ _ = A
  simp only [holdsL, List.nil_append, List.cons_append, List.getD_cons_succ, List.getD_cons_zero, if_true, and_true] at hp
  have h8 := hp.2.2.2.2.2.2.2.2.1
  have h16 := hp.2.2.2.2.2.2.2.2.2.2.2.2.2.2.2.2
  clear hp
  subst hA
  simp only [putAll, h8, h16]
  have hgw : Grow w6 w := hw.undrew
  have hR7 := hR6.fits hgw
  have hN7 := HN0.out.fits hgw
  have hg7 := Grow.trans hg6 hgw
  have Hlt := keep hR7.lt
  clear hw h8 h16 hgw hR6 hg6
  obtain ⟨r0, r1, r2, f0, f1, f2⟩ := enres hR7
  obtain ⟨c0, c1, c2, _⟩ := enres hN7
  have Hset := keep (enset hR7 (.string (str k)) (.int .i64 p) (.int .i64 s))
  have Hbut := keep (enbut w w_.heap.size (.string (str k)) (.int .i64 p) (.int .i64 s))
  clear hR7 hN7
  go_wp2_with fail
  rw [HD2.out]
  refine bodyPost_ret (v := .tuple #[enV (k, p, s), .int .i64 c, .int .i64 0]) ?_ rfl ⟨rfl, But.below hg7 Hbut.out (Nat.le_refl _) (Nat.le_of_lt Hlt.out)⟩
  obtain ⟨s0, s1, s2, _⟩ := enres Hset.out
  simp [results, Tryz.results48, go_sem, s0, s1, s2, enV]

set_option maxRecDepth 100000 in
set_option maxHeartbeats 2000000 in
theorem unsep_5 (l : List UInt8) (w_ : World) (hs : (l.length : Int) ≤ 9223372036854775807)
    (hE0 : endE ((takeC l).2.1, (takeC l).2.2) = 0) (hCi : inB (takeC l).1 1 65535 = true) (hL : isL ((takeK l).1, (takeP l).1, (takeS l).1) = false) (hA : enOk ((takeK l).1, (takeP l).1, (takeS l).1) = false) :
    Calls Tryz.prog 48 #[.string (str l)] w_ fun x w' => x = .returned (.tuple #[enV (unsN l).1, .int .i64 (unsN l).2.1, .int .i64 (unsN l).2.2]) ∧ Below w_.heap.size w_ w' := by
  obtain ⟨w0, hw0⟩ : ∃ w0, w0 = (w_.alloc (.cells #[.string ⟨#[]⟩, .int .i64 0, .int .i64 0] 41)) := ⟨_, rfl⟩
  have hg0 : Grow w_ w0 := by subst hw0; exact (Grow.refl w_).alloc _
  have hR0 : Blk w0 w_.heap.size 41 [.string ⟨#[]⟩, .int .i64 0, .int .i64 0] := by subst hw0; exact Blk.new w_ _ [_, _, _]
  have hz0 : w_.heap.size < w0.heap.size := hR0.lt
  have h1 := takeK_le l
  have h2 := takeP_le l
  have h3 := takeS_le l
  have h4 := takeC_le l
  have hd : unsN l = if decide (endE ((takeC l).2.1, (takeC l).2.2) = 0) && (inB (takeC l).1 1 65535 && (decide (((takeK l).1, (takeP l).1, (takeS l).1) = leastE) || enOk ((takeK l).1, (takeP l).1, (takeS l).1))) then (((takeK l).1, (takeP l).1, (takeS l).1), (takeC l).1, 0) else (leastE, 0, 140) := rfl
  have hK := fun u b (h : Rd u b (str l) 0) => rdText_ok b (str l) 24 u h (by unfold maxLen; simp; omega) (by decide)
  have hP := fun u b (h : Rd u b (str (takeK l).2.1) (takeK l).2.2) => rdNum_any b 65535 ((takeK l).2.1, (takeK l).2.2) u h (by dsimp only; omega) (by decide)
  have hS := fun u b (h : Rd u b (str (takeP l).2.1) (takeP l).2.2) => rdNum_any b 65535 ((takeP l).2.1, (takeP l).2.2) u h (by dsimp only; omega) (by decide)
  have hC := fun u b (h : Rd u b (str (takeS l).2.1) (takeS l).2.2) => rdNum_any b 65535 ((takeS l).2.1, (takeS l).2.2) u h (by dsimp only; omega) (by decide)
  have hE := fun u b (h : Rd u b (str (takeC l).2.1) (takeC l).2.2) => rdEnd b (str (takeC l).2.1) (takeC l).2.2 u h
  have hee : (if (takeC l).2.2 = 0 ∧ 0 < (str (takeC l).2.1).size then (12 : Int) else (takeC l).2.2) = endE ((takeC l).2.1, (takeC l).2.2) := rfl
  simp only [str_toList] at hK
  rw [hee] at hE
  change ∀ u b, Rd u b (str (takeK l).2.1) (takeK l).2.2 → Calls _ _ _ _ (fun e w' => e = .returned (.int .i64 (takeP l).1) ∧ Rd w' b (str (takeP l).2.1) (takeP l).2.2 ∧ But b u w') at hP
  change ∀ u b, Rd u b (str (takeP l).2.1) (takeP l).2.2 → Calls _ _ _ _ (fun e w' => e = .returned (.int .i64 (takeS l).1) ∧ Rd w' b (str (takeS l).2.1) (takeS l).2.2 ∧ But b u w') at hS
  change ∀ u b, Rd u b (str (takeS l).2.1) (takeS l).2.2 → Calls _ _ _ _ (fun e w' => e = .returned (.int .i64 (takeC l).1) ∧ Rd w' b (str (takeC l).2.1) (takeC l).2.2 ∧ But b u w') at hC
  change ∀ u b, Rd u b (str l) 0 → Calls _ _ _ _ (fun e w' => e = .returned (.string (str (takeK l).1)) ∧ Rd w' b (str (takeK l).2.1) (takeK l).2.2 ∧ But b u w') at hK
  clear hee h1 h2 h3 h4
  generalize endE ((takeC l).2.1, (takeC l).2.2) = EE at *
  generalize takeC l = C at *
  generalize takeS l = S at *
  generalize takeP l = P at *
  generalize takeK l = K at *
  obtain ⟨k, kr, ke⟩ := K
  obtain ⟨p, pr, pe⟩ := P
  obtain ⟨s, sr, se⟩ := S
  obtain ⟨c, cr, ce⟩ := C
  dsimp only at hd hK hP hS hC hE
  have hd2 : unsN l = (leastE, 0, 140) := by rw [hd, hCi, hE0, hA, show decide ((k, p, s) = leastE) = false from hL]; rfl
  have HD2 := keep hd2
  have HC := keep hCi
  have HQ := keep hL
  have HA := keep hA
  clear hd hd2 hCi hL hA
  have HK := keep hK
  have HP := keep hP
  have HS := keep hS
  have HE := keep hE
  have HCn := keep hC
  clear hK hP hS hC hE
  go_enter Tryz.func48, Tryz.ntmps48
  go_upto_region 1 with fail
  rw [← hw0]
  clear hw0
  go_wp2_with fail
  refine (rdRead (str l) w0).mono ?_
  rintro x w1 ⟨rfl, hw1⟩
  have hg1 : Grow w0 w1 := by subst hw1; exact (Grow.refl _).alloc _
  have hD1 : Rd w1 w0.heap.size (str l) 0 := by subst hw1; exact Blk.new w0 _ [_, _]
  clear hw1
  have hR1 := hR0.fits hg1
  go_wp2_with fail
  refine (HK.out w1 _ hD1).mono ?_
  rintro x w2 ⟨rfl, hD2, hb2⟩
  have hR2 := hR1.but hb2 (by omega)
  go_wp2_with fail
  refine (HP.out w2 _ hD2).mono ?_
  rintro x w3 ⟨rfl, hD3, hb3⟩
  have hR3 := hR2.but hb3 (by omega)
  go_wp2_with fail
  refine (HS.out w3 _ hD3).mono ?_
  rintro x w4 ⟨rfl, hD4, hb4⟩
  have hR4 := hR3.but hb4 (by omega)
  have hbt : But w0.heap.size w1 w4 := (hb2.trans hb3).trans hb4
  have hg4 : Below w_.heap.size w_ w4 := But.below (Below.trans hg0 (hg1.mono (by omega))) hbt (by omega) (by have := hR1.lt; omega)
  clear hD1 hD2 hD3 hb2 hb3 hb4 hR1 hR2 hR3 hR0 hg0 hg1 hbt
  go_upto_region 3 with fail
  obtain ⟨w5, hw5⟩ : ∃ w5, w5 = w4.alloc (.cells #[.string (str k), .int .i64 p, .int .i64 s] 41) := ⟨_, rfl⟩
  rw [← hw5]
  have hg5 : Grow w4 w5 := by subst hw5; exact (Grow.refl _).alloc _
  have hN5 : Blk w5 w4.heap.size 41 [.string (str k), .int .i64 p, .int .i64 s] := by subst hw5; exact Blk.new w4 _ [_, _, _]
  have hD5 : Rd w5 w0.heap.size (str sr) se := Blk.fits hD4 hg5
  have hR5 := hR4.fits hg5
  have hlt4 := hD4.lt
  have hgg : Grow w_ w5 := Below.trans hg4 (hg5.mono (by have := hR4.lt; omega))
  clear hw5 hg5 hR4 hg4
  go_wp2_with fail
  refine (HCn.out w5 _ hD5).mono ?_
  rintro x w6 ⟨rfl, hD6, hb6⟩
  have hR6 := hR5.but hb6 (by omega)
  have hN6 := hN5.but hb6 (by omega)
  have hg6 : Grow w_ w6 := But.below hgg hb6 (by omega) (by have := hR5.lt; omega)
  clear hD4 hD5 hb6 hR5 hN5 hgg
  have HN0 := keep hN6
  have HN := keep (fun (u : World) (hu : Grow w6.drew u) => Blk.fits (w := w6.drew) hN6 hu)
  have HEu := keep (fun (u : World) (hu : Grow w6.drew u) => HE.out u w0.heap.size (Blk.fits (w := w6.drew) hD6 hu))
  clear hN6 hD6
  subst hE0
  go_wp2_with fail
  refine wp_region_grow (by kernel_rfl) 17 (by kernel_rfl) [(19, 0), (20, 1), (21, 2), (22, 3), (23, 4), (24, 5), (25, 6), (26, 7), (27, 8), (28, 9), (29, 10), (30, 11), (31, 12), (32, 13), (33, 14), (34, 15), (35, 16)] (by kernel_rfl) [(0, true), (1, true), (2, true), (3, true), (4, true), (5, true), (6, true), (7, true), (8, true), (9, true), (10, true), (11, true), (12, true), (13, true), (14, true), (15, true), (16, true)] (by kernel_rfl) rfl rfl ?_
  -- operation 0
  apply lex_eq [] [(21, 2), (22, 3), (23, 4), (24, 5), (25, 6), (26, 7), (27, 8), (28, 9), (29, 10), (30, 11), (31, 12), (32, 13), (33, 14), (34, 15), (35, 16), (36, 17)] (by kernel_rfl) (by kernel_rfl) rfl
  · intro xs w hw hp K hK
    simp only [putAll]
    go_simp
    exact hK _ (Grow.refl _)
  -- operation 1
  apply lex_eq [(0, true)] [(19, 0), (23, 4), (24, 5), (25, 6), (26, 7), (27, 8), (28, 9), (29, 10), (30, 11), (31, 12), (32, 13), (33, 14), (34, 15), (35, 16), (36, 17)] (by kernel_rfl) (by kernel_rfl) rfl
  · intro xs w hw hp K hK
    simp only [holdsL, List.nil_append, List.cons_append, List.getD_cons_succ, List.getD_cons_zero, if_true, and_true] at hp
    simp only [putAll]
    go_simp
    exact (HEu.out w hw).mono fun e w' h => ⟨_, h.1, hK _ (by rw [← h.2]; exact Grow.refl _)⟩
  -- operation 2
  apply lex_eq [(1, true)] [(19, 0), (20, 1), (23, 4), (24, 5), (25, 6), (26, 7), (27, 8), (28, 9), (29, 10), (30, 11), (31, 12), (32, 13), (33, 14), (34, 15), (35, 16), (36, 17)] (by kernel_rfl) (by kernel_rfl) rfl
  · intro xs w hw hp K hK
    simp only [holdsL, List.nil_append, List.cons_append, List.getD_cons_succ, List.getD_cons_zero, if_true, and_true] at hp
    simp only [putAll]
    go_simp
    exact hK _ (Grow.refl _)
  -- operation 3
  apply lex_eq [(2, true)] [(19, 0), (20, 1), (21, 2), (27, 8), (28, 9), (29, 10), (30, 11), (31, 12), (32, 13), (33, 14), (34, 15), (35, 16), (36, 17)] (by kernel_rfl) (by kernel_rfl) rfl
  · intro xs w hw hp K hK
    simp only [holdsL, List.nil_append, List.cons_append, List.getD_cons_succ, List.getD_cons_zero, if_true, and_true] at hp
    simp only [putAll]
    go_simp
    exact hK _ (Grow.refl _)
  -- operation 4
  apply lex_eq [(3, true)] [(19, 0), (20, 1), (21, 2), (22, 3), (25, 6), (26, 7), (27, 8), (28, 9), (29, 10), (30, 11), (31, 12), (32, 13), (33, 14), (34, 15), (35, 16), (36, 17)] (by kernel_rfl) (by kernel_rfl) rfl
  · intro xs w hw hp K hK
    simp only [holdsL, List.nil_append, List.cons_append, List.getD_cons_succ, List.getD_cons_zero, if_true, and_true] at hp
    simp only [putAll]
    go_simp
    exact hK _ (Grow.refl _)
  -- operation 5
  apply lex_eq [(3, true), (4, true)] [(19, 0), (20, 1), (21, 2), (22, 3), (23, 4), (26, 7), (28, 9), (29, 10), (30, 11), (31, 12), (32, 13), (33, 14), (34, 15), (35, 16), (36, 17)] (by kernel_rfl) (by kernel_rfl) rfl
  · intro xs w hw hp K hK
    simp only [holdsL, List.nil_append, List.cons_append, List.getD_cons_succ, List.getD_cons_zero, if_true, and_true] at hp
    simp only [putAll]
    go_simp
    exact (isChild_any c w).mono fun e w' h => ⟨_, h.1.trans (by rw [HC.out]), hK _ (by rw [← h.2]; exact Grow.refl _)⟩
  -- operation 6
  apply lex_eq [(3, true), (5, true)] [(19, 0), (20, 1), (21, 2), (22, 3), (23, 4), (24, 5), (27, 8), (28, 9), (29, 10), (30, 11), (31, 12), (32, 13), (33, 14), (34, 15), (35, 16), (36, 17)] (by kernel_rfl) (by kernel_rfl) rfl
  · intro xs w hw hp K hK
    simp only [holdsL, List.nil_append, List.cons_append, List.getD_cons_succ, List.getD_cons_zero, if_true, and_true] at hp
    simp only [putAll]
    go_simp
    exact hK _ (Grow.refl _)
  -- operation 7
  apply lex_eq [(3, true), (6, true)] [(19, 0), (20, 1), (21, 2), (22, 3), (23, 4), (24, 5), (25, 6), (28, 9), (29, 10), (30, 11), (31, 12), (32, 13), (33, 14), (34, 15), (35, 16), (36, 17)] (by kernel_rfl) (by kernel_rfl) rfl
  · intro xs w hw hp K hK
    simp only [holdsL, List.nil_append, List.cons_append, List.getD_cons_succ, List.getD_cons_zero, if_true, and_true] at hp
    simp only [putAll]
    go_simp
    exact hK _ (Grow.refl _)
  -- operation 8
  apply lex_eq [(7, true)] [(19, 0), (20, 1), (21, 2), (22, 3), (23, 4), (24, 5), (25, 6), (26, 7), (32, 13), (33, 14), (34, 15)] (by kernel_rfl) (by kernel_rfl) rfl
  · intro xs w hw hp K hK
    simp only [holdsL, List.nil_append, List.cons_append, List.getD_cons_succ, List.getD_cons_zero, if_true, and_true] at hp
    simp only [putAll]
    go_simp
    exact hK _ (Grow.refl _)
  -- operation 9
  apply lex_eq [(8, true)] [(19, 0), (20, 1), (21, 2), (22, 3), (23, 4), (24, 5), (25, 6), (26, 7), (27, 8), (29, 10), (31, 12), (32, 13), (33, 14), (34, 15), (35, 16), (36, 17)] (by kernel_rfl) (by kernel_rfl) rfl
  · intro xs w hw hp K hK
    simp only [holdsL, List.nil_append, List.cons_append, List.getD_cons_succ, List.getD_cons_zero, if_true, and_true] at hp
    simp only [putAll]
    have h2 := enres (HN.out w hw)
    have c0 := h2.1
    have c1 := h2.2.1
    have c2 := h2.2.2.1
    go_simp
    exact hK _ (Grow.refl _)
  -- operation 10
  apply lex_eq [(8, true)] [(19, 0), (20, 1), (21, 2), (22, 3), (23, 4), (24, 5), (25, 6), (26, 7), (27, 8), (28, 9), (32, 13), (33, 14), (34, 15), (35, 16), (36, 17)] (by kernel_rfl) (by kernel_rfl) rfl
  · intro xs w hw hp K hK
    simp only [holdsL, List.nil_append, List.cons_append, List.getD_cons_succ, List.getD_cons_zero, if_true, and_true] at hp
    simp only [putAll]
    go_simp
    exact (least_any w).mono fun e w' h => ⟨_, h.1, hK _ h.2⟩
  -- operation 11
  apply lex_eq [(8, true), (9, true), (10, true)] [(19, 0), (20, 1), (21, 2), (22, 3), (23, 4), (24, 5), (25, 6), (26, 7), (27, 8), (28, 9), (29, 10), (32, 13), (33, 14), (34, 15), (35, 16), (36, 17)] (by kernel_rfl) (by kernel_rfl) rfl
  · intro xs w hw hp K hK
    simp only [holdsL, List.nil_append, List.cons_append, List.getD_cons_succ, List.getD_cons_zero, if_true, and_true] at hp
    unfold enV at hp
    simp only [putAll]
    go_simp
    simp only [HQ.out, Bool.not_true, Bool.not_false]
    exact hK _ (Grow.refl _)
  -- operation 12
  apply lex_eq [(8, true), (11, true)] [(19, 0), (20, 1), (21, 2), (22, 3), (23, 4), (24, 5), (25, 6), (26, 7), (27, 8), (28, 9), (29, 10), (30, 11), (36, 17)] (by kernel_rfl) (by kernel_rfl) rfl
  · intro xs w hw hp K hK
    simp only [holdsL, List.nil_append, List.cons_append, List.getD_cons_succ, List.getD_cons_zero, if_true, and_true] at hp
    simp only [putAll]
    go_simp
    exact hK _ (Grow.refl _)
  -- operation 13
  apply lex_eq [(12, true)] [(19, 0), (20, 1), (21, 2), (22, 3), (23, 4), (24, 5), (25, 6), (26, 7), (27, 8), (28, 9), (29, 10), (30, 11), (31, 12), (34, 15), (35, 16), (36, 17)] (by kernel_rfl) (by kernel_rfl) rfl
  · intro xs w hw hp K hK
    simp only [holdsL, List.nil_append, List.cons_append, List.getD_cons_succ, List.getD_cons_zero, if_true, and_true] at hp
    simp only [putAll]
    have h2 := enres (HN.out w hw)
    have c0 := h2.1
    have c1 := h2.2.1
    have c2 := h2.2.2.1
    go_simp
    exact hK _ (Grow.refl _)
  -- operation 14
  apply lex_eq [(12, true), (13, true)] [(19, 0), (20, 1), (21, 2), (22, 3), (23, 4), (24, 5), (25, 6), (26, 7), (27, 8), (28, 9), (29, 10), (30, 11), (31, 12), (32, 13), (35, 16), (36, 17)] (by kernel_rfl) (by kernel_rfl) rfl
  · intro xs w hw hp K hK
    simp only [holdsL, List.nil_append, List.cons_append, List.getD_cons_succ, List.getD_cons_zero, if_true, and_true] at hp
    simp only [putAll]
    go_simp
    exact (isEntry_any (k, p, s) w).mono fun e w' h => ⟨_, h.1.trans (by rw [HA.out]), hK _ h.2⟩
  -- operation 15
  apply lex_eq [(12, true), (14, true)] [(19, 0), (20, 1), (21, 2), (22, 3), (23, 4), (24, 5), (25, 6), (26, 7), (27, 8), (28, 9), (29, 10), (30, 11), (31, 12), (32, 13), (33, 14), (36, 17)] (by kernel_rfl) (by kernel_rfl) rfl
  · intro xs w hw hp K hK
    simp only [holdsL, List.nil_append, List.cons_append, List.getD_cons_succ, List.getD_cons_zero, if_true, and_true] at hp
    simp only [putAll]
    go_simp
    exact hK _ (Grow.refl _)
  -- operation 16
  apply lex_eq [(8, true), (12, true), (15, true)] [(19, 0), (20, 1), (21, 2), (22, 3), (23, 4), (24, 5), (25, 6), (26, 7), (27, 8), (28, 9), (29, 10), (30, 11), (31, 12), (32, 13), (33, 14), (34, 15)] (by kernel_rfl) (by kernel_rfl) rfl
  · intro xs w hw hp K hK
    simp only [holdsL, List.nil_append, List.cons_append, List.getD_cons_succ, List.getD_cons_zero, if_true, and_true] at hp
    simp only [putAll]
    go_simp
    exact hK _ (Grow.refl _)
  intro xs w hw hp
  generalize hA : putAll xs _ _ = A
  simp only [holdsL, List.nil_append, List.cons_append, List.getD_cons_succ, List.getD_cons_zero, if_true, and_true] at hp
  have h8 := hp.2.2.2.2.2.2.2.2.1
  have h16 := hp.2.2.2.2.2.2.2.2.2.2.2.2.2.2.2.2
  clear hp
  subst hA
  simp only [putAll, h8, h16]
  have hgw : Grow w6 w := hw.undrew
  have hR7 := hR6.fits hgw
  have hN7 := HN0.out.fits hgw
  have hg7 := Grow.trans hg6 hgw
  have Hlt := keep hR7.lt
  clear hw h8 h16 hgw hR6 hg6
  obtain ⟨r0, r1, r2, f0, f1, f2⟩ := enres hR7
  have Hset := keep (enset hR7 (.string ⟨#[]⟩) (.int .i64 0) (.int .i64 0))
  have Hbut := keep (enbut w w_.heap.size (.string ⟨#[]⟩) (.int .i64 0) (.int .i64 0))
  clear hR7 hN7
  go_wp2_with fail
  rw [HD2.out]
  refine bodyPost_ret (v := .tuple #[enV leastE, .int .i64 0, .int .i64 140]) ?_ rfl ⟨rfl, But.below hg7 Hbut.out (Nat.le_refl _) (Nat.le_of_lt Hlt.out)⟩
  obtain ⟨s0, s1, s2, _⟩ := enres Hset.out
  simp [results, Tryz.results48, go_sem, s0, s1, s2, enV, leastE]
  rfl

theorem unsep_any (l : List UInt8) (w_ : World) (hs : (l.length : Int) ≤ 9223372036854775807) :
    Calls Tryz.prog 48 #[.string (str l)] w_ fun x w' => x = .returned (.tuple #[enV (unsN l).1, .int .i64 (unsN l).2.1, .int .i64 (unsN l).2.2]) ∧ Below w_.heap.size w_ w' := by
  by_cases hE : endE ((takeC l).2.1, (takeC l).2.2) = 0
  · cases hC : inB (takeC l).1 1 65535 with
    | false => exact unsep_2 l w_ hs hE hC
    | true =>
      cases hL : isL ((takeK l).1, (takeP l).1, (takeS l).1) with
      | true => exact unsep_3 l w_ hs hE hC hL
      | false =>
        cases hA : enOk ((takeK l).1, (takeP l).1, (takeS l).1) with
        | true => exact unsep_4 l w_ hs hE hC hL hA
        | false => exact unsep_5 l w_ hs hE hC hL hA
  · exact unsep_1 l w_ hs hE

end Go.Proofs.YtaninphcgeaepaaGreat
