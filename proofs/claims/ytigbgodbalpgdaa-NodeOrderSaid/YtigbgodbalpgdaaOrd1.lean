/- almonrylaw14.NodeOrder. -/
import Derived.Test.YtigbgodbalpgdaaAw1
namespace Go.Proofs.Ytigbgodbalpgdaa
open Go.RowKit
attribute [local go_sem] givesF_none givesF_some evalF_tmp evalF_const evalF_global evalF_func lookL isB_bool isB_undef givesUpon_value givesUpon_skip givesUpon_enter

attribute [local simp] eql_entry
attribute [local go_sem] guard_entry

set_option maxRecDepth 100000 in
set_option maxHeartbeats 4000000 in
theorem order_any (a b c : En) (w_ : World) : Calls Try.prog 3 #[enV a, enV b, enV c] w_ fun x w' => x = .returned (.bool true) ∧ Below w_.heap.size w_ w' := by
  have hab := fun u => compare_any a b u
  have hba := fun u => compare_any b a u
  have haa := fun u => compare_any a a u
  have hbc := fun u => compare_any b c u
  have hac := fun u => compare_any a c u
  have hea := fun u => encode_any a u
  have heb := fun u => encode_any b u
  rw [cmpE_self] at haa
  have hneg : cmpE b a = - cmpE a b := cmpE_neg b a
  have hsm : sameE a b = decide (cmpE a b = 0) := by unfold sameE; rw [decide_eq_decide]; exact cmpE_eq.symm
  have htr : cmpE a b = -1 → cmpE b c = -1 → cmpE a c = -1 := cmpE_trans
  have h3 := cmpE_three a b
  have h3b := cmpE_three b c
  have hin : (encN a).2 = 0 → (encN b).2 = 0 → ((encN a).1 = (encN b).1 ↔ cmpE a b = 0) := fun h k => (enc_inj h k).trans cmpE_eq.symm
  rw [hneg] at hba
  clear hneg
  generalize cmpE a b = X at *
  generalize cmpE b c = Z at *
  generalize cmpE a c = V at *
  generalize encN a = EA at *
  generalize encN b = EB at *
  obtain ⟨ea, ca⟩ := EA
  obtain ⟨eb, cb⟩ := EB
  obtain ⟨k1, p1, s1⟩ := a
  obtain ⟨k2, p2, s2⟩ := b
  obtain ⟨k3, p3, s3⟩ := c
  unfold enV at *
  dsimp only at hab hba haa hbc hac hea heb hin
  obtain ⟨w0, hw0⟩ : ∃ w0, w0 = (((w_.alloc (.cells #[.string (str k1), .int .i64 p1, .int .i64 s1] 23)).alloc (.cells #[.string (str k2), .int .i64 p2, .int .i64 s2] 23)).alloc (.cells #[.string (str k3), .int .i64 p3, .int .i64 s3] 23)) := ⟨_, rfl⟩
  have hg0 : Grow w_ w0 := by subst hw0; exact (((Grow.refl w_).alloc _).alloc _).alloc _
  have hA0 : Blk w0 w_.heap.size 23 [.string (str k1), .int .i64 p1, .int .i64 s1] := by
    have := ((Blk.new w_ 23 [.string (str k1), .int .i64 p1, .int .i64 s1]).alloc (.cells #[.string (str k2), .int .i64 p2, .int .i64 s2] 23)).alloc (.cells #[.string (str k3), .int .i64 p3, .int .i64 s3] 23)
    subst hw0; exact this
  have hB0 : Blk w0 (w_.heap.size + 1) 23 [.string (str k2), .int .i64 p2, .int .i64 s2] := by
    have := (Blk.new (w_.alloc (.cells #[.string (str k1), .int .i64 p1, .int .i64 s1] 23)) 23 [.string (str k2), .int .i64 p2, .int .i64 s2]).alloc (.cells #[.string (str k3), .int .i64 p3, .int .i64 s3] 23)
    have e : (w_.alloc (.cells #[.string (str k1), .int .i64 p1, .int .i64 s1] 23)).heap.size = w_.heap.size + 1 := by simp
    rw [e] at this
    subst hw0; exact this
  have hC0 : Blk w0 (w_.heap.size + 2) 23 [.string (str k3), .int .i64 p3, .int .i64 s3] := by
    have := Blk.new ((w_.alloc (.cells #[.string (str k1), .int .i64 p1, .int .i64 s1] 23)).alloc (.cells #[.string (str k2), .int .i64 p2, .int .i64 s2] 23)) 23 [.string (str k3), .int .i64 p3, .int .i64 s3]
    have e : ((w_.alloc (.cells #[.string (str k1), .int .i64 p1, .int .i64 s1] 23)).alloc (.cells #[.string (str k2), .int .i64 p2, .int .i64 s2] 23)).heap.size = w_.heap.size + 2 := by simp
    rw [e] at this
    subst hw0; exact this
  have HAB := keep hab
  have HBA := keep hba
  have HAA := keep haa
  have HBC := keep hbc
  have HAC := keep hac
  have HEA := keep hea
  have HEB := keep heb
  have HTr := keep htr
  have HIn := keep hin
  have H3b := keep h3b
  have HSm := keep hsm
  have HA0 := keep hA0
  have HB0 := keep hB0
  have HC0 := keep hC0
  have HG0 := keep hg0
  have HA7 := keep (fun (u : World) (hu : Grow w0.drew u) => Blk.fits (Blk.drew hA0) hu)
  have HB7 := keep (fun (u : World) (hu : Grow w0.drew u) => Blk.fits (Blk.drew hB0) hu)
  clear hab hba haa hbc hac hea heb htr hin h3b hsm hA0 hB0 hC0 hg0
  go_enter Try.func3, Try.ntmps3
  go_upto_region 1 with fail
  rw [← hw0]
  clear hw0
  go_cut [34] from 11 to 34 (fun sv wx => sv = .bool false ∧ Grow w0 wx)
  case first =>
    rcases h3 with rfl | rfl | rfl
    all_goals (have hsm2 := HSm.out; simp at hsm2; have HSm := keep hsm2; clear hsm2)
    · skip
      refine wp_region_grow_named (by kernel_rfl) 23 (by kernel_rfl) [(11, 0), (12, 1), (13, 2), (14, 3), (15, 4), (16, 5), (17, 6), (18, 7), (19, 8), (20, 9), (21, 10), (22, 11), (23, 12), (24, 13), (25, 14), (26, 15), (27, 16), (28, 17), (29, 18), (30, 19), (31, 20), (32, 21), (33, 22)] (by kernel_rfl) [(0, true), (1, true), (2, true), (3, true), (4, true), (5, true), (6, true), (7, true), (8, true), (9, true), (10, true), (11, true), (12, true), (13, true), (14, true), (15, true), (16, true), (17, true), (18, true), (19, true), (20, true), (21, true), (22, true)] (by kernel_rfl) rfl rfl ?_
      intro a0 ha0
      have hsz : a0.tmps.size = 77 := (size_at ha0).trans rfl
      have s3 := slot_at ha0 3 rfl
      have s4 := slot_at ha0 4 rfl
      have HA0 := keep ha0
      clear ha0
      -- operation 0
      apply lexf_eq hsz [] [(12, 1), (14, 3), (15, 4), (16, 5), (17, 6), (18, 7), (19, 8), (20, 9), (21, 10), (22, 11), (23, 12), (24, 13), (25, 14), (26, 15), (27, 16), (28, 17), (29, 18), (30, 19), (31, 20), (32, 21), (33, 22), (34, 23)] none (by kernel_rfl) (by kernel_rfl) (by kernel_rfl) (by kernel_rfl) rfl
      · intro xs w hw hp K hK
        obtain ⟨c0, c1, c2, _⟩ := enres (HA7.out w hw)
        go_simp
        exact hK _ (Grow.refl _)
      -- operation 1
      apply lexf_eq hsz [] [(11, 0), (14, 3), (15, 4), (16, 5), (17, 6), (18, 7), (19, 8), (20, 9), (21, 10), (22, 11), (23, 12), (24, 13), (25, 14), (26, 15), (27, 16), (28, 17), (29, 18), (30, 19), (31, 20), (32, 21), (33, 22), (34, 23)] none (by kernel_rfl) (by kernel_rfl) (by kernel_rfl) (by kernel_rfl) rfl
      · intro xs w hw hp K hK
        obtain ⟨c0, c1, c2, _⟩ := enres (HB7.out w hw)
        go_simp
        exact hK _ (Grow.refl _)
      -- operation 2
      apply lexf_eq hsz [(0, true), (1, true)] [(11, 0), (12, 1), (14, 3), (15, 4), (17, 6), (19, 8), (20, 9), (21, 10), (22, 11), (23, 12), (24, 13), (25, 14), (26, 15), (27, 16), (28, 17), (29, 18), (30, 19), (31, 20), (32, 21), (33, 22), (34, 23)] none (by kernel_rfl) (by kernel_rfl) (by kernel_rfl) (by kernel_rfl) rfl
      · intro xs w hw hp K hK
        simp only [holdsL, List.nil_append, List.cons_append, List.getD_cons_succ, List.getD_cons_zero, if_true, and_true] at hp
        go_simp
        exact (HAB.out w).mono fun e w' h => ⟨_, h.1, hK _ h.2⟩
      -- operation 3
      apply lexf_eq hsz [] [(11, 0), (12, 1), (13, 2), (15, 4), (17, 6), (18, 7), (19, 8), (20, 9), (21, 10), (22, 11), (23, 12), (24, 13), (25, 14), (26, 15), (27, 16), (28, 17), (29, 18), (30, 19), (31, 20), (32, 21), (33, 22), (34, 23)] none (by kernel_rfl) (by kernel_rfl) (by kernel_rfl) (by kernel_rfl) rfl
      · intro xs w hw hp K hK
        obtain ⟨c0, c1, c2, _⟩ := enres (HB7.out w hw)
        go_simp
        exact hK _ (Grow.refl _)
      -- operation 4
      apply lexf_eq hsz [] [(11, 0), (12, 1), (13, 2), (14, 3), (17, 6), (18, 7), (19, 8), (20, 9), (21, 10), (22, 11), (23, 12), (24, 13), (25, 14), (26, 15), (27, 16), (28, 17), (29, 18), (30, 19), (31, 20), (32, 21), (33, 22), (34, 23)] none (by kernel_rfl) (by kernel_rfl) (by kernel_rfl) (by kernel_rfl) rfl
      · intro xs w hw hp K hK
        obtain ⟨c0, c1, c2, _⟩ := enres (HA7.out w hw)
        go_simp
        exact hK _ (Grow.refl _)
      -- operation 5
      apply lexf_eq hsz [(3, true), (4, true)] [(11, 0), (12, 1), (13, 2), (14, 3), (15, 4), (18, 7), (20, 9), (21, 10), (22, 11), (23, 12), (24, 13), (25, 14), (26, 15), (27, 16), (28, 17), (29, 18), (30, 19), (31, 20), (32, 21), (33, 22), (34, 23)] none (by kernel_rfl) (by kernel_rfl) (by kernel_rfl) (by kernel_rfl) rfl
      · intro xs w hw hp K hK
        simp only [holdsL, List.nil_append, List.cons_append, List.getD_cons_succ, List.getD_cons_zero, if_true, and_true] at hp
        go_simp
        exact (HBA.out w).mono fun e w' h => ⟨_, h.1, hK _ h.2⟩
      -- operation 6
      apply lexf_eq hsz [(5, true)] [(11, 0), (12, 1), (13, 2), (14, 3), (15, 4), (16, 5), (19, 8), (20, 9), (21, 10), (22, 11), (23, 12), (24, 13), (25, 14), (26, 15), (27, 16), (28, 17), (29, 18), (30, 19), (31, 20), (32, 21), (33, 22), (34, 23)] none (by kernel_rfl) (by kernel_rfl) (by kernel_rfl) (by kernel_rfl) rfl
      · intro xs w hw hp K hK
        simp only [holdsL, List.nil_append, List.cons_append, List.getD_cons_succ, List.getD_cons_zero, if_true, and_true] at hp
        go_simp
        exact hK _ (Grow.refl _)
      -- operation 7
      apply lexf_eq hsz [(2, true), (6, true)] [(11, 0), (12, 1), (13, 2), (14, 3), (15, 4), (16, 5), (17, 6), (20, 9), (21, 10), (22, 11), (23, 12), (24, 13), (25, 14), (26, 15), (27, 16), (28, 17), (29, 18), (30, 19), (31, 20), (32, 21), (33, 22), (34, 23)] none (by kernel_rfl) (by kernel_rfl) (by kernel_rfl) (by kernel_rfl) rfl
      · intro xs w hw hp K hK
        simp only [holdsL, List.nil_append, List.cons_append, List.getD_cons_succ, List.getD_cons_zero, if_true, and_true] at hp
        go_simp
        exact hK _ (Grow.refl _)
      -- operation 8
      apply lexf_eq hsz [(7, true)] [(11, 0), (12, 1), (13, 2), (14, 3), (15, 4), (16, 5), (17, 6), (18, 7), (29, 18), (30, 19), (31, 20), (32, 21), (33, 22), (34, 23)] none (by kernel_rfl) (by kernel_rfl) (by kernel_rfl) (by kernel_rfl) rfl
      · intro xs w hw hp K hK
        simp only [holdsL, List.nil_append, List.cons_append, List.getD_cons_succ, List.getD_cons_zero, if_true, and_true] at hp
        go_simp
        exact hK _ (Grow.refl _)
      -- operation 9
      apply lexf_eq hsz [(8, true)] [(11, 0), (12, 1), (13, 2), (14, 3), (15, 4), (16, 5), (17, 6), (18, 7), (19, 8), (21, 10), (23, 12), (24, 13), (25, 14), (26, 15), (27, 16), (28, 17), (29, 18), (30, 19), (31, 20), (32, 21), (33, 22), (34, 23)] (some (19, false)) (by kernel_rfl) (by kernel_rfl) (by kernel_rfl) (by kernel_rfl) rfl
      · intro xs w hw hp K hK
        simp only [holdsL, List.nil_append, List.cons_append, List.getD_cons_succ, List.getD_cons_zero, if_true, and_true] at hp
        obtain ⟨c0, c1, c2, _⟩ := enres (HA7.out w hw)
        go_simp
        exact hK _ (Grow.refl _)
      -- operation 10
      apply lexf_eq hsz [(8, true)] [(11, 0), (12, 1), (13, 2), (14, 3), (15, 4), (16, 5), (17, 6), (18, 7), (19, 8), (20, 9), (23, 12), (24, 13), (25, 14), (26, 15), (27, 16), (28, 17), (29, 18), (30, 19), (31, 20), (32, 21), (33, 22), (34, 23)] (some (19, false)) (by kernel_rfl) (by kernel_rfl) (by kernel_rfl) (by kernel_rfl) rfl
      · intro xs w hw hp K hK
        simp only [holdsL, List.nil_append, List.cons_append, List.getD_cons_succ, List.getD_cons_zero, if_true, and_true] at hp
        obtain ⟨c0, c1, c2, _⟩ := enres (HB7.out w hw)
        go_simp
        exact hK _ (Grow.refl _)
      -- operation 11
      apply lexf_eq hsz [(8, true), (9, true), (10, true)] [(11, 0), (12, 1), (13, 2), (14, 3), (15, 4), (16, 5), (17, 6), (18, 7), (19, 8), (20, 9), (21, 10), (24, 13), (25, 14), (26, 15), (27, 16), (28, 17), (30, 19), (31, 20), (32, 21), (33, 22), (34, 23)] (some (19, false)) (by kernel_rfl) (by kernel_rfl) (by kernel_rfl) (by kernel_rfl) rfl
      · intro xs w hw hp K hK
        simp only [holdsL, List.nil_append, List.cons_append, List.getD_cons_succ, List.getD_cons_zero, if_true, and_true] at hp
        go_simp
        exact (HAB.out w).mono fun e w' h => ⟨_, h.1, hK _ h.2⟩
      -- operation 12
      apply lexf_eq hsz [(8, true), (11, true)] [(11, 0), (12, 1), (13, 2), (14, 3), (15, 4), (16, 5), (17, 6), (18, 7), (19, 8), (20, 9), (21, 10), (22, 11), (24, 13), (25, 14), (26, 15), (28, 17), (29, 18), (30, 19), (31, 20), (32, 21), (33, 22), (34, 23)] (some (19, false)) (by kernel_rfl) (by kernel_rfl) (by kernel_rfl) (by kernel_rfl) rfl
      · intro xs w hw hp K hK
        simp only [holdsL, List.nil_append, List.cons_append, List.getD_cons_succ, List.getD_cons_zero, if_true, and_true] at hp
        go_simp
        exact hK _ (Grow.refl _)
      -- operation 13
      apply lexf_eq hsz [(8, true)] [(11, 0), (12, 1), (13, 2), (14, 3), (15, 4), (16, 5), (17, 6), (18, 7), (19, 8), (20, 9), (21, 10), (22, 11), (23, 12), (25, 14), (27, 16), (28, 17), (29, 18), (30, 19), (31, 20), (32, 21), (33, 22), (34, 23)] (some (19, false)) (by kernel_rfl) (by kernel_rfl) (by kernel_rfl) (by kernel_rfl) rfl
      · intro xs w hw hp K hK
        simp only [holdsL, List.nil_append, List.cons_append, List.getD_cons_succ, List.getD_cons_zero, if_true, and_true] at hp
        obtain ⟨c0, c1, c2, _⟩ := enres (HA7.out w hw)
        go_simp
        exact hK _ (Grow.refl _)
      -- operation 14
      apply lexf_eq hsz [(8, true)] [(11, 0), (12, 1), (13, 2), (14, 3), (15, 4), (16, 5), (17, 6), (18, 7), (19, 8), (20, 9), (21, 10), (22, 11), (23, 12), (24, 13), (27, 16), (28, 17), (29, 18), (30, 19), (31, 20), (32, 21), (33, 22), (34, 23)] (some (19, false)) (by kernel_rfl) (by kernel_rfl) (by kernel_rfl) (by kernel_rfl) rfl
      · intro xs w hw hp K hK
        simp only [holdsL, List.nil_append, List.cons_append, List.getD_cons_succ, List.getD_cons_zero, if_true, and_true] at hp
        obtain ⟨c0, c1, c2, _⟩ := enres (HB7.out w hw)
        go_simp
        exact hK _ (Grow.refl _)
      -- operation 15
      apply lexf_eq hsz [(8, true), (13, true), (14, true)] [(11, 0), (12, 1), (13, 2), (14, 3), (15, 4), (16, 5), (17, 6), (18, 7), (19, 8), (20, 9), (21, 10), (22, 11), (23, 12), (24, 13), (25, 14), (28, 17), (29, 18), (30, 19), (31, 20), (32, 21), (33, 22), (34, 23)] (some (19, false)) (by kernel_rfl) (by kernel_rfl) (by kernel_rfl) (by kernel_rfl) rfl
      · intro xs w hw hp K hK
        simp only [holdsL, List.nil_append, List.cons_append, List.getD_cons_succ, List.getD_cons_zero, if_true, and_true] at hp
        go_simp
        simp only [HSm.out]
        exact hK _ (Grow.refl _)
      -- operation 16
      apply lexf_eq hsz [(8, true), (12, true), (15, true)] [(11, 0), (12, 1), (13, 2), (14, 3), (15, 4), (16, 5), (17, 6), (18, 7), (19, 8), (20, 9), (21, 10), (22, 11), (23, 12), (24, 13), (25, 14), (26, 15), (29, 18), (30, 19), (31, 20), (32, 21), (33, 22), (34, 23)] (some (19, false)) (by kernel_rfl) (by kernel_rfl) (by kernel_rfl) (by kernel_rfl) rfl
      · intro xs w hw hp K hK
        simp only [holdsL, List.nil_append, List.cons_append, List.getD_cons_succ, List.getD_cons_zero, if_true, and_true] at hp
        go_simp
        exact hK _ (Grow.refl _)
      -- operation 17
      apply lexf_eq hsz [(8, true), (16, true)] [(11, 0), (12, 1), (13, 2), (14, 3), (15, 4), (16, 5), (17, 6), (18, 7), (19, 8), (20, 9), (21, 10), (22, 11), (23, 12), (24, 13), (25, 14), (26, 15), (27, 16), (30, 19), (31, 20), (32, 21), (33, 22), (34, 23)] none (by kernel_rfl) (by kernel_rfl) (by kernel_rfl) (by kernel_rfl) rfl
      · intro xs w hw hp K hK
        simp only [holdsL, List.nil_append, List.cons_append, List.getD_cons_succ, List.getD_cons_zero, if_true, and_true] at hp
        go_simp
        exact hK _ (Grow.refl _)
      -- operation 18
      apply lexf_eq hsz [(17, true)] [(11, 0), (12, 1), (13, 2), (14, 3), (15, 4), (16, 5), (17, 6), (18, 7), (19, 8), (20, 9), (21, 10), (22, 11), (23, 12), (24, 13), (25, 14), (26, 15), (27, 16), (28, 17)] none (by kernel_rfl) (by kernel_rfl) (by kernel_rfl) (by kernel_rfl) rfl
      · intro xs w hw hp K hK
        simp only [holdsL, List.nil_append, List.cons_append, List.getD_cons_succ, List.getD_cons_zero, if_true, and_true] at hp
        go_simp
        exact hK _ (Grow.refl _)
      -- operation 19
      apply lexf_eq hsz [(18, true)] [(11, 0), (12, 1), (13, 2), (14, 3), (15, 4), (16, 5), (17, 6), (18, 7), (19, 8), (20, 9), (21, 10), (22, 11), (23, 12), (24, 13), (25, 14), (26, 15), (27, 16), (28, 17), (29, 18), (31, 20), (33, 22), (34, 23)] (some (29, false)) (by kernel_rfl) (by kernel_rfl) (by kernel_rfl) (by kernel_rfl) rfl
      · intro xs w hw hp K hK
        simp only [holdsL, List.nil_append, List.cons_append, List.getD_cons_succ, List.getD_cons_zero, if_true, and_true] at hp
        obtain ⟨c0, c1, c2, _⟩ := enres (HA7.out w hw)
        go_simp
        exact hK _ (Grow.refl _)
      -- operation 20
      apply lexf_eq hsz [(18, true)] [(11, 0), (12, 1), (13, 2), (14, 3), (15, 4), (16, 5), (17, 6), (18, 7), (19, 8), (20, 9), (21, 10), (22, 11), (23, 12), (24, 13), (25, 14), (26, 15), (27, 16), (28, 17), (29, 18), (30, 19), (33, 22), (34, 23)] (some (29, false)) (by kernel_rfl) (by kernel_rfl) (by kernel_rfl) (by kernel_rfl) rfl
      · intro xs w hw hp K hK
        simp only [holdsL, List.nil_append, List.cons_append, List.getD_cons_succ, List.getD_cons_zero, if_true, and_true] at hp
        obtain ⟨c0, c1, c2, _⟩ := enres (HA7.out w hw)
        go_simp
        exact hK _ (Grow.refl _)
      -- operation 21
      apply lexf_eq hsz [(18, true), (19, true), (20, true)] [(11, 0), (12, 1), (13, 2), (14, 3), (15, 4), (16, 5), (17, 6), (18, 7), (19, 8), (20, 9), (21, 10), (22, 11), (23, 12), (24, 13), (25, 14), (26, 15), (27, 16), (28, 17), (29, 18), (30, 19), (31, 20), (34, 23)] (some (29, false)) (by kernel_rfl) (by kernel_rfl) (by kernel_rfl) (by kernel_rfl) rfl
      · intro xs w hw hp K hK
        simp only [holdsL, List.nil_append, List.cons_append, List.getD_cons_succ, List.getD_cons_zero, if_true, and_true] at hp
        go_simp
        exact (HAA.out w).mono fun e w' h => ⟨_, h.1, hK _ h.2⟩
      -- operation 22
      apply lexf_eq hsz [(18, true), (21, true)] [(11, 0), (12, 1), (13, 2), (14, 3), (15, 4), (16, 5), (17, 6), (18, 7), (19, 8), (20, 9), (21, 10), (22, 11), (23, 12), (24, 13), (25, 14), (26, 15), (27, 16), (28, 17), (29, 18), (30, 19), (31, 20), (32, 21)] (some (29, false)) (by kernel_rfl) (by kernel_rfl) (by kernel_rfl) (by kernel_rfl) rfl
      · intro xs w hw hp K hK
        simp only [holdsL, List.nil_append, List.cons_append, List.getD_cons_succ, List.getD_cons_zero, if_true, and_true] at hp
        go_simp
        exact hK _ (Grow.refl _)
      intro xs w hw hp
      have ha0 := HA0.out
      clear HA0 hsz s3 s4
      simp only [holdsL, List.nil_append, List.cons_append, List.getD_cons_succ, List.getD_cons_zero, if_true, and_true] at hp
      have h18 := hp.2.2.2.2.2.2.2.2.2.2.2.2.2.2.2.2.2.2.1
      have h22 := hp.2.2.2.2.2.2.2.2.2.2.2.2.2.2.2.2.2.2.2.2.2.2
      clear hp
      subst ha0
      simp only [putAll, h18, h22]
      have hgw := hw.undrew
      clear hw h18 h22
      go_wp2_with fail
      all_goals go_meet
      all_goals (case rel => exact ⟨rfl, hgw⟩)
    · skip
      refine wp_region_grow_named (by kernel_rfl) 23 (by kernel_rfl) [(11, 0), (12, 1), (13, 2), (14, 3), (15, 4), (16, 5), (17, 6), (18, 7), (19, 8), (20, 9), (21, 10), (22, 11), (23, 12), (24, 13), (25, 14), (26, 15), (27, 16), (28, 17), (29, 18), (30, 19), (31, 20), (32, 21), (33, 22)] (by kernel_rfl) [(0, true), (1, true), (2, true), (3, true), (4, true), (5, true), (6, true), (7, true), (8, true), (9, true), (10, true), (11, true), (12, true), (13, true), (14, true), (15, true), (16, true), (17, true), (18, true), (19, true), (20, true), (21, true), (22, true)] (by kernel_rfl) rfl rfl ?_
      intro a0 ha0
      have hsz : a0.tmps.size = 77 := (size_at ha0).trans rfl
      have s3 := slot_at ha0 3 rfl
      have s4 := slot_at ha0 4 rfl
      have HA0 := keep ha0
      clear ha0
      -- operation 0
      apply lexf_eq hsz [] [(12, 1), (14, 3), (15, 4), (16, 5), (17, 6), (18, 7), (19, 8), (20, 9), (21, 10), (22, 11), (23, 12), (24, 13), (25, 14), (26, 15), (27, 16), (28, 17), (29, 18), (30, 19), (31, 20), (32, 21), (33, 22), (34, 23)] none (by kernel_rfl) (by kernel_rfl) (by kernel_rfl) (by kernel_rfl) rfl
      · intro xs w hw hp K hK
        obtain ⟨c0, c1, c2, _⟩ := enres (HA7.out w hw)
        go_simp
        exact hK _ (Grow.refl _)
      -- operation 1
      apply lexf_eq hsz [] [(11, 0), (14, 3), (15, 4), (16, 5), (17, 6), (18, 7), (19, 8), (20, 9), (21, 10), (22, 11), (23, 12), (24, 13), (25, 14), (26, 15), (27, 16), (28, 17), (29, 18), (30, 19), (31, 20), (32, 21), (33, 22), (34, 23)] none (by kernel_rfl) (by kernel_rfl) (by kernel_rfl) (by kernel_rfl) rfl
      · intro xs w hw hp K hK
        obtain ⟨c0, c1, c2, _⟩ := enres (HB7.out w hw)
        go_simp
        exact hK _ (Grow.refl _)
      -- operation 2
      apply lexf_eq hsz [(0, true), (1, true)] [(11, 0), (12, 1), (14, 3), (15, 4), (17, 6), (19, 8), (20, 9), (21, 10), (22, 11), (23, 12), (24, 13), (25, 14), (26, 15), (27, 16), (28, 17), (29, 18), (30, 19), (31, 20), (32, 21), (33, 22), (34, 23)] none (by kernel_rfl) (by kernel_rfl) (by kernel_rfl) (by kernel_rfl) rfl
      · intro xs w hw hp K hK
        simp only [holdsL, List.nil_append, List.cons_append, List.getD_cons_succ, List.getD_cons_zero, if_true, and_true] at hp
        go_simp
        exact (HAB.out w).mono fun e w' h => ⟨_, h.1, hK _ h.2⟩
      -- operation 3
      apply lexf_eq hsz [] [(11, 0), (12, 1), (13, 2), (15, 4), (17, 6), (18, 7), (19, 8), (20, 9), (21, 10), (22, 11), (23, 12), (24, 13), (25, 14), (26, 15), (27, 16), (28, 17), (29, 18), (30, 19), (31, 20), (32, 21), (33, 22), (34, 23)] none (by kernel_rfl) (by kernel_rfl) (by kernel_rfl) (by kernel_rfl) rfl
      · intro xs w hw hp K hK
        obtain ⟨c0, c1, c2, _⟩ := enres (HB7.out w hw)
        go_simp
        exact hK _ (Grow.refl _)
      -- operation 4
      apply lexf_eq hsz [] [(11, 0), (12, 1), (13, 2), (14, 3), (17, 6), (18, 7), (19, 8), (20, 9), (21, 10), (22, 11), (23, 12), (24, 13), (25, 14), (26, 15), (27, 16), (28, 17), (29, 18), (30, 19), (31, 20), (32, 21), (33, 22), (34, 23)] none (by kernel_rfl) (by kernel_rfl) (by kernel_rfl) (by kernel_rfl) rfl
      · intro xs w hw hp K hK
        obtain ⟨c0, c1, c2, _⟩ := enres (HA7.out w hw)
        go_simp
        exact hK _ (Grow.refl _)
      -- operation 5
      apply lexf_eq hsz [(3, true), (4, true)] [(11, 0), (12, 1), (13, 2), (14, 3), (15, 4), (18, 7), (20, 9), (21, 10), (22, 11), (23, 12), (24, 13), (25, 14), (26, 15), (27, 16), (28, 17), (29, 18), (30, 19), (31, 20), (32, 21), (33, 22), (34, 23)] none (by kernel_rfl) (by kernel_rfl) (by kernel_rfl) (by kernel_rfl) rfl
      · intro xs w hw hp K hK
        simp only [holdsL, List.nil_append, List.cons_append, List.getD_cons_succ, List.getD_cons_zero, if_true, and_true] at hp
        go_simp
        exact (HBA.out w).mono fun e w' h => ⟨_, h.1, hK _ h.2⟩
      -- operation 6
      apply lexf_eq hsz [(5, true)] [(11, 0), (12, 1), (13, 2), (14, 3), (15, 4), (16, 5), (19, 8), (20, 9), (21, 10), (22, 11), (23, 12), (24, 13), (25, 14), (26, 15), (27, 16), (28, 17), (29, 18), (30, 19), (31, 20), (32, 21), (33, 22), (34, 23)] none (by kernel_rfl) (by kernel_rfl) (by kernel_rfl) (by kernel_rfl) rfl
      · intro xs w hw hp K hK
        simp only [holdsL, List.nil_append, List.cons_append, List.getD_cons_succ, List.getD_cons_zero, if_true, and_true] at hp
        go_simp
        exact hK _ (Grow.refl _)
      -- operation 7
      apply lexf_eq hsz [(2, true), (6, true)] [(11, 0), (12, 1), (13, 2), (14, 3), (15, 4), (16, 5), (17, 6), (20, 9), (21, 10), (22, 11), (23, 12), (24, 13), (25, 14), (26, 15), (27, 16), (28, 17), (29, 18), (30, 19), (31, 20), (32, 21), (33, 22), (34, 23)] none (by kernel_rfl) (by kernel_rfl) (by kernel_rfl) (by kernel_rfl) rfl
      · intro xs w hw hp K hK
        simp only [holdsL, List.nil_append, List.cons_append, List.getD_cons_succ, List.getD_cons_zero, if_true, and_true] at hp
        go_simp
        exact hK _ (Grow.refl _)
      -- operation 8
      apply lexf_eq hsz [(7, true)] [(11, 0), (12, 1), (13, 2), (14, 3), (15, 4), (16, 5), (17, 6), (18, 7), (29, 18), (30, 19), (31, 20), (32, 21), (33, 22), (34, 23)] none (by kernel_rfl) (by kernel_rfl) (by kernel_rfl) (by kernel_rfl) rfl
      · intro xs w hw hp K hK
        simp only [holdsL, List.nil_append, List.cons_append, List.getD_cons_succ, List.getD_cons_zero, if_true, and_true] at hp
        go_simp
        exact hK _ (Grow.refl _)
      -- operation 9
      apply lexf_eq hsz [(8, true)] [(11, 0), (12, 1), (13, 2), (14, 3), (15, 4), (16, 5), (17, 6), (18, 7), (19, 8), (21, 10), (23, 12), (24, 13), (25, 14), (26, 15), (27, 16), (28, 17), (29, 18), (30, 19), (31, 20), (32, 21), (33, 22), (34, 23)] (some (19, false)) (by kernel_rfl) (by kernel_rfl) (by kernel_rfl) (by kernel_rfl) rfl
      · intro xs w hw hp K hK
        simp only [holdsL, List.nil_append, List.cons_append, List.getD_cons_succ, List.getD_cons_zero, if_true, and_true] at hp
        obtain ⟨c0, c1, c2, _⟩ := enres (HA7.out w hw)
        go_simp
        exact hK _ (Grow.refl _)
      -- operation 10
      apply lexf_eq hsz [(8, true)] [(11, 0), (12, 1), (13, 2), (14, 3), (15, 4), (16, 5), (17, 6), (18, 7), (19, 8), (20, 9), (23, 12), (24, 13), (25, 14), (26, 15), (27, 16), (28, 17), (29, 18), (30, 19), (31, 20), (32, 21), (33, 22), (34, 23)] (some (19, false)) (by kernel_rfl) (by kernel_rfl) (by kernel_rfl) (by kernel_rfl) rfl
      · intro xs w hw hp K hK
        simp only [holdsL, List.nil_append, List.cons_append, List.getD_cons_succ, List.getD_cons_zero, if_true, and_true] at hp
        obtain ⟨c0, c1, c2, _⟩ := enres (HB7.out w hw)
        go_simp
        exact hK _ (Grow.refl _)
      -- operation 11
      apply lexf_eq hsz [(8, true), (9, true), (10, true)] [(11, 0), (12, 1), (13, 2), (14, 3), (15, 4), (16, 5), (17, 6), (18, 7), (19, 8), (20, 9), (21, 10), (24, 13), (25, 14), (26, 15), (27, 16), (28, 17), (30, 19), (31, 20), (32, 21), (33, 22), (34, 23)] (some (19, false)) (by kernel_rfl) (by kernel_rfl) (by kernel_rfl) (by kernel_rfl) rfl
      · intro xs w hw hp K hK
        simp only [holdsL, List.nil_append, List.cons_append, List.getD_cons_succ, List.getD_cons_zero, if_true, and_true] at hp
        go_simp
        exact (HAB.out w).mono fun e w' h => ⟨_, h.1, hK _ h.2⟩
      -- operation 12
      apply lexf_eq hsz [(8, true), (11, true)] [(11, 0), (12, 1), (13, 2), (14, 3), (15, 4), (16, 5), (17, 6), (18, 7), (19, 8), (20, 9), (21, 10), (22, 11), (24, 13), (25, 14), (26, 15), (28, 17), (29, 18), (30, 19), (31, 20), (32, 21), (33, 22), (34, 23)] (some (19, false)) (by kernel_rfl) (by kernel_rfl) (by kernel_rfl) (by kernel_rfl) rfl
      · intro xs w hw hp K hK
        simp only [holdsL, List.nil_append, List.cons_append, List.getD_cons_succ, List.getD_cons_zero, if_true, and_true] at hp
        go_simp
        exact hK _ (Grow.refl _)
      -- operation 13
      apply lexf_eq hsz [(8, true)] [(11, 0), (12, 1), (13, 2), (14, 3), (15, 4), (16, 5), (17, 6), (18, 7), (19, 8), (20, 9), (21, 10), (22, 11), (23, 12), (25, 14), (27, 16), (28, 17), (29, 18), (30, 19), (31, 20), (32, 21), (33, 22), (34, 23)] (some (19, false)) (by kernel_rfl) (by kernel_rfl) (by kernel_rfl) (by kernel_rfl) rfl
      · intro xs w hw hp K hK
        simp only [holdsL, List.nil_append, List.cons_append, List.getD_cons_succ, List.getD_cons_zero, if_true, and_true] at hp
        obtain ⟨c0, c1, c2, _⟩ := enres (HA7.out w hw)
        go_simp
        exact hK _ (Grow.refl _)
      -- operation 14
      apply lexf_eq hsz [(8, true)] [(11, 0), (12, 1), (13, 2), (14, 3), (15, 4), (16, 5), (17, 6), (18, 7), (19, 8), (20, 9), (21, 10), (22, 11), (23, 12), (24, 13), (27, 16), (28, 17), (29, 18), (30, 19), (31, 20), (32, 21), (33, 22), (34, 23)] (some (19, false)) (by kernel_rfl) (by kernel_rfl) (by kernel_rfl) (by kernel_rfl) rfl
      · intro xs w hw hp K hK
        simp only [holdsL, List.nil_append, List.cons_append, List.getD_cons_succ, List.getD_cons_zero, if_true, and_true] at hp
        obtain ⟨c0, c1, c2, _⟩ := enres (HB7.out w hw)
        go_simp
        exact hK _ (Grow.refl _)
      -- operation 15
      apply lexf_eq hsz [(8, true), (13, true), (14, true)] [(11, 0), (12, 1), (13, 2), (14, 3), (15, 4), (16, 5), (17, 6), (18, 7), (19, 8), (20, 9), (21, 10), (22, 11), (23, 12), (24, 13), (25, 14), (28, 17), (29, 18), (30, 19), (31, 20), (32, 21), (33, 22), (34, 23)] (some (19, false)) (by kernel_rfl) (by kernel_rfl) (by kernel_rfl) (by kernel_rfl) rfl
      · intro xs w hw hp K hK
        simp only [holdsL, List.nil_append, List.cons_append, List.getD_cons_succ, List.getD_cons_zero, if_true, and_true] at hp
        go_simp
        simp only [HSm.out]
        exact hK _ (Grow.refl _)
      -- operation 16
      apply lexf_eq hsz [(8, true), (12, true), (15, true)] [(11, 0), (12, 1), (13, 2), (14, 3), (15, 4), (16, 5), (17, 6), (18, 7), (19, 8), (20, 9), (21, 10), (22, 11), (23, 12), (24, 13), (25, 14), (26, 15), (29, 18), (30, 19), (31, 20), (32, 21), (33, 22), (34, 23)] (some (19, false)) (by kernel_rfl) (by kernel_rfl) (by kernel_rfl) (by kernel_rfl) rfl
      · intro xs w hw hp K hK
        simp only [holdsL, List.nil_append, List.cons_append, List.getD_cons_succ, List.getD_cons_zero, if_true, and_true] at hp
        go_simp
        exact hK _ (Grow.refl _)
      -- operation 17
      apply lexf_eq hsz [(8, true), (16, true)] [(11, 0), (12, 1), (13, 2), (14, 3), (15, 4), (16, 5), (17, 6), (18, 7), (19, 8), (20, 9), (21, 10), (22, 11), (23, 12), (24, 13), (25, 14), (26, 15), (27, 16), (30, 19), (31, 20), (32, 21), (33, 22), (34, 23)] none (by kernel_rfl) (by kernel_rfl) (by kernel_rfl) (by kernel_rfl) rfl
      · intro xs w hw hp K hK
        simp only [holdsL, List.nil_append, List.cons_append, List.getD_cons_succ, List.getD_cons_zero, if_true, and_true] at hp
        go_simp
        exact hK _ (Grow.refl _)
      -- operation 18
      apply lexf_eq hsz [(17, true)] [(11, 0), (12, 1), (13, 2), (14, 3), (15, 4), (16, 5), (17, 6), (18, 7), (19, 8), (20, 9), (21, 10), (22, 11), (23, 12), (24, 13), (25, 14), (26, 15), (27, 16), (28, 17)] none (by kernel_rfl) (by kernel_rfl) (by kernel_rfl) (by kernel_rfl) rfl
      · intro xs w hw hp K hK
        simp only [holdsL, List.nil_append, List.cons_append, List.getD_cons_succ, List.getD_cons_zero, if_true, and_true] at hp
        go_simp
        exact hK _ (Grow.refl _)
      -- operation 19
      apply lexf_eq hsz [(18, true)] [(11, 0), (12, 1), (13, 2), (14, 3), (15, 4), (16, 5), (17, 6), (18, 7), (19, 8), (20, 9), (21, 10), (22, 11), (23, 12), (24, 13), (25, 14), (26, 15), (27, 16), (28, 17), (29, 18), (31, 20), (33, 22), (34, 23)] (some (29, false)) (by kernel_rfl) (by kernel_rfl) (by kernel_rfl) (by kernel_rfl) rfl
      · intro xs w hw hp K hK
        simp only [holdsL, List.nil_append, List.cons_append, List.getD_cons_succ, List.getD_cons_zero, if_true, and_true] at hp
        obtain ⟨c0, c1, c2, _⟩ := enres (HA7.out w hw)
        go_simp
        exact hK _ (Grow.refl _)
      -- operation 20
      apply lexf_eq hsz [(18, true)] [(11, 0), (12, 1), (13, 2), (14, 3), (15, 4), (16, 5), (17, 6), (18, 7), (19, 8), (20, 9), (21, 10), (22, 11), (23, 12), (24, 13), (25, 14), (26, 15), (27, 16), (28, 17), (29, 18), (30, 19), (33, 22), (34, 23)] (some (29, false)) (by kernel_rfl) (by kernel_rfl) (by kernel_rfl) (by kernel_rfl) rfl
      · intro xs w hw hp K hK
        simp only [holdsL, List.nil_append, List.cons_append, List.getD_cons_succ, List.getD_cons_zero, if_true, and_true] at hp
        obtain ⟨c0, c1, c2, _⟩ := enres (HA7.out w hw)
        go_simp
        exact hK _ (Grow.refl _)
      -- operation 21
      apply lexf_eq hsz [(18, true), (19, true), (20, true)] [(11, 0), (12, 1), (13, 2), (14, 3), (15, 4), (16, 5), (17, 6), (18, 7), (19, 8), (20, 9), (21, 10), (22, 11), (23, 12), (24, 13), (25, 14), (26, 15), (27, 16), (28, 17), (29, 18), (30, 19), (31, 20), (34, 23)] (some (29, false)) (by kernel_rfl) (by kernel_rfl) (by kernel_rfl) (by kernel_rfl) rfl
      · intro xs w hw hp K hK
        simp only [holdsL, List.nil_append, List.cons_append, List.getD_cons_succ, List.getD_cons_zero, if_true, and_true] at hp
        go_simp
        exact (HAA.out w).mono fun e w' h => ⟨_, h.1, hK _ h.2⟩
      -- operation 22
      apply lexf_eq hsz [(18, true), (21, true)] [(11, 0), (12, 1), (13, 2), (14, 3), (15, 4), (16, 5), (17, 6), (18, 7), (19, 8), (20, 9), (21, 10), (22, 11), (23, 12), (24, 13), (25, 14), (26, 15), (27, 16), (28, 17), (29, 18), (30, 19), (31, 20), (32, 21)] (some (29, false)) (by kernel_rfl) (by kernel_rfl) (by kernel_rfl) (by kernel_rfl) rfl
      · intro xs w hw hp K hK
        simp only [holdsL, List.nil_append, List.cons_append, List.getD_cons_succ, List.getD_cons_zero, if_true, and_true] at hp
        go_simp
        exact hK _ (Grow.refl _)
      intro xs w hw hp
      have ha0 := HA0.out
      clear HA0 hsz s3 s4
      simp only [holdsL, List.nil_append, List.cons_append, List.getD_cons_succ, List.getD_cons_zero, if_true, and_true] at hp
      have h18 := hp.2.2.2.2.2.2.2.2.2.2.2.2.2.2.2.2.2.2.1
      have h22 := hp.2.2.2.2.2.2.2.2.2.2.2.2.2.2.2.2.2.2.2.2.2.2
      clear hp
      subst ha0
      simp only [putAll, h18, h22]
      have hgw := hw.undrew
      clear hw h18 h22
      go_wp2_with fail
      all_goals go_meet
      all_goals (case rel => exact ⟨rfl, hgw⟩)
    · skip
      refine wp_region_grow_named (by kernel_rfl) 23 (by kernel_rfl) [(11, 0), (12, 1), (13, 2), (14, 3), (15, 4), (16, 5), (17, 6), (18, 7), (19, 8), (20, 9), (21, 10), (22, 11), (23, 12), (24, 13), (25, 14), (26, 15), (27, 16), (28, 17), (29, 18), (30, 19), (31, 20), (32, 21), (33, 22)] (by kernel_rfl) [(0, true), (1, true), (2, true), (3, true), (4, true), (5, true), (6, true), (7, true), (8, true), (9, true), (10, true), (11, true), (12, true), (13, true), (14, true), (15, true), (16, true), (17, true), (18, true), (19, true), (20, true), (21, true), (22, true)] (by kernel_rfl) rfl rfl ?_
      intro a0 ha0
      have hsz : a0.tmps.size = 77 := (size_at ha0).trans rfl
      have s3 := slot_at ha0 3 rfl
      have s4 := slot_at ha0 4 rfl
      have HA0 := keep ha0
      clear ha0
      -- operation 0
      apply lexf_eq hsz [] [(12, 1), (14, 3), (15, 4), (16, 5), (17, 6), (18, 7), (19, 8), (20, 9), (21, 10), (22, 11), (23, 12), (24, 13), (25, 14), (26, 15), (27, 16), (28, 17), (29, 18), (30, 19), (31, 20), (32, 21), (33, 22), (34, 23)] none (by kernel_rfl) (by kernel_rfl) (by kernel_rfl) (by kernel_rfl) rfl
      · intro xs w hw hp K hK
        obtain ⟨c0, c1, c2, _⟩ := enres (HA7.out w hw)
        go_simp
        exact hK _ (Grow.refl _)
      -- operation 1
      apply lexf_eq hsz [] [(11, 0), (14, 3), (15, 4), (16, 5), (17, 6), (18, 7), (19, 8), (20, 9), (21, 10), (22, 11), (23, 12), (24, 13), (25, 14), (26, 15), (27, 16), (28, 17), (29, 18), (30, 19), (31, 20), (32, 21), (33, 22), (34, 23)] none (by kernel_rfl) (by kernel_rfl) (by kernel_rfl) (by kernel_rfl) rfl
      · intro xs w hw hp K hK
        obtain ⟨c0, c1, c2, _⟩ := enres (HB7.out w hw)
        go_simp
        exact hK _ (Grow.refl _)
      -- operation 2
      apply lexf_eq hsz [(0, true), (1, true)] [(11, 0), (12, 1), (14, 3), (15, 4), (17, 6), (19, 8), (20, 9), (21, 10), (22, 11), (23, 12), (24, 13), (25, 14), (26, 15), (27, 16), (28, 17), (29, 18), (30, 19), (31, 20), (32, 21), (33, 22), (34, 23)] none (by kernel_rfl) (by kernel_rfl) (by kernel_rfl) (by kernel_rfl) rfl
      · intro xs w hw hp K hK
        simp only [holdsL, List.nil_append, List.cons_append, List.getD_cons_succ, List.getD_cons_zero, if_true, and_true] at hp
        go_simp
        exact (HAB.out w).mono fun e w' h => ⟨_, h.1, hK _ h.2⟩
      -- operation 3
      apply lexf_eq hsz [] [(11, 0), (12, 1), (13, 2), (15, 4), (17, 6), (18, 7), (19, 8), (20, 9), (21, 10), (22, 11), (23, 12), (24, 13), (25, 14), (26, 15), (27, 16), (28, 17), (29, 18), (30, 19), (31, 20), (32, 21), (33, 22), (34, 23)] none (by kernel_rfl) (by kernel_rfl) (by kernel_rfl) (by kernel_rfl) rfl
      · intro xs w hw hp K hK
        obtain ⟨c0, c1, c2, _⟩ := enres (HB7.out w hw)
        go_simp
        exact hK _ (Grow.refl _)
      -- operation 4
      apply lexf_eq hsz [] [(11, 0), (12, 1), (13, 2), (14, 3), (17, 6), (18, 7), (19, 8), (20, 9), (21, 10), (22, 11), (23, 12), (24, 13), (25, 14), (26, 15), (27, 16), (28, 17), (29, 18), (30, 19), (31, 20), (32, 21), (33, 22), (34, 23)] none (by kernel_rfl) (by kernel_rfl) (by kernel_rfl) (by kernel_rfl) rfl
      · intro xs w hw hp K hK
        obtain ⟨c0, c1, c2, _⟩ := enres (HA7.out w hw)
        go_simp
        exact hK _ (Grow.refl _)
      -- operation 5
      apply lexf_eq hsz [(3, true), (4, true)] [(11, 0), (12, 1), (13, 2), (14, 3), (15, 4), (18, 7), (20, 9), (21, 10), (22, 11), (23, 12), (24, 13), (25, 14), (26, 15), (27, 16), (28, 17), (29, 18), (30, 19), (31, 20), (32, 21), (33, 22), (34, 23)] none (by kernel_rfl) (by kernel_rfl) (by kernel_rfl) (by kernel_rfl) rfl
      · intro xs w hw hp K hK
        simp only [holdsL, List.nil_append, List.cons_append, List.getD_cons_succ, List.getD_cons_zero, if_true, and_true] at hp
        go_simp
        exact (HBA.out w).mono fun e w' h => ⟨_, h.1, hK _ h.2⟩
      -- operation 6
      apply lexf_eq hsz [(5, true)] [(11, 0), (12, 1), (13, 2), (14, 3), (15, 4), (16, 5), (19, 8), (20, 9), (21, 10), (22, 11), (23, 12), (24, 13), (25, 14), (26, 15), (27, 16), (28, 17), (29, 18), (30, 19), (31, 20), (32, 21), (33, 22), (34, 23)] none (by kernel_rfl) (by kernel_rfl) (by kernel_rfl) (by kernel_rfl) rfl
      · intro xs w hw hp K hK
        simp only [holdsL, List.nil_append, List.cons_append, List.getD_cons_succ, List.getD_cons_zero, if_true, and_true] at hp
        go_simp
        exact hK _ (Grow.refl _)
      -- operation 7
      apply lexf_eq hsz [(2, true), (6, true)] [(11, 0), (12, 1), (13, 2), (14, 3), (15, 4), (16, 5), (17, 6), (20, 9), (21, 10), (22, 11), (23, 12), (24, 13), (25, 14), (26, 15), (27, 16), (28, 17), (29, 18), (30, 19), (31, 20), (32, 21), (33, 22), (34, 23)] none (by kernel_rfl) (by kernel_rfl) (by kernel_rfl) (by kernel_rfl) rfl
      · intro xs w hw hp K hK
        simp only [holdsL, List.nil_append, List.cons_append, List.getD_cons_succ, List.getD_cons_zero, if_true, and_true] at hp
        go_simp
        exact hK _ (Grow.refl _)
      -- operation 8
      apply lexf_eq hsz [(7, true)] [(11, 0), (12, 1), (13, 2), (14, 3), (15, 4), (16, 5), (17, 6), (18, 7), (29, 18), (30, 19), (31, 20), (32, 21), (33, 22), (34, 23)] none (by kernel_rfl) (by kernel_rfl) (by kernel_rfl) (by kernel_rfl) rfl
      · intro xs w hw hp K hK
        simp only [holdsL, List.nil_append, List.cons_append, List.getD_cons_succ, List.getD_cons_zero, if_true, and_true] at hp
        go_simp
        exact hK _ (Grow.refl _)
      -- operation 9
      apply lexf_eq hsz [(8, true)] [(11, 0), (12, 1), (13, 2), (14, 3), (15, 4), (16, 5), (17, 6), (18, 7), (19, 8), (21, 10), (23, 12), (24, 13), (25, 14), (26, 15), (27, 16), (28, 17), (29, 18), (30, 19), (31, 20), (32, 21), (33, 22), (34, 23)] (some (19, false)) (by kernel_rfl) (by kernel_rfl) (by kernel_rfl) (by kernel_rfl) rfl
      · intro xs w hw hp K hK
        simp only [holdsL, List.nil_append, List.cons_append, List.getD_cons_succ, List.getD_cons_zero, if_true, and_true] at hp
        obtain ⟨c0, c1, c2, _⟩ := enres (HA7.out w hw)
        go_simp
        exact hK _ (Grow.refl _)
      -- operation 10
      apply lexf_eq hsz [(8, true)] [(11, 0), (12, 1), (13, 2), (14, 3), (15, 4), (16, 5), (17, 6), (18, 7), (19, 8), (20, 9), (23, 12), (24, 13), (25, 14), (26, 15), (27, 16), (28, 17), (29, 18), (30, 19), (31, 20), (32, 21), (33, 22), (34, 23)] (some (19, false)) (by kernel_rfl) (by kernel_rfl) (by kernel_rfl) (by kernel_rfl) rfl
      · intro xs w hw hp K hK
        simp only [holdsL, List.nil_append, List.cons_append, List.getD_cons_succ, List.getD_cons_zero, if_true, and_true] at hp
        obtain ⟨c0, c1, c2, _⟩ := enres (HB7.out w hw)
        go_simp
        exact hK _ (Grow.refl _)
      -- operation 11
      apply lexf_eq hsz [(8, true), (9, true), (10, true)] [(11, 0), (12, 1), (13, 2), (14, 3), (15, 4), (16, 5), (17, 6), (18, 7), (19, 8), (20, 9), (21, 10), (24, 13), (25, 14), (26, 15), (27, 16), (28, 17), (30, 19), (31, 20), (32, 21), (33, 22), (34, 23)] (some (19, false)) (by kernel_rfl) (by kernel_rfl) (by kernel_rfl) (by kernel_rfl) rfl
      · intro xs w hw hp K hK
        simp only [holdsL, List.nil_append, List.cons_append, List.getD_cons_succ, List.getD_cons_zero, if_true, and_true] at hp
        go_simp
        exact (HAB.out w).mono fun e w' h => ⟨_, h.1, hK _ h.2⟩
      -- operation 12
      apply lexf_eq hsz [(8, true), (11, true)] [(11, 0), (12, 1), (13, 2), (14, 3), (15, 4), (16, 5), (17, 6), (18, 7), (19, 8), (20, 9), (21, 10), (22, 11), (24, 13), (25, 14), (26, 15), (28, 17), (29, 18), (30, 19), (31, 20), (32, 21), (33, 22), (34, 23)] (some (19, false)) (by kernel_rfl) (by kernel_rfl) (by kernel_rfl) (by kernel_rfl) rfl
      · intro xs w hw hp K hK
        simp only [holdsL, List.nil_append, List.cons_append, List.getD_cons_succ, List.getD_cons_zero, if_true, and_true] at hp
        go_simp
        exact hK _ (Grow.refl _)
      -- operation 13
      apply lexf_eq hsz [(8, true)] [(11, 0), (12, 1), (13, 2), (14, 3), (15, 4), (16, 5), (17, 6), (18, 7), (19, 8), (20, 9), (21, 10), (22, 11), (23, 12), (25, 14), (27, 16), (28, 17), (29, 18), (30, 19), (31, 20), (32, 21), (33, 22), (34, 23)] (some (19, false)) (by kernel_rfl) (by kernel_rfl) (by kernel_rfl) (by kernel_rfl) rfl
      · intro xs w hw hp K hK
        simp only [holdsL, List.nil_append, List.cons_append, List.getD_cons_succ, List.getD_cons_zero, if_true, and_true] at hp
        obtain ⟨c0, c1, c2, _⟩ := enres (HA7.out w hw)
        go_simp
        exact hK _ (Grow.refl _)
      -- operation 14
      apply lexf_eq hsz [(8, true)] [(11, 0), (12, 1), (13, 2), (14, 3), (15, 4), (16, 5), (17, 6), (18, 7), (19, 8), (20, 9), (21, 10), (22, 11), (23, 12), (24, 13), (27, 16), (28, 17), (29, 18), (30, 19), (31, 20), (32, 21), (33, 22), (34, 23)] (some (19, false)) (by kernel_rfl) (by kernel_rfl) (by kernel_rfl) (by kernel_rfl) rfl
      · intro xs w hw hp K hK
        simp only [holdsL, List.nil_append, List.cons_append, List.getD_cons_succ, List.getD_cons_zero, if_true, and_true] at hp
        obtain ⟨c0, c1, c2, _⟩ := enres (HB7.out w hw)
        go_simp
        exact hK _ (Grow.refl _)
      -- operation 15
      apply lexf_eq hsz [(8, true), (13, true), (14, true)] [(11, 0), (12, 1), (13, 2), (14, 3), (15, 4), (16, 5), (17, 6), (18, 7), (19, 8), (20, 9), (21, 10), (22, 11), (23, 12), (24, 13), (25, 14), (28, 17), (29, 18), (30, 19), (31, 20), (32, 21), (33, 22), (34, 23)] (some (19, false)) (by kernel_rfl) (by kernel_rfl) (by kernel_rfl) (by kernel_rfl) rfl
      · intro xs w hw hp K hK
        simp only [holdsL, List.nil_append, List.cons_append, List.getD_cons_succ, List.getD_cons_zero, if_true, and_true] at hp
        go_simp
        simp only [HSm.out]
        exact hK _ (Grow.refl _)
      -- operation 16
      apply lexf_eq hsz [(8, true), (12, true), (15, true)] [(11, 0), (12, 1), (13, 2), (14, 3), (15, 4), (16, 5), (17, 6), (18, 7), (19, 8), (20, 9), (21, 10), (22, 11), (23, 12), (24, 13), (25, 14), (26, 15), (29, 18), (30, 19), (31, 20), (32, 21), (33, 22), (34, 23)] (some (19, false)) (by kernel_rfl) (by kernel_rfl) (by kernel_rfl) (by kernel_rfl) rfl
      · intro xs w hw hp K hK
        simp only [holdsL, List.nil_append, List.cons_append, List.getD_cons_succ, List.getD_cons_zero, if_true, and_true] at hp
        go_simp
        exact hK _ (Grow.refl _)
      -- operation 17
      apply lexf_eq hsz [(8, true), (16, true)] [(11, 0), (12, 1), (13, 2), (14, 3), (15, 4), (16, 5), (17, 6), (18, 7), (19, 8), (20, 9), (21, 10), (22, 11), (23, 12), (24, 13), (25, 14), (26, 15), (27, 16), (30, 19), (31, 20), (32, 21), (33, 22), (34, 23)] none (by kernel_rfl) (by kernel_rfl) (by kernel_rfl) (by kernel_rfl) rfl
      · intro xs w hw hp K hK
        simp only [holdsL, List.nil_append, List.cons_append, List.getD_cons_succ, List.getD_cons_zero, if_true, and_true] at hp
        go_simp
        exact hK _ (Grow.refl _)
      -- operation 18
      apply lexf_eq hsz [(17, true)] [(11, 0), (12, 1), (13, 2), (14, 3), (15, 4), (16, 5), (17, 6), (18, 7), (19, 8), (20, 9), (21, 10), (22, 11), (23, 12), (24, 13), (25, 14), (26, 15), (27, 16), (28, 17)] none (by kernel_rfl) (by kernel_rfl) (by kernel_rfl) (by kernel_rfl) rfl
      · intro xs w hw hp K hK
        simp only [holdsL, List.nil_append, List.cons_append, List.getD_cons_succ, List.getD_cons_zero, if_true, and_true] at hp
        go_simp
        exact hK _ (Grow.refl _)
      -- operation 19
      apply lexf_eq hsz [(18, true)] [(11, 0), (12, 1), (13, 2), (14, 3), (15, 4), (16, 5), (17, 6), (18, 7), (19, 8), (20, 9), (21, 10), (22, 11), (23, 12), (24, 13), (25, 14), (26, 15), (27, 16), (28, 17), (29, 18), (31, 20), (33, 22), (34, 23)] (some (29, false)) (by kernel_rfl) (by kernel_rfl) (by kernel_rfl) (by kernel_rfl) rfl
      · intro xs w hw hp K hK
        simp only [holdsL, List.nil_append, List.cons_append, List.getD_cons_succ, List.getD_cons_zero, if_true, and_true] at hp
        obtain ⟨c0, c1, c2, _⟩ := enres (HA7.out w hw)
        go_simp
        exact hK _ (Grow.refl _)
      -- operation 20
      apply lexf_eq hsz [(18, true)] [(11, 0), (12, 1), (13, 2), (14, 3), (15, 4), (16, 5), (17, 6), (18, 7), (19, 8), (20, 9), (21, 10), (22, 11), (23, 12), (24, 13), (25, 14), (26, 15), (27, 16), (28, 17), (29, 18), (30, 19), (33, 22), (34, 23)] (some (29, false)) (by kernel_rfl) (by kernel_rfl) (by kernel_rfl) (by kernel_rfl) rfl
      · intro xs w hw hp K hK
        simp only [holdsL, List.nil_append, List.cons_append, List.getD_cons_succ, List.getD_cons_zero, if_true, and_true] at hp
        obtain ⟨c0, c1, c2, _⟩ := enres (HA7.out w hw)
        go_simp
        exact hK _ (Grow.refl _)
      -- operation 21
      apply lexf_eq hsz [(18, true), (19, true), (20, true)] [(11, 0), (12, 1), (13, 2), (14, 3), (15, 4), (16, 5), (17, 6), (18, 7), (19, 8), (20, 9), (21, 10), (22, 11), (23, 12), (24, 13), (25, 14), (26, 15), (27, 16), (28, 17), (29, 18), (30, 19), (31, 20), (34, 23)] (some (29, false)) (by kernel_rfl) (by kernel_rfl) (by kernel_rfl) (by kernel_rfl) rfl
      · intro xs w hw hp K hK
        simp only [holdsL, List.nil_append, List.cons_append, List.getD_cons_succ, List.getD_cons_zero, if_true, and_true] at hp
        go_simp
        exact (HAA.out w).mono fun e w' h => ⟨_, h.1, hK _ h.2⟩
      -- operation 22
      apply lexf_eq hsz [(18, true), (21, true)] [(11, 0), (12, 1), (13, 2), (14, 3), (15, 4), (16, 5), (17, 6), (18, 7), (19, 8), (20, 9), (21, 10), (22, 11), (23, 12), (24, 13), (25, 14), (26, 15), (27, 16), (28, 17), (29, 18), (30, 19), (31, 20), (32, 21)] (some (29, false)) (by kernel_rfl) (by kernel_rfl) (by kernel_rfl) (by kernel_rfl) rfl
      · intro xs w hw hp K hK
        simp only [holdsL, List.nil_append, List.cons_append, List.getD_cons_succ, List.getD_cons_zero, if_true, and_true] at hp
        go_simp
        exact hK _ (Grow.refl _)
      intro xs w hw hp
      have ha0 := HA0.out
      clear HA0 hsz s3 s4
      simp only [holdsL, List.nil_append, List.cons_append, List.getD_cons_succ, List.getD_cons_zero, if_true, and_true] at hp
      have h18 := hp.2.2.2.2.2.2.2.2.2.2.2.2.2.2.2.2.2.2.1
      have h22 := hp.2.2.2.2.2.2.2.2.2.2.2.2.2.2.2.2.2.2.2.2.2.2
      clear hp
      subst ha0
      simp only [putAll, h18, h22]
      have hgw := hw.undrew
      clear hw h18 h22
      go_wp2_with fail
      all_goals go_meet
      all_goals (case rel => exact ⟨rfl, hgw⟩)
  case rest =>
    obtain ⟨rfl, hg1⟩ := hcut
    generalize wc = w1 at *
    have HA1 := keep (HA0.out.fits hg1)
    have HB1 := keep (HB0.out.fits hg1)
    have HC1 := keep (HC0.out.fits hg1)
    have HG1 := keep (Grow.trans HG0.out hg1)
    clear hg1 HA7 HB7 HA0 HB0 HC0
    obtain ⟨a0, a1, a2, _⟩ := enres HA1.out
    obtain ⟨b0, b1, b2, _⟩ := enres HB1.out
    obtain ⟨c0, c1, c2, _⟩ := enres HC1.out
    go_upto_region 3 with fail
    go_cut [50] from 35 to 50 (fun sv wx => sv = .bool false ∧ Grow w1 wx)
    case first =>
      by_cases hX : X = -1
      · have htr2 := HTr.out hX
        subst hX
        have HTr2 := keep htr2
        clear htr2
        go_wp2_with fail
        refine (HAB.out w1).mono ?_
        rintro x w2 ⟨rfl, hb2⟩
        have hA2 := HA1.out.fits hb2
        have hB2 := HB1.out.fits hb2
        have hC2 := HC1.out.fits hb2
        clear a0 a1 a2 b0 b1 b2 c0 c1 c2
        obtain ⟨a0, a1, a2, _⟩ := enres hA2
        obtain ⟨b0, b1, b2, _⟩ := enres hB2
        obtain ⟨c0, c1, c2, _⟩ := enres hC2
        by_cases hZ : Z = -1
        · have hV := HTr2.out hZ
          subst hZ hV
          go_wp2_with fail
          refine (HBC.out w2).mono ?_
          rintro x w3 ⟨rfl, hb3⟩
          have hA3 := hA2.fits hb3
          have hC3 := hC2.fits hb3
          clear a0 a1 a2 b0 b1 b2 c0 c1 c2
          obtain ⟨a0, a1, a2, _⟩ := enres hA3
          obtain ⟨c0, c1, c2, _⟩ := enres hC3
          go_wp2_with fail
          refine (HAC.out w3).mono ?_
          rintro x w4 ⟨rfl, hb4⟩
          go_wp2_with fail
          all_goals go_meet
          all_goals (case rel => exact ⟨rfl, Grow.trans (Grow.trans hb2 hb3) hb4⟩)
        · have hZ0 : ¬ Z < 0 := by rcases H3b.out with h | h | h <;> omega
          clear hZ
          go_wp2_with fail
          refine (HBC.out w2).mono ?_
          rintro x w3 ⟨rfl, hb3⟩
          go_wp2_with fail
          all_goals go_meet
          all_goals (case rel => exact ⟨by simp, Grow.trans hb2 hb3⟩)
      · have hX0 : ¬ X < 0 := by rcases h3 with h | h | h <;> omega
        clear hX
        go_wp2_with fail
        refine (HAB.out w1).mono ?_
        rintro x w2 ⟨rfl, hb2⟩
        go_wp2_with fail
        all_goals go_meet
        all_goals (case rel => exact ⟨by simp, hb2⟩)
    case rest =>
      obtain ⟨rfl, hg2⟩ := hcut
      generalize wc = w2 at *
      have HA2 := keep (HA1.out.fits hg2)
      have HB2 := keep (HB1.out.fits hg2)
      have HG2 := keep (Grow.trans HG1.out hg2)
      clear hg2 HA1 HB1 HC1 a0 a1 a2 b0 b1 b2 c0 c1 c2
      obtain ⟨a0, a1, a2, _⟩ := enres HA2.out
      go_wp2_with fail
      refine (HEA.out w2).mono ?_
      rintro x w3 ⟨rfl, hb3⟩
      have HA3 := keep (HA2.out.fits hb3)
      have HB3 := keep (HB2.out.fits hb3)
      have HG3 := keep (Grow.trans HG2.out hb3)
      clear hb3 HA2 HB2 a0 a1 a2
      obtain ⟨b0, b1, b2, _⟩ := enres HB3.out
      go_wp2_with fail
      refine (HEB.out w3).mono ?_
      rintro x w4 ⟨rfl, hb4⟩
      have HA4 := keep (HA3.out.fits hb4)
      have HB4 := keep (HB3.out.fits hb4)
      have HG4 := keep (Grow.trans HG3.out hb4)
      clear hb4 HA3 HB3 b0 b1 b2
      obtain ⟨a0, a1, a2, _⟩ := enres HA4.out
      obtain ⟨b0, b1, b2, _⟩ := enres HB4.out
      go_upto_region 7 with fail
      go_cut [75] from 61 to 75 (fun sv wx => sv = .bool false ∧ wx = w4)
      case first =>
        by_cases h1 : ca = 0
        · by_cases h2 : cb = 0
          · have hiff := HIn.out h1 h2
            subst h1 h2
            by_cases h4 : ea = eb
            · have hX := hiff.1 h4
              subst h4 hX
              have HSm := keep (show sameE (k1, p1, s1) (k2, p2, s2) = true by rw [HSm.out]; rfl)
              clear hiff
              go_wp2_with fail
              all_goals go_meet
              all_goals (case rel => exact ⟨by simp [HSm.out], rfl⟩)
            · have hX : ¬ X = 0 := fun h => h4 (hiff.2 h)
              have HSm := keep (show sameE (k1, p1, s1) (k2, p2, s2) = false by rw [HSm.out]; exact decide_eq_false hX)
              have h5 : ¬ (str ea).toList = (str eb).toList := by rw [str_list, str_list]; exact h4
              clear hiff hX h4
              go_wp2_with fail
              all_goals go_meet
              all_goals (case rel => exact ⟨by simp [HSm.out, h5], rfl⟩)
          · have h2b : (cb == 0) = false := by simp [h2]
            subst h1
            clear h2
            go_wp2_with fail
            all_goals go_meet
            all_goals (case rel => exact ⟨by simp [h2b], rfl⟩)
        · have h1b : (ca == 0) = false := by simp [h1]
          clear h1
          go_wp2_with fail
          all_goals go_meet
          all_goals (case rel => exact ⟨by simp [h1b], rfl⟩)
      case rest =>
        obtain ⟨rfl, rfl⟩ := hcut
        go_wp2_with fail
        refine (awake_any wc).mono ?_
        rintro x w5 ⟨rfl, hb5⟩
        go_wp2_with fail
        go_ret
        exact ⟨rfl, Grow.trans HG4.out hb5⟩

end Go.Proofs.Ytigbgodbalpgdaa
