/- node.Compare. -/
import Derived.Test.YtigbgodbalpgdaaNd2
import Derived.Test.YtigbgodbalpgdaaShelf
namespace Go.Proofs.Ytigbgodbalpgdaa
open Go.RowKit
attribute [local go_sem] gives givesUpon_value givesUpon_skip givesUpon_enter

/-- -1, 0 or 1, as an entry is ahead of another one, it, or behind it. -/
def cmpE (a b : En) : Int := or3 (Lib.compareBytes a.1 b.1) (Lib.compareInt a.2.1 b.2.1) (Lib.compareInt a.2.2 b.2.2)

set_option maxRecDepth 100000 in
set_option maxHeartbeats 2000000 in
theorem compare_any (a b : En) (w_ : World) : Calls Try.prog 9 #[enV a, enV b] w_ fun x w' => x = .returned (.int .i64 (cmpE a b)) ∧ Below w_.heap.size w_ w' := by
  obtain ⟨k1, p1, s1⟩ := a
  obtain ⟨k2, p2, s2⟩ := b
  have hd : cmpE (k1, p1, s1) (k2, p2, s2) = or3 (Lib.compareBytes k1 k2) (Lib.compareInt p1 p2) (Lib.compareInt s1 s2) := rfl
  rw [hd]
  clear hd
  obtain ⟨w0, hw0⟩ : ∃ w0, w0 = (w_.alloc (.cells #[.string (str k1), .int .i64 p1, .int .i64 s1] 23)).alloc (.cells #[.string (str k2), .int .i64 p2, .int .i64 s2] 23) := ⟨_, rfl⟩
  have hg0 : Grow w_ w0 := by subst hw0; exact ((Grow.refl w_).alloc _).alloc _
  have hA0 : Blk w0 w_.heap.size 23 [.string (str k1), .int .i64 p1, .int .i64 s1] := by subst hw0; exact (Blk.new w_ _ [_, _, _]).alloc _
  have hB0 : Blk w0 (w_.heap.size + 1) 23 [.string (str k2), .int .i64 p2, .int .i64 s2] := by
    have := Blk.new (w_.alloc (.cells #[.string (str k1), .int .i64 p1, .int .i64 s1] 23)) 23 [.string (str k2), .int .i64 p2, .int .i64 s2]
    have e : (w_.alloc (.cells #[.string (str k1), .int .i64 p1, .int .i64 s1] 23)).heap.size = w_.heap.size + 1 := by simp
    rw [e] at this
    subst hw0; exact this
  have Ha0 := keep (fun (u : World) (hu : Grow w0.drew u) => (enres (Blk.fits (w := w0.drew) hA0 hu)).1)
  have Ha1 := keep (fun (u : World) (hu : Grow w0.drew u) => (enres (Blk.fits (w := w0.drew) hA0 hu)).2.1)
  have Ha2 := keep (fun (u : World) (hu : Grow w0.drew u) => (enres (Blk.fits (w := w0.drew) hA0 hu)).2.2.1)
  have Hb0 := keep (fun (u : World) (hu : Grow w0.drew u) => (enres (Blk.fits (w := w0.drew) hB0 hu)).1)
  have Hb1 := keep (fun (u : World) (hu : Grow w0.drew u) => (enres (Blk.fits (w := w0.drew) hB0 hu)).2.1)
  have Hb2 := keep (fun (u : World) (hu : Grow w0.drew u) => (enres (Blk.fits (w := w0.drew) hB0 hu)).2.2.1)
  clear hA0 hB0
  unfold enV
  go_enter Try.func9, Try.ntmps9
  go_upto_region 1 with fail
  rw [← hw0]
  clear hw0
  refine wp_region_grow (by kernel_rfl) 17 (by kernel_rfl) [(5, 0), (6, 1), (7, 2), (8, 3), (9, 4), (10, 5), (11, 6), (12, 7), (13, 8), (14, 9), (15, 10), (16, 11), (17, 12), (18, 13), (19, 14), (20, 15), (21, 16)] (by kernel_rfl) [(0, true), (1, true), (2, true), (3, true), (4, true), (5, true), (6, true), (7, true), (8, true), (9, true), (10, true), (11, true), (12, true), (13, true), (14, true), (15, true), (16, true)] (by kernel_rfl) rfl rfl ?_
  -- operation 0
  apply lex_eq [] [(7, 2), (8, 3), (9, 4), (10, 5), (11, 6), (12, 7), (13, 8), (14, 9), (15, 10), (16, 11), (17, 12), (18, 13), (19, 14), (20, 15), (21, 16)] (by kernel_rfl) (by kernel_rfl) rfl
  · intro xs w hw hp K hK
    simp only [putAll]
    go_simp
    exact hK _ (Grow.refl _)
  -- operation 1
  apply lex_eq [(0, true)] [(5, 0), (7, 2), (8, 3), (10, 5), (11, 6), (12, 7), (13, 8), (14, 9), (15, 10), (16, 11), (17, 12), (18, 13), (19, 14), (20, 15), (21, 16)] (by kernel_rfl) (by kernel_rfl) rfl
  · intro xs w hw hp K hK
    simp only [holdsL, List.nil_append, List.cons_append, List.getD_cons_succ, List.getD_cons_zero, if_true, and_true] at hp
    simp only [putAll]
    have hc := Ha0.out w hw
    go_simp
    exact hK _ (Grow.refl _)
  -- operation 2
  apply lex_eq [] [(5, 0), (6, 1), (9, 4), (10, 5), (11, 6), (12, 7), (13, 8), (14, 9), (15, 10), (16, 11), (17, 12), (18, 13), (19, 14), (20, 15), (21, 16)] (by kernel_rfl) (by kernel_rfl) rfl
  · intro xs w hw hp K hK
    simp only [putAll]
    go_simp
    exact hK _ (Grow.refl _)
  -- operation 3
  apply lex_eq [(2, true)] [(5, 0), (6, 1), (7, 2), (10, 5), (11, 6), (12, 7), (13, 8), (14, 9), (15, 10), (16, 11), (17, 12), (18, 13), (19, 14), (20, 15), (21, 16)] (by kernel_rfl) (by kernel_rfl) rfl
  · intro xs w hw hp K hK
    simp only [holdsL, List.nil_append, List.cons_append, List.getD_cons_succ, List.getD_cons_zero, if_true, and_true] at hp
    simp only [putAll]
    have hc := Hb0.out w hw
    go_simp
    exact hK _ (Grow.refl _)
  -- operation 4
  apply lex_eq [(1, true), (3, true)] [(5, 0), (6, 1), (7, 2), (8, 3), (10, 5), (11, 6), (12, 7), (13, 8), (15, 10), (16, 11), (17, 12), (18, 13), (19, 14), (21, 16)] (by kernel_rfl) (by kernel_rfl) rfl
  · intro xs w hw hp K hK
    simp only [holdsL, List.nil_append, List.cons_append, List.getD_cons_succ, List.getD_cons_zero, if_true, and_true] at hp
    simp only [putAll]
    go_simp
    exact (Try.strings_Compare (str k1) (str k2) w).mono fun e w' h => ⟨_, h.1, hK _ (by rw [h.2]; exact Grow.refl _)⟩
  -- operation 5
  apply lex_eq [] [(5, 0), (6, 1), (7, 2), (8, 3), (9, 4), (12, 7), (13, 8), (14, 9), (15, 10), (16, 11), (17, 12), (18, 13), (19, 14), (20, 15), (21, 16)] (by kernel_rfl) (by kernel_rfl) rfl
  · intro xs w hw hp K hK
    simp only [putAll]
    go_simp
    exact hK _ (Grow.refl _)
  -- operation 6
  apply lex_eq [(5, true)] [(5, 0), (6, 1), (7, 2), (8, 3), (9, 4), (10, 5), (12, 7), (13, 8), (15, 10), (16, 11), (17, 12), (18, 13), (19, 14), (20, 15), (21, 16)] (by kernel_rfl) (by kernel_rfl) rfl
  · intro xs w hw hp K hK
    simp only [holdsL, List.nil_append, List.cons_append, List.getD_cons_succ, List.getD_cons_zero, if_true, and_true] at hp
    simp only [putAll]
    have hc := Ha1.out w hw
    go_simp
    exact hK _ (Grow.refl _)
  -- operation 7
  apply lex_eq [] [(5, 0), (6, 1), (7, 2), (8, 3), (9, 4), (10, 5), (11, 6), (14, 9), (15, 10), (16, 11), (17, 12), (18, 13), (19, 14), (20, 15), (21, 16)] (by kernel_rfl) (by kernel_rfl) rfl
  · intro xs w hw hp K hK
    simp only [putAll]
    go_simp
    exact hK _ (Grow.refl _)
  -- operation 8
  apply lex_eq [(7, true)] [(5, 0), (6, 1), (7, 2), (8, 3), (9, 4), (10, 5), (11, 6), (12, 7), (15, 10), (16, 11), (17, 12), (18, 13), (19, 14), (20, 15), (21, 16)] (by kernel_rfl) (by kernel_rfl) rfl
  · intro xs w hw hp K hK
    simp only [holdsL, List.nil_append, List.cons_append, List.getD_cons_succ, List.getD_cons_zero, if_true, and_true] at hp
    simp only [putAll]
    have hc := Hb1.out w hw
    go_simp
    exact hK _ (Grow.refl _)
  -- operation 9
  apply lex_eq [(6, true), (8, true)] [(5, 0), (6, 1), (7, 2), (8, 3), (9, 4), (10, 5), (11, 6), (12, 7), (13, 8), (15, 10), (16, 11), (17, 12), (18, 13), (21, 16)] (by kernel_rfl) (by kernel_rfl) rfl
  · intro xs w hw hp K hK
    simp only [holdsL, List.nil_append, List.cons_append, List.getD_cons_succ, List.getD_cons_zero, if_true, and_true] at hp
    simp only [putAll]
    go_simp
    exact (Try.cmp_Compare_int p1 p2 w).mono fun e w' h => ⟨_, h.1, hK _ (by rw [h.2]; exact Grow.refl _)⟩
  -- operation 10
  apply lex_eq [] [(5, 0), (6, 1), (7, 2), (8, 3), (9, 4), (10, 5), (11, 6), (12, 7), (13, 8), (14, 9), (17, 12), (18, 13), (19, 14), (20, 15), (21, 16)] (by kernel_rfl) (by kernel_rfl) rfl
  · intro xs w hw hp K hK
    simp only [putAll]
    go_simp
    exact hK _ (Grow.refl _)
  -- operation 11
  apply lex_eq [(10, true)] [(5, 0), (6, 1), (7, 2), (8, 3), (9, 4), (10, 5), (11, 6), (12, 7), (13, 8), (14, 9), (15, 10), (17, 12), (18, 13), (20, 15), (21, 16)] (by kernel_rfl) (by kernel_rfl) rfl
  · intro xs w hw hp K hK
    simp only [holdsL, List.nil_append, List.cons_append, List.getD_cons_succ, List.getD_cons_zero, if_true, and_true] at hp
    simp only [putAll]
    have hc := Ha2.out w hw
    go_simp
    exact hK _ (Grow.refl _)
  -- operation 12
  apply lex_eq [] [(5, 0), (6, 1), (7, 2), (8, 3), (9, 4), (10, 5), (11, 6), (12, 7), (13, 8), (14, 9), (15, 10), (16, 11), (19, 14), (20, 15), (21, 16)] (by kernel_rfl) (by kernel_rfl) rfl
  · intro xs w hw hp K hK
    simp only [putAll]
    go_simp
    exact hK _ (Grow.refl _)
  -- operation 13
  apply lex_eq [(12, true)] [(5, 0), (6, 1), (7, 2), (8, 3), (9, 4), (10, 5), (11, 6), (12, 7), (13, 8), (14, 9), (15, 10), (16, 11), (17, 12), (20, 15), (21, 16)] (by kernel_rfl) (by kernel_rfl) rfl
  · intro xs w hw hp K hK
    simp only [holdsL, List.nil_append, List.cons_append, List.getD_cons_succ, List.getD_cons_zero, if_true, and_true] at hp
    simp only [putAll]
    have hc := Hb2.out w hw
    go_simp
    exact hK _ (Grow.refl _)
  -- operation 14
  apply lex_eq [(11, true), (13, true)] [(5, 0), (6, 1), (7, 2), (8, 3), (9, 4), (10, 5), (11, 6), (12, 7), (13, 8), (14, 9), (15, 10), (16, 11), (17, 12), (18, 13)] (by kernel_rfl) (by kernel_rfl) rfl
  · intro xs w hw hp K hK
    simp only [holdsL, List.nil_append, List.cons_append, List.getD_cons_succ, List.getD_cons_zero, if_true, and_true] at hp
    simp only [putAll]
    go_simp
    exact (Try.cmp_Compare_int s1 s2 w).mono fun e w' h => ⟨_, h.1, hK _ (by rw [h.2]; exact Grow.refl _)⟩
  -- operation 15
  refine lex_says (fun v u => ∃ g c, v = .slice (some ⟨g, 0, none⟩) 3 c ∧ Blk u g 3 [.int .i64 (Lib.compareBytes k1 k2), .int .i64 (Lib.compareInt p1 p2), .int .i64 (Lib.compareInt s1 s2)]) (fun v u u' hg ⟨g, c, h1, h2⟩ => ⟨g, c, h1, h2.fits hg⟩) [(4, true), (9, true), (14, true)] [(5, 0), (6, 1), (7, 2), (8, 3), (9, 4), (10, 5), (11, 6), (12, 7), (13, 8), (14, 9), (15, 10), (16, 11), (17, 12), (18, 13), (19, 14)] (by kernel_rfl) (by kernel_rfl) rfl ?_ ?_
  · intro xs w hw hp K hK
    simp only [holdsL, List.nil_append, List.cons_append, List.getD_cons_succ, List.getD_cons_zero, if_true, and_true] at hp
    simp only [putAll]
    go_simp
    exact hK _ _ ⟨_, _, rfl, Blk.new w 3 [_, _, _]⟩ ((Grow.refl w).alloc _)
  -- operation 16
  apply lex_eq [(15, true)] [(5, 0), (6, 1), (7, 2), (8, 3), (9, 4), (10, 5), (11, 6), (12, 7), (13, 8), (14, 9), (15, 10), (16, 11), (17, 12), (18, 13), (19, 14), (20, 15)] (by kernel_rfl) (by kernel_rfl) rfl
  · intro xs w hw hp K hK
    simp only [holdsL, List.nil_append, List.cons_append, List.getD_cons_succ, List.getD_cons_zero, if_true, and_true] at hp
    generalize hA : putAll xs _ _ = A
    obtain ⟨g, c, hpv, hB⟩ := hp
    subst hA
    simp only [putAll, hpv]
    go_simp
    exact (or_any g c _ _ _ w hB).mono fun e w' h => ⟨_, h.1, hK _ (by rw [h.2]; exact Grow.refl _)⟩
  intro xs w hw hp
  generalize hA : putAll xs _ _ = A
  simp only [holdsL, List.nil_append, List.cons_append, List.getD_cons_succ, List.getD_cons_zero, if_true, and_true] at hp
  have h16 := hp.2.2.2.2.2.2.2.2.2.2.2.2.2.2.2.2
  clear hp
  subst hA
  simp only [putAll, h16]
  have hgw : Grow w_ w := Grow.trans hg0 hw.undrew
  clear hw h16
  go_wp2_with fail
  go_ret
  exact ⟨rfl, hgw⟩

end Go.Proofs.Ytigbgodbalpgdaa
