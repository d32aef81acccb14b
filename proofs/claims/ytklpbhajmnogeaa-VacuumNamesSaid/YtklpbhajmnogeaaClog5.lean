/- clog.put, made, Blank, Set. -/
import Derived.Test.YtklpbhajmnogeaaClog4
namespace Go.Proofs.Ytklpbhajmnogeaa
open Go.RowKit
attribute [local go_sem] gives givesUpon_value givesUpon_skip givesUpon_enter

theorem brow_set {w : World} {base g cap : Nat} {C : Array Value} {f : Nat × Nat} {l : List UInt8} (hgb : base ≤ g) (h3 : w.heap[g]? = some (.cells C 5 f)) (h4 : ∀ j, j < l.length → C[j]? = some (.int .u8 (l.getD j 0).toNat)) (h5 : l.length ≤ C.size)
    (h6 : C.size ≤ f.1 ∨ f = (0, 0)) (q : Nat) (hq : q < l.length) (c : UInt8) : BRow (w.setCell ⟨g, q, none⟩ (.int .u8 c.toNat)) base (.slice (some ⟨g, 0, none⟩) l.length cap) (l.set q c) := by
  refine ⟨g, cap, C.setIfInBounds q (.int .u8 c.toNat), f, by simp, hgb, ?_, ?_, by simpa using h5, by simpa using h6⟩
  · simp only [World.setCell, Array.getElem?_modify, if_true, h3]
    simp
  · intro j hj
    rw [List.length_set] at hj
    by_cases hjq : j = q
    · subst hjq
      rw [Array.getElem?_setIfInBounds_self_of_lt (by omega)]
      simp [hj]
    · rw [Array.getElem?_setIfInBounds_ne (fun e => hjq e.symm), h4 j hj]
      simp [List.getElem?_set_ne (fun e => hjq e.symm)]

set_option maxRecDepth 100000 in
set_option maxHeartbeats 1000000 in
theorem put_any (base : Nat) (v : Value) (l : List UInt8) (x : Int) (s : Nat) (w : World) (hb : BRow w base v l) (hx1 : 1 ≤ x) (hx2 : x ≤ 1024) (hq1 : ((x - 1) / 4).toNat < l.length) (hs : s < 256) (hll : (l.length : Int) ≤ 9223372036854775807) :
    Calls Try.prog 26 #[v, .int .i64 x, .int .u8 s] w fun e w' => e = .returned (.tuple #[]) ∧ BRow w' base v (putS l x s) ∧ Below base w w' := by
  obtain ⟨g, cap, C, f, rfl, hgb, hC1, hC2, hC3, hC4⟩ := hb
  have hcell : w.cell? ⟨g, ((x - 1) / 4).toNat, none⟩ = some (.int .u8 (l.getD ((x - 1) / 4).toNat 0).toNat) := brow_cell hC1 hC2 _ hq1
  have hfree : w.frozen? ⟨g, ((x - 1) / 4).toNat, none⟩ = false := brow_free hC1 hC3 hC4 _ hq1
  have hpb := put_bits (l.getD ((x - 1) / 4).toNat 0).toNat s (2 * ((x - 1) % 4)).toNat (l.getD ((x - 1) / 4).toNat 0).toNat_lt hs
  have Hpb := keep hpb
  have hi0 : 0 ≤ (x - 1) / 4 := by omega
  have hi1 : (x - 1) / 4 < (l.length : Int) := by omega
  have hf0 : 0 ≤ 2 * ((x - 1) % 4) := by omega
  have hf1 : 2 * ((x - 1) % 4) ≤ 6 := by omega
  have HC1 := keep hC1
  have HC2 := keep hC2
  have HC3 := keep hC3
  have HC4 := keep hC4
  clear hC1 hC2 hC3 hC4 hpb
  go_enter Try.func26, Try.ntmps26
  go_wp2_with fail
  refine (place_any x _ hx1 hx2).mono ?_
  rintro e w1 ⟨rfl, rfl⟩
  go_wp2_with fail
  have hcells : ∀ u, Grow w.drew u → u.cell? ⟨g, ((x - 1) / 4).toNat, none⟩ = some (.int .u8 (l.getD ((x - 1) / 4).toNat 0).toNat) := fun u hu => (hu.cell (p := ⟨g, ((x - 1) / 4).toNat, none⟩) (lt_of_block HC1.out)).trans hcell
  have Hcells := keep hcells
  clear hcells
  refine wp_region_grow (by kernel_rfl) 13 (by kernel_rfl) [(13, 0), (14, 1), (15, 2), (16, 3), (17, 4), (18, 5), (19, 6), (20, 7), (21, 8), (22, 9), (23, 10), (24, 11), (25, 12)] (by kernel_rfl) [(0, true), (1, true), (2, true), (3, true), (4, true), (5, true), (6, true), (7, true), (8, true), (9, true), (10, true), (11, true), (12, true)] (by kernel_rfl) rfl rfl ?_
  -- operation 0
  apply lex_eq [] [(14, 1), (15, 2), (16, 3), (17, 4), (18, 5), (19, 6), (20, 7), (21, 8), (22, 9), (23, 10), (24, 11), (25, 12)] (by kernel_rfl) (by kernel_rfl) rfl
  · intro xs w hw hp K hK
    simp only [putAll]
    go_simp
    exact hK _ (Grow.refl _)
  -- operation 1
  apply lex_eq [] [(13, 0), (15, 2), (16, 3), (17, 4), (18, 5), (19, 6), (20, 7), (21, 8), (22, 9), (23, 10), (24, 11), (25, 12)] (by kernel_rfl) (by kernel_rfl) rfl
  · intro xs w hw hp K hK
    simp only [putAll]
    go_simp
    exact hK _ (Grow.refl _)
  -- operation 2
  apply lex_eq [] [(13, 0), (14, 1), (16, 3), (18, 5), (19, 6), (20, 7), (21, 8), (22, 9), (23, 10), (24, 11), (25, 12)] (by kernel_rfl) (by kernel_rfl) rfl
  · intro xs w hw hp K hK
    simp only [putAll]
    go_simp
    exact hK _ (Grow.refl _)
  -- operation 3
  apply lex_eq [] [(13, 0), (14, 1), (15, 2), (18, 5), (19, 6), (20, 7), (21, 8), (22, 9), (23, 10), (24, 11), (25, 12)] (by kernel_rfl) (by kernel_rfl) rfl
  · intro xs w hw hp K hK
    simp only [putAll]
    go_simp
    exact hK _ (Grow.refl _)
  -- operation 4
  apply lex_eq [(2, true), (3, true)] [(13, 0), (14, 1), (15, 2), (16, 3), (19, 6), (20, 7), (21, 8), (22, 9), (23, 10), (24, 11), (25, 12)] (by kernel_rfl) (by kernel_rfl) rfl
  · intro xs w hw hp K hK
    simp only [holdsL, List.nil_append, List.cons_append, List.getD_cons_succ, List.getD_cons_zero, if_true, and_true] at hp
    simp only [putAll]
    go_simp
    exact hK _ (Grow.refl _)
  -- operation 5
  apply lex_eq [(4, true)] [(13, 0), (14, 1), (15, 2), (16, 3), (17, 4), (19, 6), (20, 7), (22, 9), (23, 10), (24, 11), (25, 12)] (by kernel_rfl) (by kernel_rfl) rfl
  · intro xs w hw hp K hK
    simp only [holdsL, List.nil_append, List.cons_append, List.getD_cons_succ, List.getD_cons_zero, if_true, and_true] at hp
    simp only [putAll]
    have hc5 := Hcells.out w hw
    go_simp
    exact hK _ (Grow.refl _)
  -- operation 6
  apply lex_eq [] [(13, 0), (14, 1), (15, 2), (16, 3), (17, 4), (18, 5), (21, 8), (22, 9), (23, 10), (24, 11), (25, 12)] (by kernel_rfl) (by kernel_rfl) rfl
  · intro xs w hw hp K hK
    simp only [putAll]
    go_simp
    exact hK _ (Grow.refl _)
  -- operation 7
  apply lex_eq [(6, true)] [(13, 0), (14, 1), (15, 2), (16, 3), (17, 4), (18, 5), (19, 6), (22, 9), (23, 10), (24, 11), (25, 12)] (by kernel_rfl) (by kernel_rfl) rfl
  · intro xs w hw hp K hK
    simp only [holdsL, List.nil_append, List.cons_append, List.getD_cons_succ, List.getD_cons_zero, if_true, and_true] at hp
    simp only [putAll]
    go_simp
    exact hK _ (Grow.refl _)
  -- operation 8
  apply lex_eq [(5, true), (7, true)] [(13, 0), (14, 1), (15, 2), (16, 3), (17, 4), (18, 5), (19, 6), (20, 7), (22, 9), (23, 10), (24, 11)] (by kernel_rfl) (by kernel_rfl) rfl
  · intro xs w hw hp K hK
    simp only [holdsL, List.nil_append, List.cons_append, List.getD_cons_succ, List.getD_cons_zero, if_true, and_true] at hp
    simp only [putAll]
    go_simp
    exact hK _ (Grow.refl _)
  -- operation 9
  apply lex_eq [] [(13, 0), (14, 1), (15, 2), (16, 3), (17, 4), (18, 5), (19, 6), (20, 7), (21, 8), (23, 10), (25, 12)] (by kernel_rfl) (by kernel_rfl) rfl
  · intro xs w hw hp K hK
    simp only [putAll]
    go_simp
    exact hK _ (Grow.refl _)
  -- operation 10
  apply lex_eq [] [(13, 0), (14, 1), (15, 2), (16, 3), (17, 4), (18, 5), (19, 6), (20, 7), (21, 8), (22, 9), (25, 12)] (by kernel_rfl) (by kernel_rfl) rfl
  · intro xs w hw hp K hK
    simp only [putAll]
    go_simp
    exact hK _ (Grow.refl _)
  -- operation 11
  apply lex_eq [(9, true), (10, true)] [(13, 0), (14, 1), (15, 2), (16, 3), (17, 4), (18, 5), (19, 6), (20, 7), (21, 8), (22, 9), (23, 10)] (by kernel_rfl) (by kernel_rfl) rfl
  · intro xs w hw hp K hK
    simp only [holdsL, List.nil_append, List.cons_append, List.getD_cons_succ, List.getD_cons_zero, if_true, and_true] at hp
    simp only [putAll]
    go_simp
    exact hK _ (Grow.refl _)
  -- operation 12
  apply lex_eq [(8, true), (11, true)] [(13, 0), (14, 1), (15, 2), (16, 3), (17, 4), (18, 5), (19, 6), (20, 7), (21, 8), (22, 9), (23, 10), (24, 11)] (by kernel_rfl) (by kernel_rfl) rfl
  · intro xs w hw hp K hK
    simp only [holdsL, List.nil_append, List.cons_append, List.getD_cons_succ, List.getD_cons_zero, if_true, and_true] at hp
    simp only [putAll]
    go_simp
    exact hK _ (Grow.refl _)
  intro xs w hw hp
  simp only [holdsL, List.nil_append, List.cons_append, List.getD_cons_succ, List.getD_cons_zero, if_true, and_true] at hp
  simp only [putAll, hp, List.drop_succ_cons, List.drop_zero]
  have hcw := Hcells.out w hw
  have hfw : w.frozen? ⟨g, ((x - 1) / 4).toNat, none⟩ = false := (hw.frozen (p := ⟨g, ((x - 1) / 4).toNat, none⟩) (lt_of_block HC1.out)).trans hfree
  go_wp2
  go_end0
  have e1 : (3 : Int) * 2 ^ (2 * ((x - 1) % 4)).toNat % 256 = ((3 * 2 ^ (2 * ((x - 1) % 4)).toNat % 256 : Nat) : Int) := by push_cast; rfl
  have e2 : (s : Int) * 2 ^ (2 * ((x - 1) % 4)).toNat % 256 = ((s * 2 ^ (2 * ((x - 1) % 4)).toNat % 256 : Nat) : Int) := by push_cast; rfl
  have e3 : l[((x - 1) / 4).toNat] = l.getD ((x - 1) / 4).toNat 0 := by simp [hq1]
  rw [e1, e2, e3, Hpb.out]
  refine ⟨rfl, brow_set hgb (w := w) ?_ HC2.out HC3.out HC4.out _ hq1 _, ?_⟩
  · rw [Grow.undrew hw |>.block g (lt_of_block HC1.out)]; exact HC1.out
  · exact ((Below.mono (Grow.undrew hw) (by have := lt_of_block HC1.out; omega)).setCell hgb _)

end Go.Proofs.Ytklpbhajmnogeaa
