
import Derived.Test.YtikmkimkhngihaaGreatKClog4
/- clog.put, made, Blank, Set. -/
namespace Go.Proofs.YtikmkimkhngihaaGreat
open Go.RowKit
attribute [local go_sem] gives givesUpon_value givesUpon_skip givesUpon_enter

theorem brow_set {w : World} {base g cap : Nat} {C : Array Value} {f : Nat × Nat} {l : List UInt8} (hgb : base ≤ g) (h3 : w.heap[g]? = some (.cells C 5 f)) (h4 : ∀ j, j < l.length → C[j]? = some (.int .u8 (l.getD j 0).toNat)) (h5 : l.length ≤ C.size)
    (h6 : C.size ≤ f.1 ∨ f = (0, 0)) (q : Nat) (hq : q < l.length) (c : UInt8) : BRow (w.setCell ⟨g, q, none⟩ (.int .u8 c.toNat)) base (.slice (some ⟨g, 0, none⟩) l.length cap) (l.set q c) := by
  refine ⟨g, cap, C.setIfInBounds q (.int .u8 c.toNat), f, by simp, hgb, ?_, ?_, by simpa using h5, by simpa using h6⟩
  · simp only [World.setCell, Array.getElem?_modify, if_true, h3]
    simp
  · intro j hj
    rw [List.length_set] at hj
    by_cases hjq : j = q
    · subst hjq
      rw [Array.getElem?_setIfInBounds_self_of_lt (by omega)]
      simp [hj]
    · rw [Array.getElem?_setIfInBounds_ne (fun e => hjq e.symm), h4 j hj]
      simp [List.getElem?_set_ne (fun e => hjq e.symm)]

set_option maxRecDepth 100000 in
set_option maxHeartbeats 1000000 in
theorem put_any (base : Nat) (v : Value) (l : List UInt8) (x : Int) (s : Nat) (w : World) (hb : BRow w base v l) (hx1 : 1 ≤ x) (hx2 : x ≤ 1024) (hq1 : ((x - 1) / 4).toNat < l.length) (hs : s < 256) (_hll : (l.length : Int) ≤ 9223372036854775807) :
    Calls Tryz.prog 41 #[v, .int .i64 x, .int .u8 s] w fun e w' => e = .returned (.tuple #[]) ∧ BRow w' base v (putS l x s) ∧ Below base w w' := by
  obtain ⟨g, cap, C, f, rfl, hgb, hC1, hC2, hC3, hC4⟩ := hb
  have hcell : w.cell? ⟨g, ((x - 1) / 4).toNat, none⟩ = some (.int .u8 (l.getD ((x - 1) / 4).toNat 0).toNat) := brow_cell hC1 hC2 _ hq1
  have hfree : w.frozen? ⟨g, ((x - 1) / 4).toNat, none⟩ = false := brow_free hC1 hC3 hC4 _ hq1
  have hpb := put_bits (l.getD ((x - 1) / 4).toNat 0).toNat s (2 * ((x - 1) % 4)).toNat (l.getD ((x - 1) / 4).toNat 0).toNat_lt hs
  have Hpb := keep hpb
  have hi0 : 0 ≤ (x - 1) / 4 := by omega
  have hi1 : (x - 1) / 4 < (l.length : Int) := by omega
  have hf0 : 0 ≤ 2 * ((x - 1) % 4) := by omega
  have hf1 : 2 * ((x - 1) % 4) ≤ 6 := by omega
  have HC1 := keep hC1
  have HC2 := keep hC2
  have HC3 := keep hC3
  have HC4 := keep hC4
  clear hC1 hC2 hC3 hC4 hpb
  go_enter Tryz.func41, Tryz.ntmps41
  go_wp2_with fail
  refine (place_any x _ hx1 hx2).mono ?_
  rintro e w1 ⟨rfl, rfl⟩
  go_wp2_with fail
  have hcells : ∀ u, Grow w.drew u → u.cell? ⟨g, ((x - 1) / 4).toNat, none⟩ = some (.int .u8 (l.getD ((x - 1) / 4).toNat 0).toNat) := fun u hu => (hu.cell (p := ⟨g, ((x - 1) / 4).toNat, none⟩) (lt_of_block HC1.out)).trans hcell
  have Hcells := keep hcells
  clear hcells
  refine wp_region_grow (by kernel_rfl) 13 (by kernel_rfl) [(13, 0), (14, 1), (15, 2), (16, 3), (17, 4), (18, 5), (19, 6), (20, 7), (21, 8), (22, 9), (23, 10), (24, 11), (25, 12)] (by kernel_rfl) [(0, true), (1, true), (2, true), (3, true), (4, true), (5, true), (6, true), (7, true), (8, true), (9, true), (10, true), (11, true), (12, true)] (by kernel_rfl) rfl rfl ?_
  -- operation 0
  apply lex_eq [] [(14, 1), (15, 2), (16, 3), (17, 4), (18, 5), (19, 6), (20, 7), (21, 8), (22, 9), (23, 10), (24, 11), (25, 12)] (by kernel_rfl) (by kernel_rfl) rfl
  · intro xs w hw hp K hK
    simp only [putAll]
    go_simp
    exact hK _ (Grow.refl _)
  -- operation 1
  apply lex_eq [] [(13, 0), (15, 2), (16, 3), (17, 4), (18, 5), (19, 6), (20, 7), (21, 8), (22, 9), (23, 10), (24, 11), (25, 12)] (by kernel_rfl) (by kernel_rfl) rfl
  · intro xs w hw hp K hK
    simp only [putAll]
    go_simp
    exact hK _ (Grow.refl _)
  -- operation 2
  apply lex_eq [] [(13, 0), (14, 1), (16, 3), (18, 5), (19, 6), (20, 7), (21, 8), (22, 9), (23, 10), (24, 11), (25, 12)] (by kernel_rfl) (by kernel_rfl) rfl
  · intro xs w hw hp K hK
    simp only [putAll]
    go_simp
    exact hK _ (Grow.refl _)
  -- operation 3
  apply lex_eq [] [(13, 0), (14, 1), (15, 2), (18, 5), (19, 6), (20, 7), (21, 8), (22, 9), (23, 10), (24, 11), (25, 12)] (by kernel_rfl) (by kernel_rfl) rfl
  · intro xs w hw hp K hK
    simp only [putAll]
    go_simp
    exact hK _ (Grow.refl _)
  -- operation 4
  apply lex_eq [(2, true), (3, true)] [(13, 0), (14, 1), (15, 2), (16, 3), (19, 6), (20, 7), (21, 8), (22, 9), (23, 10), (24, 11), (25, 12)] (by kernel_rfl) (by kernel_rfl) rfl
  · intro xs w hw hp K hK
    simp only [holdsL, List.nil_append, List.cons_append, List.getD_cons_succ, List.getD_cons_zero, if_true, and_true] at hp
    simp only [putAll]
    go_simp
    exact hK _ (Grow.refl _)
  -- operation 5
  apply lex_eq [(4, true)] [(13, 0), (14, 1), (15, 2), (16, 3), (17, 4), (19, 6), (20, 7), (22, 9), (23, 10), (24, 11), (25, 12)] (by kernel_rfl) (by kernel_rfl) rfl
  · intro xs w hw hp K hK
    simp only [holdsL, List.nil_append, List.cons_append, List.getD_cons_succ, List.getD_cons_zero, if_true, and_true] at hp
    simp only [putAll]
    have hc5 := Hcells.out w hw
    go_simp
    exact hK _ (Grow.refl _)
  -- operation 6
  apply lex_eq [] [(13, 0), (14, 1), (15, 2), (16, 3), (17, 4), (18, 5), (21, 8), (22, 9), (23, 10), (24, 11), (25, 12)] (by kernel_rfl) (by kernel_rfl) rfl
  · intro xs w hw hp K hK
    simp only [putAll]
    go_simp
    exact hK _ (Grow.refl _)
  -- operation 7
  apply lex_eq [(6, true)] [(13, 0), (14, 1), (15, 2), (16, 3), (17, 4), (18, 5), (19, 6), (22, 9), (23, 10), (24, 11), (25, 12)] (by kernel_rfl) (by kernel_rfl) rfl
  · intro xs w hw hp K hK
    simp only [holdsL, List.nil_append, List.cons_append, List.getD_cons_succ, List.getD_cons_zero, if_true, and_true] at hp
    simp only [putAll]
    go_simp
    exact hK _ (Grow.refl _)
  -- operation 8
  apply lex_eq [(5, true), (7, true)] [(13, 0), (14, 1), (15, 2), (16, 3), (17, 4), (18, 5), (19, 6), (20, 7), (22, 9), (23, 10), (24, 11)] (by kernel_rfl) (by kernel_rfl) rfl
  · intro xs w hw hp K hK
    simp only [holdsL, List.nil_append, List.cons_append, List.getD_cons_succ, List.getD_cons_zero, if_true, and_true] at hp
    simp only [putAll]
    go_simp
    exact hK _ (Grow.refl _)
  -- operation 9
  apply lex_eq [] [(13, 0), (14, 1), (15, 2), (16, 3), (17, 4), (18, 5), (19, 6), (20, 7), (21, 8), (23, 10), (25, 12)] (by kernel_rfl) (by kernel_rfl) rfl
  · intro xs w hw hp K hK
    simp only [putAll]
    go_simp
    exact hK _ (Grow.refl _)
  -- operation 10
  apply lex_eq [] [(13, 0), (14, 1), (15, 2), (16, 3), (17, 4), (18, 5), (19, 6), (20, 7), (21, 8), (22, 9), (25, 12)] (by kernel_rfl) (by kernel_rfl) rfl
  · intro xs w hw hp K hK
    simp only [putAll]
    go_simp
    exact hK _ (Grow.refl _)
  -- operation 11
  apply lex_eq [(9, true), (10, true)] [(13, 0), (14, 1), (15, 2), (16, 3), (17, 4), (18, 5), (19, 6), (20, 7), (21, 8), (22, 9), (23, 10)] (by kernel_rfl) (by kernel_rfl) rfl
  · intro xs w hw hp K hK
    simp only [holdsL, List.nil_append, List.cons_append, List.getD_cons_succ, List.getD_cons_zero, if_true, and_true] at hp
    simp only [putAll]
    go_simp
    exact hK _ (Grow.refl _)
  -- operation 12
  apply lex_eq [(8, true), (11, true)] [(13, 0), (14, 1), (15, 2), (16, 3), (17, 4), (18, 5), (19, 6), (20, 7), (21, 8), (22, 9), (23, 10), (24, 11)] (by kernel_rfl) (by kernel_rfl) rfl
  · intro xs w hw hp K hK
    simp only [holdsL, List.nil_append, List.cons_append, List.getD_cons_succ, List.getD_cons_zero, if_true, and_true] at hp
    simp only [putAll]
    go_simp
    exact hK _ (Grow.refl _)
  intro xs w hw hp
  simp only [holdsL, List.nil_append, List.cons_append, List.getD_cons_succ, List.getD_cons_zero, if_true, and_true] at hp
  simp only [putAll, hp, List.drop_succ_cons, List.drop_zero]
  have hcw := Hcells.out w hw
  have hfw : w.frozen? ⟨g, ((x - 1) / 4).toNat, none⟩ = false := (hw.frozen (p := ⟨g, ((x - 1) / 4).toNat, none⟩) (lt_of_block HC1.out)).trans hfree
  go_wp2
  go_end0
  have e1 : (3 : Int) * 2 ^ (2 * ((x - 1) % 4)).toNat % 256 = ((3 * 2 ^ (2 * ((x - 1) % 4)).toNat % 256 : Nat) : Int) := by push_cast; rfl
  have e2 : (s : Int) * 2 ^ (2 * ((x - 1) % 4)).toNat % 256 = ((s * 2 ^ (2 * ((x - 1) % 4)).toNat % 256 : Nat) : Int) := by push_cast; rfl
  have e3 : l[((x - 1) / 4).toNat] = l.getD ((x - 1) / 4).toNat 0 := by simp [hq1]
  rw [e1, e2, e3, Hpb.out]
  refine ⟨rfl, brow_set hgb (w := w) ?_ HC2.out HC3.out HC4.out _ hq1 _, ?_⟩
  · rw [Grow.undrew hw |>.block g (lt_of_block HC1.out)]; exact HC1.out
  · exact ((Below.mono (Grow.undrew hw) (by have := lt_of_block HC1.out; omega)).setCell hgb _)

end Go.Proofs.YtikmkimkhngihaaGreat

/- clog.made. -/
namespace Go.Proofs.YtikmkimkhngihaaGreat
open Go.RowKit
attribute [local go_sem] gives givesUpon_value givesUpon_skip givesUpon_enter

def madeP (n : Nat) (l : List UInt8) (lsn : Int) : Pg := { lsn := lsn, kind := 1, level := 0, right := 0, high := [], items := [sev n, l] }

set_option maxRecDepth 100000 in
set_option maxHeartbeats 1000000 in
theorem made_any (n : Nat) (v : Value) (l : List UInt8) (lsn : Int) (w_ : World) (hn : (n : Int) ≤ 9223372036854775807) (hcv : ∀ u, Grow w_ u → (convert 84 9 v).run Tryz.prog u = .ok (.string (str l)) u) :
    Calls Tryz.prog 38 #[.int .i64 n, v, .int .i64 lsn] w_ fun e w' => ∃ iv, e = .returned (pgV (madeP n l lsn) iv) ∧ ItemsS w' iv [sev n, l] ∧ Below w_.heap.size w_ w' := by
  have Hcv := keep hcv
  clear hcv
  go_enter Tryz.func38, Tryz.ntmps38
  go_wp2_with fail
  generalize hw0 : w_.alloc (.cells #[.int .i64 0, .int .i64 0, .int .i64 0, .int .i64 0, .string ⟨#[]⟩, .slice none 0 0] 30) = w0
  have hB0 : Blk w0 w_.heap.size 30 [.int .i64 0, .int .i64 0, .int .i64 0, .int .i64 0, .string ⟨#[]⟩, .slice none 0 0] := by subst hw0; exact Blk.new w_ _ _
  have hg0 : Grow w_ w0 := by subst hw0; exact (Grow.refl w_).alloc _
  have hlt0 := hB0.lt
  clear hw0
  refine (wrNew w0).mono ?_
  rintro e w1 ⟨rfl, hW1, hb1⟩
  go_wp2_with fail
  have hnm := wrNum_some w0.heap.size [] [(n : Int)] w1.heap.size 0 1 #[.int .i64 n] (0, 0) (w1.alloc (.cells #[.int .i64 n] 3)) (hW1.alloc _) (by show (w1.heap.push _)[_]? = _; simp)
    (by intro j hj; simp at hj; subst hj; rfl) (by intro j hj; simp at hj; subst hj; simp; omega) (by simp)
  refine hnm.mono ?_
  rintro e w3 ⟨rfl, hW3, hb3⟩
  clear hnm
  have hs1 := hb1.size
  have hB3 : Blk w3 w_.heap.size 30 [.int .i64 0, .int .i64 0, .int .i64 0, .int .i64 0, .string ⟨#[]⟩, .slice none 0 0] := ((hB0.fits hb1).alloc _).below hb3 hlt0
  have hg3 : Grow w_ w3 := Below.trans hg0 (((hb1.alloc hs1 _).trans hb3).mono hg0.size)
  have hsev : [] ++ sevs [(n : Int)] = sev n := by simp [sevs]
  rw [hsev] at hW3
  have hWu : ∀ u, Grow w3.drew u → Wr u w0.heap.size (sev n) := fun u hu => Wr.grow (w := w3.drew) hW3 hu
  have hCu : ∀ u, Grow w3.drew u → (convert 84 9 v).run Tryz.prog u = .ok (.string (str l)) u := fun u hu => Hcv.out u (Grow.trans hg3 hu.undrew)
  have HW := keep hWu
  have HC := keep hCu
  clear hWu hCu hsev hW1 hW3
  go_wp2_with fail
  refine wp_region_grow (by kernel_rfl) 6 (by kernel_rfl) [(13, 0), (14, 1), (15, 2), (16, 3), (17, 4), (18, 5)] (by kernel_rfl) [(0, true), (1, true), (2, true), (3, true), (4, true), (5, true)] (by kernel_rfl) rfl rfl ?_
  -- operation 0
  apply lex_eq [] [(14, 1), (15, 2), (16, 3), (17, 4), (18, 5)] (by kernel_rfl) (by kernel_rfl) rfl
  · intro xs w hw hp K hK
    simp only [putAll]
    go_simp
    exact hK _ (Grow.refl _)
  -- operation 1
  apply lex_eq [] [(13, 0), (16, 3), (17, 4), (18, 5), (19, 6)] (by kernel_rfl) (by kernel_rfl) rfl
  · intro xs w hw hp K hK
    simp only [putAll]
    go_simp
    exact hK _ (Grow.refl _)
  -- operation 2
  apply lex_eq [(1, true)] [(13, 0), (14, 1), (16, 3), (17, 4), (19, 6)] (by kernel_rfl) (by kernel_rfl) rfl
  · intro xs w hw hp K hK
    simp only [holdsL, List.nil_append, List.cons_append, List.getD_cons_succ, List.getD_cons_zero, if_true, and_true] at hp
    simp only [putAll]
    go_simp
    refine (wrBytes _ _ _ (HW.out w hw)).mono ?_; rintro e w' ⟨rfl, rfl⟩; exact ⟨_, rfl, hK _ (Grow.refl _)⟩
  -- operation 3
  apply lex_eq [] [(13, 0), (14, 1), (15, 2), (18, 5), (19, 6)] (by kernel_rfl) (by kernel_rfl) rfl
  · intro xs w hw hp K hK
    simp only [putAll]
    go_simp
    exact hK _ (Grow.refl _)
  -- operation 4
  apply lex_eq [(3, true)] [(13, 0), (14, 1), (15, 2), (16, 3), (19, 6)] (by kernel_rfl) (by kernel_rfl) rfl
  · intro xs w hw hp K hK
    simp only [holdsL, List.nil_append, List.cons_append, List.getD_cons_succ, List.getD_cons_zero, if_true, and_true] at hp
    simp only [putAll]
    have hcv := HC.out w hw
    go_simp
    exact hK _ (Grow.refl _)
  -- operation 5
  refine lex_says (fun v u => ∃ b, v = .slice (some ⟨b, 0, none⟩) 2 2 ∧ Blk u b 9 [.string (str (sev n)), .string (str l)] ∧ w3.heap.size ≤ b) (fun v u u' hg ⟨b, h1, h2, h3⟩ => ⟨b, h1, Blk.fits h2 hg, h3⟩) [(2, true), (4, true)] [(13, 0), (14, 1), (15, 2), (16, 3), (17, 4)] (by kernel_rfl) (by kernel_rfl) rfl ?_ ?_
  · intro xs w hw hp K hK
    simp only [holdsL, List.nil_append, List.cons_append, List.getD_cons_succ, List.getD_cons_zero, if_true, and_true] at hp
    simp only [putAll]
    go_simp
    exact hK _ _ ⟨_, rfl, Blk.new w _ [_, _], by simpa using hw.size⟩ ((Grow.refl w).alloc _)
  intro xs w hw hp
  simp only [holdsL, List.nil_append, List.cons_append, List.getD_cons_succ, List.getD_cons_zero, if_true, and_true] at hp
  simp only [putAll, hp, List.drop_succ_cons, List.drop_zero]
  obtain ⟨_, _, _, _, _, b, hp5, hBs, hbs⟩ := hp
  simp only [hp5]
  have hB4 := hB3.fits (Grow.undrew hw)
  have c0 := hB4.cell 0 (by simp)
  have c1 := hB4.cell 1 (by simp)
  have c2 := hB4.cell 2 (by simp)
  have c3 := hB4.cell 3 (by simp)
  have c4 := hB4.cell 4 (by simp)
  have c5 := hB4.cell 5 (by simp)
  have f0 := hB4.free 0
  have f1 := hB4.free 1
  have f2 := hB4.free 2
  have f3 := hB4.free 3
  have f4 := hB4.free 4
  have f5 := hB4.free 5
  have hset := pgset hB4 (.int .i64 lsn) (.int .i64 1) (.int .i64 0) (.int .i64 0) (.string ⟨#[]⟩) (.slice (some ⟨b, 0, none⟩) 2 2)
  have hbut := pgbut w w_.heap.size (.int .i64 lsn) (.int .i64 1) (.int .i64 0) (.int .i64 0) (.string ⟨#[]⟩) (.slice (some ⟨b, 0, none⟩) 2 2)
  have Hset := keep hset
  have Hbut := keep hbut
  have hi : ItemsS w (.slice (some ⟨b, 0, none⟩) 2 2) [sev n, l] := RowS.blk hBs 2 2 _ 0 (by intro j hj; simp [sCells])
  have Hi := keep hi
  clear hset hbut hi
  go_wp2
  refine bodyPost_ret (v := pgV (madeP n l lsn) (.slice (some ⟨b, 0, none⟩) 2 2)) ?_ rfl ⟨_, rfl, items_but Hi.out Hbut.out hB4 (by decide), ?_⟩
  · have r0 := Hset.out.cell 0 (by simp)
    have r1 := Hset.out.cell 1 (by simp)
    have r2 := Hset.out.cell 2 (by simp)
    have r3 := Hset.out.cell 3 (by simp)
    have r4 := Hset.out.cell 4 (by simp)
    have r5 := Hset.out.cell 5 (by simp)
    simp [results, Tryz.results38, go_sem, r0, r1, r2, r3, r4, r5, pgV, madeP]
    rfl
  · exact But.below (Grow.trans hg3 (Grow.undrew hw)) Hbut.out (Nat.le_refl _) (by have := (Grow.undrew hw).size; have := hg3.size; omega)

end Go.Proofs.YtikmkimkhngihaaGreat
