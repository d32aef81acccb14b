/- clog.made. -/
import Derived.Test.YtklpbhajmnogeaaClog5
namespace Go.Proofs.Ytklpbhajmnogeaa
open Go.RowKit
attribute [local go_sem] gives givesUpon_value givesUpon_skip givesUpon_enter

/-- A page's value, and that its items lie in the world, in new memory. -/
def PgNew (w w' : World) (p : Pg) (v : Value) : Prop := ∃ iv, v = pgV p iv ∧ Items w' iv p.items ∧ Below w.heap.size w w'

theorem pgset {w : World} {b t : Nat} {a0 a1 a2 a3 a4 a5 : Value} (h : Blk w b t [a0, a1, a2, a3, a4, a5]) (v0 v1 v2 v3 v4 v5 : Value) :
    Blk ((((((w.setCell ⟨b, 0, none⟩ v0).setCell ⟨b, 1, none⟩ v1).setCell ⟨b, 2, none⟩ v2).setCell ⟨b, 3, none⟩ v3).setCell ⟨b, 4, none⟩ v4).setCell ⟨b, 5, none⟩ v5) b t [v0, v1, v2, v3, v4, v5] :=
  (((((h.set 0 v0).set 1 v1).set 2 v2).set 3 v3).set 4 v4).set 5 v5
theorem pgbut (w : World) (b : Nat) (v0 v1 v2 v3 v4 v5 : Value) :
    But b w ((((((w.setCell ⟨b, 0, none⟩ v0).setCell ⟨b, 1, none⟩ v1).setCell ⟨b, 2, none⟩ v2).setCell ⟨b, 3, none⟩ v3).setCell ⟨b, 4, none⟩ v4).setCell ⟨b, 5, none⟩ v5) :=
  ((((((But.refl b w).setCell 0 v0).setCell 1 v1).setCell 2 v2).setCell 3 v3).setCell 4 v4).setCell 5 v5
theorem items_but {w w' : World} {b : Nat} {iv : Value} {l : List (List UInt8)} {t : Nat} {cs : List Value} (h : ItemsS w iv l) (k : But b w w') (hb : Blk w b t cs) (ht : t ≠ 9) : ItemsS w' iv l :=
  RowS.but h k fun blk f e => by unfold Blk at hb; rw [hb] at e; simp at e; exact ht e.2.1

def madeP (n : Nat) (l : List UInt8) (lsn : Int) : Pg := { lsn := lsn, kind := 1, level := 0, right := 0, high := [], items := [sev n, l] }

set_option maxRecDepth 100000 in
set_option maxHeartbeats 1000000 in
theorem made_any (n : Nat) (v : Value) (l : List UInt8) (lsn : Int) (w_ : World) (hn : (n : Int) ≤ 9223372036854775807) (hcv : ∀ u, Grow w_ u → (convert 72 9 v).run Try.prog u = .ok (.string (str l)) u) :
    Calls Try.prog 23 #[.int .i64 n, v, .int .i64 lsn] w_ fun e w' => ∃ iv, e = .returned (pgV (madeP n l lsn) iv) ∧ ItemsS w' iv [sev n, l] ∧ Below w_.heap.size w_ w' := by
  have Hcv := keep hcv
  clear hcv
  go_enter Try.func23, Try.ntmps23
  go_wp2_with fail
  generalize hw0 : w_.alloc (.cells #[.int .i64 0, .int .i64 0, .int .i64 0, .int .i64 0, .string ⟨#[]⟩, .slice none 0 0] 30) = w0
  have hB0 : Blk w0 w_.heap.size 30 [.int .i64 0, .int .i64 0, .int .i64 0, .int .i64 0, .string ⟨#[]⟩, .slice none 0 0] := by subst hw0; exact Blk.new w_ _ _
  have hg0 : Grow w_ w0 := by subst hw0; exact (Grow.refl w_).alloc _
  have hlt0 := hB0.lt
  clear hw0
  refine (wrNew w0).mono ?_
  rintro e w1 ⟨rfl, hW1, hb1⟩
  go_wp2_with fail
  have hnm := wrNum_some w0.heap.size [] [(n : Int)] w1.heap.size 0 1 #[.int .i64 n] (0, 0) (w1.alloc (.cells #[.int .i64 n] 3)) (hW1.alloc _) (by show (w1.heap.push _)[_]? = _; simp)
    (by intro j hj; simp at hj; subst hj; rfl) (by intro j hj; simp at hj; subst hj; simp; omega) (by simp)
  refine hnm.mono ?_
  rintro e w3 ⟨rfl, hW3, hb3⟩
  clear hnm
  have hs1 := hb1.size
  have hB3 : Blk w3 w_.heap.size 30 [.int .i64 0, .int .i64 0, .int .i64 0, .int .i64 0, .string ⟨#[]⟩, .slice none 0 0] := ((hB0.fits hb1).alloc _).below hb3 hlt0
  have hg3 : Grow w_ w3 := Below.trans hg0 (((hb1.alloc hs1 _).trans hb3).mono hg0.size)
  have hsev : [] ++ sevs [(n : Int)] = sev n := by simp [sevs]
  rw [hsev] at hW3
  have hWu : ∀ u, Grow w3.drew u → Wr u w0.heap.size (sev n) := fun u hu => Wr.grow (w := w3.drew) hW3 hu
  have hCu : ∀ u, Grow w3.drew u → (convert 72 9 v).run Try.prog u = .ok (.string (str l)) u := fun u hu => Hcv.out u (Grow.trans hg3 hu.undrew)
  have HW := keep hWu
  have HC := keep hCu
  clear hWu hCu hsev hW1 hW3
  go_wp2_with fail
  refine wp_region_grow (by kernel_rfl) 6 (by kernel_rfl) [(13, 0), (14, 1), (15, 2), (16, 3), (17, 4), (18, 5)] (by kernel_rfl) [(0, true), (1, true), (2, true), (3, true), (4, true), (5, true)] (by kernel_rfl) rfl rfl ?_
  -- operation 0
  apply lex_eq [] [(14, 1), (15, 2), (16, 3), (17, 4), (18, 5)] (by kernel_rfl) (by kernel_rfl) rfl
  · intro xs w hw hp K hK
    simp only [putAll]
    go_simp
    exact hK _ (Grow.refl _)
  -- operation 1
  apply lex_eq [] [(13, 0), (16, 3), (17, 4), (18, 5), (19, 6)] (by kernel_rfl) (by kernel_rfl) rfl
  · intro xs w hw hp K hK
    simp only [putAll]
    go_simp
    exact hK _ (Grow.refl _)
  -- operation 2
  apply lex_eq [(1, true)] [(13, 0), (14, 1), (16, 3), (17, 4), (19, 6)] (by kernel_rfl) (by kernel_rfl) rfl
  · intro xs w hw hp K hK
    simp only [holdsL, List.nil_append, List.cons_append, List.getD_cons_succ, List.getD_cons_zero, if_true, and_true] at hp
    simp only [putAll]
    go_simp
    refine (wrBytes _ _ _ (HW.out w hw)).mono ?_; rintro e w' ⟨rfl, rfl⟩; exact ⟨_, rfl, hK _ (Grow.refl _)⟩
  -- operation 3
  apply lex_eq [] [(13, 0), (14, 1), (15, 2), (18, 5), (19, 6)] (by kernel_rfl) (by kernel_rfl) rfl
  · intro xs w hw hp K hK
    simp only [putAll]
    go_simp
    exact hK _ (Grow.refl _)
  -- operation 4
  apply lex_eq [(3, true)] [(13, 0), (14, 1), (15, 2), (16, 3), (19, 6)] (by kernel_rfl) (by kernel_rfl) rfl
  · intro xs w hw hp K hK
    simp only [holdsL, List.nil_append, List.cons_append, List.getD_cons_succ, List.getD_cons_zero, if_true, and_true] at hp
    simp only [putAll]
    have hcv := HC.out w hw
    go_simp
    exact hK _ (Grow.refl _)
  -- operation 5
  refine lex_says (fun v u => ∃ b, v = .slice (some ⟨b, 0, none⟩) 2 2 ∧ Blk u b 9 [.string (str (sev n)), .string (str l)] ∧ w3.heap.size ≤ b) (fun v u u' hg ⟨b, h1, h2, h3⟩ => ⟨b, h1, Blk.fits h2 hg, h3⟩) [(2, true), (4, true)] [(13, 0), (14, 1), (15, 2), (16, 3), (17, 4)] (by kernel_rfl) (by kernel_rfl) rfl ?_ ?_
  · intro xs w hw hp K hK
    simp only [holdsL, List.nil_append, List.cons_append, List.getD_cons_succ, List.getD_cons_zero, if_true, and_true] at hp
    simp only [putAll]
    go_simp
    exact hK _ _ ⟨_, rfl, Blk.new w _ [_, _], by simpa using hw.size⟩ ((Grow.refl w).alloc _)
  intro xs w hw hp
  simp only [holdsL, List.nil_append, List.cons_append, List.getD_cons_succ, List.getD_cons_zero, if_true, and_true] at hp
  simp only [putAll, hp, List.drop_succ_cons, List.drop_zero]
  obtain ⟨_, _, _, _, _, b, hp5, hBs, hbs⟩ := hp
  simp only [hp5]
  have hB4 := hB3.fits (Grow.undrew hw)
  have c0 := hB4.cell 0 (by simp)
  have c1 := hB4.cell 1 (by simp)
  have c2 := hB4.cell 2 (by simp)
  have c3 := hB4.cell 3 (by simp)
  have c4 := hB4.cell 4 (by simp)
  have c5 := hB4.cell 5 (by simp)
  have f0 := hB4.free 0
  have f1 := hB4.free 1
  have f2 := hB4.free 2
  have f3 := hB4.free 3
  have f4 := hB4.free 4
  have f5 := hB4.free 5
  have hset := pgset hB4 (.int .i64 lsn) (.int .i64 1) (.int .i64 0) (.int .i64 0) (.string ⟨#[]⟩) (.slice (some ⟨b, 0, none⟩) 2 2)
  have hbut := pgbut w w_.heap.size (.int .i64 lsn) (.int .i64 1) (.int .i64 0) (.int .i64 0) (.string ⟨#[]⟩) (.slice (some ⟨b, 0, none⟩) 2 2)
  have Hset := keep hset
  have Hbut := keep hbut
  have hi : ItemsS w (.slice (some ⟨b, 0, none⟩) 2 2) [sev n, l] := RowS.blk hBs 2 2 _ 0 (by intro j hj; simp [sCells])
  have Hi := keep hi
  clear hset hbut hi
  go_wp2
  refine bodyPost_ret (v := pgV (madeP n l lsn) (.slice (some ⟨b, 0, none⟩) 2 2)) ?_ rfl ⟨_, rfl, items_but Hi.out Hbut.out hB4 (by decide), ?_⟩
  · have r0 := Hset.out.cell 0 (by simp)
    have r1 := Hset.out.cell 1 (by simp)
    have r2 := Hset.out.cell 2 (by simp)
    have r3 := Hset.out.cell 3 (by simp)
    have r4 := Hset.out.cell 4 (by simp)
    have r5 := Hset.out.cell 5 (by simp)
    simp [results, Try.results23, go_sem, r0, r1, r2, r3, r4, r5, pgV, madeP]
    rfl
  · exact But.below (Grow.trans hg3 (Grow.undrew hw)) Hbut.out (Nat.le_refl _) (by have := (Grow.undrew hw).size; have := hg3.size; omega)

end Go.Proofs.Ytklpbhajmnogeaa
