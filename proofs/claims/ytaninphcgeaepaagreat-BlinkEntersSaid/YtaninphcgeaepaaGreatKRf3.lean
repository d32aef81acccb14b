import Derived.Test.YtaninphcgeaepaaGreatKRf2
import Derived.Test.YtaninphcgeaepaaGreatKLexm
import Derived.Test.YtaninphcgeaepaaGreatKNd5
import Derived.Test.YtaninphcgeaepaaGreatKRs1
namespace Go.Proofs.YtaninphcgeaepaaGreat
open Go.RowKit
attribute [local go_sem] givesF_none givesF_some evalF_tmp evalF_const evalF_global evalF_func lookL isB_bool isB_undef givesUpon_value givesUpon_skip givesUpon_enter
attribute [local simp] neq_least
attribute [local go_sem] guard_entry
theorem rtext_any (s : List UInt8) (w_ : World) (hl : s.length ≤ 1000000) :
  Calls Tryz.prog 92 #[.string (str s)] w_ fun x w' => x = .returned (.string (str (txt s))) ∧ Below w_.heap.size w_ w' := by
 have hn := fun (u : World) (v : Value) (h : IntsS u v [(s.length : Int)]) => rnum_any [(s.length : Int)] v u h.weak (by simp; omega) (by simp)
 have he : txt s = sevs [(s.length : Int)] ++ s := by simp [txt, sevs]
 have hlt : ¬ 9223372036854775807 < (sevs [(s.length : Int)]).length + s.length := by
  have := sevs_length [(s.length : Int)]
  simp only [List.length_cons, List.length_nil] at this
  omega
 have HE := keep he
 have HN := keep hn
 clear he hn
 go_enter Tryz.func92, Tryz.ntmps92
 go_wp2_with fail
 refine (HN.out _ _ (one_ints _ _)).mono ?_
 rintro x w1 ⟨rfl, hb1⟩
 go_wp2_with fail
 go_ret
 rw [HE.out, str_app]
 exact ⟨rfl, Grow.trans ((Grow.refl _).alloc _) hb1⟩
theorem two_ints (w : World) (m n : Int) : IntsS (w.alloc (.cells #[.int .i64 m, .int .i64 n] 3)) (.slice (some ⟨w.heap.size, 0, none⟩) 2 2) [m, n] :=
 RowS.blk (Blk.new w 3 [.int .i64 m, .int .i64 n]) 2 2 _ 0 (by intro j hj; rw [Nat.zero_add]; rfl)
set_option maxRecDepth 100000 in
set_option maxHeartbeats 1000000 in
theorem rraw_any (e : En) (w_ : World) (he : enFine e) : Calls Tryz.prog 67 #[enV e] w_ fun x w' => x = .returned (.string (str (enBytes e []))) ∧ Below w_.heap.size w_ w' := by
 obtain ⟨k, p, s⟩ := e
 obtain ⟨h24, ⟨hp0, hp1⟩, hs0, hs1⟩ := he
 dsimp only at h24 hp0 hp1 hs0 hs1
 obtain ⟨w0, hw0⟩ : ∃ w0, w0 = w_.alloc (.cells #[.string (str k), .int .i64 p, .int .i64 s] 41) := ⟨_, rfl⟩
 have hg0 : Grow w_ w0 := by subst hw0; exact (Grow.refl w_).alloc _
 have hB0 : Blk w0 w_.heap.size 41 [.string (str k), .int .i64 p, .int .i64 s] := by subst hw0; exact Blk.new w_ _ [_, _, _]
 have hd : str (txt k) ++ str (sevs [p, s]) = str (enBytes (k, p, s) []) := by simp [str_app, enBytes, sevs]
 have hb : ∀ n ∈ [p, s], 0 ≤ n ∧ n ≤ 9223372036854775807 := by simp; omega
 have H24 := keep h24
 have HD := keep hd
 have HB := keep hb
 have HT := keep (fun (u : World) => rtext_any k u (by omega))
 have HE := keep (fun (u : World) (hu : Grow w0.drew u) => enres (hB0.fits (Grow.undrew hu)))
 clear hd hb h24 hp0 hp1 hs0 hs1 hB0
 unfold enV
 go_enter Tryz.func67, Tryz.ntmps67
 go_upto_region 1 with fail
 rw [← hw0]
 clear hw0
 refine wp_region_grow_named (by kernel_rfl) 10 (by kernel_rfl) [(3, 0), (4, 1), (5, 2), (6, 3), (7, 4), (8, 5), (9, 6), (10, 7), (11, 8), (12, 9)] (by kernel_rfl) [(0, true), (1, true), (2, true), (3, true), (4, true), (5, true), (6, true), (7, true), (8, true), (9, true)] (by kernel_rfl) rfl rfl ?_
 intro a0 ha0
 have hsz : a0.tmps.size = 13 := (size_at ha0).trans rfl
 have s1 := slot_at ha0 1 rfl
 have HA0 := keep ha0
 clear ha0
 apply lq hsz [] [(5, 2), (6, 3), (7, 4), (8, 5), (9, 6), (10, 7), (11, 8), (12, 9)] none (by kernel_rfl) rfl
 ·intro xs w hw hp K hK
  go_simp
  exact hK _ (Grow.refl _)
 apply lq hsz [(0, true)] [(3, 0), (6, 3), (7, 4), (8, 5), (9, 6), (10, 7), (11, 8), (12, 9)] none (by kernel_rfl) rfl
 ·intro xs w hw hp K hK
  simp only [holdsL, List.nil_append, List.getD_cons_zero, if_true, and_true] at hp
  obtain ⟨c0, c1, c2, _⟩ := HE.out w hw
  go_simp
  exact hK _ (Grow.refl _)
 apply lq hsz [(1, true)] [(3, 0), (4, 1), (6, 3), (7, 4), (8, 5), (9, 6), (10, 7)] none (by kernel_rfl) rfl
 ·intro xs w hw hp K hK
  simp only [holdsL, List.nil_append, List.cons_append, List.getD_cons_succ, List.getD_cons_zero, if_true, and_true] at hp
  go_simp
  exact (HT.out w).mono fun e w' h => ⟨_, h.1, hK _ h.2⟩
 apply lq hsz [] [(3, 0), (4, 1), (5, 2), (8, 5), (9, 6), (10, 7), (11, 8), (12, 9)] none (by kernel_rfl) rfl
 ·intro xs w hw hp K hK
  go_simp
  exact hK _ (Grow.refl _)
 apply lq hsz [(3, true)] [(3, 0), (4, 1), (5, 2), (6, 3), (8, 5), (9, 6), (11, 8), (12, 9)] none (by kernel_rfl) rfl
 ·intro xs w hw hp K hK
  simp only [holdsL, List.nil_append, List.cons_append, List.getD_cons_succ, List.getD_cons_zero, if_true, and_true] at hp
  obtain ⟨c0, c1, c2, _⟩ := HE.out w hw
  go_simp
  exact hK _ (Grow.refl _)
 apply lq hsz [] [(3, 0), (4, 1), (5, 2), (6, 3), (7, 4), (10, 7), (11, 8), (12, 9)] none (by kernel_rfl) rfl
 ·intro xs w hw hp K hK
  go_simp
  exact hK _ (Grow.refl _)
 apply lq hsz [(5, true)] [(3, 0), (4, 1), (5, 2), (6, 3), (7, 4), (8, 5), (11, 8), (12, 9)] none (by kernel_rfl) rfl
 ·intro xs w hw hp K hK
  simp only [holdsL, List.nil_append, List.cons_append, List.getD_cons_succ, List.getD_cons_zero, if_true, and_true] at hp
  obtain ⟨c0, c1, c2, _⟩ := HE.out w hw
  go_simp
  exact hK _ (Grow.refl _)
 refine lexf_says hsz (fun v u => Row u 3 v 2 (iCells [p, s])) (fun _ _ _ g h => h.fits g) [(4, true), (6, true)] [(3, 0), (4, 1), (5, 2), (6, 3), (7, 4), (8, 5), (9, 6), (12, 9)] none (by kernel_rfl) (by kernel_rfl) (by kernel_rfl) (by kernel_rfl) rfl ?_ ?_
 ·intro xs w hw hp K hK
  simp only [holdsL, List.nil_append, List.cons_append, List.getD_cons_succ, List.getD_cons_zero, if_true, and_true] at hp
  go_simp
  exact hK _ _ (two_ints w p s).weak ((Grow.refl _).alloc _)
 apply lq hsz [(7, true)] [(3, 0), (4, 1), (5, 2), (6, 3), (7, 4), (8, 5), (9, 6), (10, 7)] none (by kernel_rfl) rfl
 ·intro xs w hw hp K hK
  simp only [holdsL, List.nil_append, List.cons_append, List.getD_cons_succ, List.getD_cons_zero, if_true, and_true] at hp
  go_simp
  exact (rnum_any [p, s] (xs 7) w hp HB.out (by simp)).mono fun e w' h => ⟨_, h.1, hK _ h.2⟩
 apply lq hsz [(2, true), (8, true)] [(3, 0), (4, 1), (5, 2), (6, 3), (7, 4), (8, 5), (9, 6), (10, 7), (11, 8)] none (by kernel_rfl) rfl
 ·intro xs w hw hp K hK
  simp only [holdsL, List.nil_append, List.cons_append, List.getD_cons_succ, List.getD_cons_zero, if_true, and_true] at hp
  have hlt : ¬ 9223372036854775807 < (txt k).length + (sevs [p, s]).length := by
   have h1 := sevs_length [p, s]
   have h2 := sev_length k.length
   have h3 := H24.out
   simp only [List.length_cons, List.length_nil, txt, List.length_append] at *
   omega
  go_simp
  exact hK _ (Grow.refl _)
 intro xs w hw hp
 have ha0 := HA0.out
 clear HA0 hsz s1
 simp only [holdsL, List.nil_append, List.cons_append, List.getD_cons_succ, List.getD_cons_zero, if_true, and_true] at hp
 have h9 := hp.2.2.2.2.2.2.2.2.2
 clear hp
 subst ha0
 simp only [putAll, h9]
 have hG := Grow.trans hg0 hw.undrew
 clear hw h9
 go_wp2_with fail
 go_ret
 rw [HD.out]
 exact ⟨rfl, hG⟩
set_option maxHeartbeats 1000000 in
theorem rencode_any (e : En) (w_ : World) : Calls Tryz.prog 45 #[enV e] w_ fun x w' => x = .returned (.tuple #[.string (str (encN e).1), .int .i64 (encN e).2]) ∧ Below w_.heap.size w_ w' := by
 have hi := fun u => rentry_any e u
 have hb := fun u (h : enOk e = true) => rraw_any e u (enOk_fine h)
 have hd : encN e = if enOk e then (enBytes e [], 0) else ([], 140) := rfl
 obtain ⟨k, p, s⟩ := e
 obtain ⟨w0, hw0⟩ : ∃ w0, w0 = w_.alloc (.cells #[.string (str k), .int .i64 p, .int .i64 s] 41) := ⟨_, rfl⟩
 have hg0 : Grow w_ w0 := by subst hw0; exact (Grow.refl w_).alloc _
 have hB0 : Blk w0 w_.heap.size 41 [.string (str k), .int .i64 p, .int .i64 s] := by subst hw0; exact Blk.new w_ _ [_, _, _]
 obtain ⟨c0, c1, c2, _⟩ := enres hB0
 generalize enBytes (k, p, s) [] = B at *
 generalize enOk (k, p, s) = A at *
 have HI := keep hi
 have HBy := keep hb
 have HD := keep hd
 clear hi hb hd
 unfold enV at *
 go_enter Tryz.func45, Tryz.ntmps45
 go_upto_region 1 with fail
 rw [← hw0]
 clear hw0
 go_wp2_with fail
 refine (HI.out w0).mono ?_
 rintro x w1 ⟨rfl, hb1⟩
 have hg1 := Grow.trans hg0 hb1
 have hB1 := hB0.fits hb1
 clear c0 c1 c2
 obtain ⟨c0, c1, c2, _⟩ := enres hB1
 cases A with
 | false =>
  go_wp2_with fail
  go_ret2
  rw [HD.out]
  exact ⟨rfl, hg1⟩
 | true =>
  go_wp2_with fail
  refine (HBy.out w1 trivial).mono ?_
  rintro x w2 ⟨rfl, hb2⟩
  go_wp2_with fail
  go_ret2
  rw [HD.out]
  exact ⟨rfl, Grow.trans hg1 hb2⟩
theorem least_fine : enFine leastE := by unfold enFine leastE; decide
theorem sep_fine {e : En} (h : isL e = true ∨ enOk e = true) : enFine e := by
 rcases h with h | h
 ·have : e = leastE := of_decide_eq_true h
  subst this
  exact least_fine
 ·exact enOk_fine h
end Go.Proofs.YtaninphcgeaepaaGreat
