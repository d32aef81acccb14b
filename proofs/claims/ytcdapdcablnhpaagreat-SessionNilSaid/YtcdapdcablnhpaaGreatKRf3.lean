import Derived.Test.YtcdapdcablnhpaaGreatKRf2
import Derived.Test.YtcdapdcablnhpaaGreatKLexn
import Derived.Test.YtcdapdcablnhpaaGreatKNd5
import Derived.Test.YtcdapdcablnhpaaGreatKRs1
namespace Go.Proofs.YtcdapdcablnhpaaGreat
open Go.RowKit
attribute [local go_sem] givesF_none givesF_some evalF_tmp evalF_const evalF_global evalF_func lookL isB_bool isB_undef givesUpon_value givesUpon_skip givesUpon_enter
attribute [local simp] neq_least
attribute [local go_sem] guard_entry
theorem least_fine : enFine leastE := by unfold enFine leastE; decide
theorem sep_fine {e : En} (h : isL e = true ∨ enOk e = true) : enFine e := by
 rcases h with h | h
 ·have : e = leastE := of_decide_eq_true h
  subst this
  exact least_fine
 ·exact enOk_fine h
set_option maxRecDepth 100000 in
set_option maxHeartbeats 1000000 in
theorem sep_any (e : En) (c : Int) (w_ : World) : Calls Tryz.prog 152 #[enV e, .int .i64 c] w_ fun x w' => x = .returned (.tuple #[.string (str (sepN e c).1), .int .i64 (sepN e c).2]) ∧ Below w_.heap.size w_ w' := by
 have hi := fun u => isEntry_any e u
 have hc := fun u => isChild_any c u
 have hb := fun (u : World) (v : Value) (h1 : inB c 1 65535 = true) (h : isL e = true ∨ enOk e = true) (hv : IntsS u v [c]) => bytes_any e v [c] u (sep_fine h) hv (by simp [inB] at h1 ⊢; omega) (by simp)
 have hd : sepN e c = if inB c 1 65535 && (isL e || enOk e) then (enBytes e [c], 0) else ([], 140) := rfl
 have hle := least_any
 obtain ⟨k, p, s⟩ := e
 obtain ⟨w0, hw0⟩ : ∃ w0, w0 = w_.alloc (.cells #[.string (str k), .int .i64 p, .int .i64 s] 103) := ⟨_, rfl⟩
 have hg0 : Grow w_ w0 := by subst hw0; exact (Grow.refl w_).alloc _
 have hB0 : Blk w0 w_.heap.size 103 [.string (str k), .int .i64 p, .int .i64 s] := by subst hw0; exact Blk.new w_ _ [_, _, _]
 generalize enBytes (k, p, s) [c] = B at *
 generalize enOk (k, p, s) = A at *
 generalize inB c 1 65535 = C at *
 generalize hLe : isL (k, p, s) = L at *
 unfold enV at *
 dsimp only at *
 have HI := keep hi
 have HC := keep hc
 have HL := keep hle
 have HBy := keep hb
 have HD := keep hd
 have HE := keep (fun (u : World) (hu : Grow w0.drew u) => enres (hB0.fits (Grow.undrew hu)))
 clear hi hb hd hc hle
 go_enter Tryz.func152, Tryz.ntmps152
 go_upto_region 1 with fail
 rw [← hw0]
 clear hw0
 cases C with
 | false =>
  refine wp_region_grow_named (by kernel_rfl) 12 (by kernel_rfl) [(6, 0), (7, 1), (8, 2), (9, 3), (10, 4), (11, 5), (12, 6), (13, 7), (14, 8), (15, 9), (16, 10), (17, 11)] (by kernel_rfl) [(0, true), (1, true), (2, true), (3, true), (4, true), (5, true), (6, true), (7, true), (8, true), (9, true), (10, true), (11, true)] (by kernel_rfl) rfl rfl ?_
  intro a0 ha0
  have hsz : a0.tmps.size = 23 := (size_at ha0).trans rfl
  have s1 := slot_at ha0 1 rfl
  have s2 := slot_at ha0 2 rfl
  have HA0 := keep ha0
  clear ha0
  apply lq hsz [] [(8, 2), (9, 3), (10, 4), (11, 5), (12, 6), (13, 7), (14, 8), (15, 9), (16, 10), (17, 11), (18, 12)] none (by kernel_rfl) rfl
  ·intro xs w hw hp K hK
   go_simp
   exact hK _ (Grow.refl _)
  apply lq hsz [(0, true)] [(6, 0), (10, 4), (11, 5), (12, 6), (13, 7), (14, 8), (15, 9), (16, 10), (17, 11), (18, 12)] none (by kernel_rfl) rfl
  ·intro xs w hw hp K hK
   simp only [hz] at hp
   go_simp
   exact (HC.out w).mono fun e w' h => ⟨_, h.1, hK _ (by rw [← h.2]; exact Grow.refl _)⟩
  apply lq hsz [(1, true)] [(6, 0), (7, 1), (10, 4), (11, 5), (12, 6), (13, 7), (14, 8), (15, 9), (16, 10), (17, 11), (18, 12)] none (by kernel_rfl) rfl
  ·intro xs w hw hp K hK
   simp only [hz] at hp
   go_simp
   exact hK _ (Grow.refl _)
  apply lq hsz [(2, true)] [(6, 0), (7, 1), (8, 2), (14, 8), (15, 9), (16, 10)] none (by kernel_rfl) rfl
  ·intro xs w hw hp K hK
   simp only [hz] at hp
   go_simp
   exact hK _ (Grow.refl _)
  apply lq hsz [(3, true)] [(6, 0), (7, 1), (8, 2), (9, 3), (11, 5), (13, 7), (14, 8), (15, 9), (16, 10), (17, 11), (18, 12)] (some (9, false)) (by kernel_rfl) rfl
  ·intro xs w hw hp K hK
   simp only [hz] at hp
   obtain ⟨c0, c1, c2, _⟩ := HE.out w hw
   go_simp
   exact hK _ (Grow.refl _)
  apply lq hsz [(3, true)] [(6, 0), (7, 1), (8, 2), (9, 3), (10, 4), (14, 8), (15, 9), (16, 10), (17, 11), (18, 12)] (some (9, false)) (by kernel_rfl) rfl
  ·intro xs w hw hp K hK
   simp only [hz] at hp
   go_simp
   exact hK _ (Grow.refl _)
  apply lq hsz [(3, true), (4, true), (5, true)] [(6, 0), (7, 1), (8, 2), (9, 3), (10, 4), (11, 5), (14, 8), (15, 9), (16, 10), (17, 11), (18, 12)] (some (9, false)) (by kernel_rfl) rfl
  ·intro xs w hw hp K hK
   simp only [hz] at hp
   go_simp
   exact hK _ (Grow.refl _)
  apply lq hsz [(3, true), (6, true)] [(6, 0), (7, 1), (8, 2), (9, 3), (10, 4), (11, 5), (12, 6), (18, 12)] (some (9, false)) (by kernel_rfl) rfl
  ·intro xs w hw hp K hK
   simp only [hz] at hp
   go_simp
   exact hK _ (Grow.refl _)
  apply lq hsz [(7, true)] [(6, 0), (7, 1), (8, 2), (9, 3), (10, 4), (11, 5), (12, 6), (13, 7), (16, 10), (17, 11), (18, 12)] (some (13, true)) (by kernel_rfl) rfl
  ·intro xs w hw hp K hK
   simp only [hz] at hp
   obtain ⟨c0, c1, c2, _⟩ := HE.out w hw
   go_simp
   exact hK _ (Grow.refl _)
  apply lq hsz [(7, true), (8, true)] [(6, 0), (7, 1), (8, 2), (9, 3), (10, 4), (11, 5), (12, 6), (13, 7), (14, 8), (17, 11), (18, 12)] (some (13, true)) (by kernel_rfl) rfl
  ·intro xs w hw hp K hK
   simp only [hz] at hp
   go_simp
   exact hK _ (Grow.refl _)
  apply lq hsz [(7, true), (9, true)] [(6, 0), (7, 1), (8, 2), (9, 3), (10, 4), (11, 5), (12, 6), (13, 7), (14, 8), (15, 9), (18, 12)] (some (13, true)) (by kernel_rfl) rfl
  ·intro xs w hw hp K hK
   simp only [hz] at hp
   go_simp
   exact hK _ (Grow.refl _)
  apply lq hsz [(3, true), (7, true), (10, true)] [(6, 0), (7, 1), (8, 2), (9, 3), (10, 4), (11, 5), (12, 6), (13, 7), (14, 8), (15, 9), (16, 10)] (some (9, false)) (by kernel_rfl) rfl
  ·intro xs w hw hp K hK
   simp only [hz] at hp
   go_simp
   exact hK _ (Grow.refl _)
  intro xs w hw hp
  have ha0 := HA0.out
  clear HA0 hsz s1 s2
  simp only [hz] at hp
  have h3 := hp.2.2.2.1
  have h11 := hp.2.2.2.2.2.2.2.2.2.2.2
  clear hp
  subst ha0
  simp only [putAll, h3, h11]
  have hG := Grow.trans hg0 hw.undrew
  clear hw h3 h11
  go_wp2_with fail
  go_ret2
  rw [HD.out]
  exact ⟨rfl, hG⟩
 | true =>
  cases L with
  | true =>
   refine wp_region_grow_named (by kernel_rfl) 12 (by kernel_rfl) [(6, 0), (7, 1), (8, 2), (9, 3), (10, 4), (11, 5), (12, 6), (13, 7), (14, 8), (15, 9), (16, 10), (17, 11)] (by kernel_rfl) [(0, true), (1, true), (2, true), (3, true), (4, true), (5, true), (6, true), (7, true), (8, true), (9, true), (10, true), (11, true)] (by kernel_rfl) rfl rfl ?_
   intro a0 ha0
   have hsz : a0.tmps.size = 23 := (size_at ha0).trans rfl
   have s1 := slot_at ha0 1 rfl
   have s2 := slot_at ha0 2 rfl
   have HA0 := keep ha0
   clear ha0
   apply lq hsz [] [(8, 2), (9, 3), (10, 4), (11, 5), (12, 6), (13, 7), (14, 8), (15, 9), (16, 10), (17, 11), (18, 12)] none (by kernel_rfl) rfl
   ·intro xs w hw hp K hK
    go_simp
    exact hK _ (Grow.refl _)
   apply lq hsz [(0, true)] [(6, 0), (10, 4), (11, 5), (12, 6), (13, 7), (14, 8), (15, 9), (16, 10), (17, 11), (18, 12)] none (by kernel_rfl) rfl
   ·intro xs w hw hp K hK
    simp only [hz] at hp
    go_simp
    exact (HC.out w).mono fun e w' h => ⟨_, h.1, hK _ (by rw [← h.2]; exact Grow.refl _)⟩
   apply lq hsz [(1, true)] [(6, 0), (7, 1), (10, 4), (11, 5), (12, 6), (13, 7), (14, 8), (15, 9), (16, 10), (17, 11), (18, 12)] none (by kernel_rfl) rfl
   ·intro xs w hw hp K hK
    simp only [hz] at hp
    go_simp
    exact hK _ (Grow.refl _)
   apply lq hsz [(2, true)] [(6, 0), (7, 1), (8, 2), (14, 8), (15, 9), (16, 10)] none (by kernel_rfl) rfl
   ·intro xs w hw hp K hK
    simp only [hz] at hp
    go_simp
    exact hK _ (Grow.refl _)
   apply lq hsz [(3, true)] [(6, 0), (7, 1), (8, 2), (9, 3), (11, 5), (13, 7), (14, 8), (15, 9), (16, 10), (17, 11), (18, 12)] (some (9, false)) (by kernel_rfl) rfl
   ·intro xs w hw hp K hK
    simp only [hz] at hp
    obtain ⟨c0, c1, c2, _⟩ := HE.out w hw
    go_simp
    exact hK _ (Grow.refl _)
   apply lq hsz [(3, true)] [(6, 0), (7, 1), (8, 2), (9, 3), (10, 4), (14, 8), (15, 9), (16, 10), (17, 11), (18, 12)] (some (9, false)) (by kernel_rfl) rfl
   ·intro xs w hw hp K hK
    simp only [hz] at hp
    go_simp
    exact (HL.out w).mono fun e w' h => ⟨_, h.1, hK _ h.2⟩
   apply lq hsz [(3, true), (4, true), (5, true)] [(6, 0), (7, 1), (8, 2), (9, 3), (10, 4), (11, 5), (14, 8), (15, 9), (16, 10), (17, 11), (18, 12)] (some (9, false)) (by kernel_rfl) rfl
   ·intro xs w hw hp K hK
    simp only [hz] at hp
    go_simp
    exact hK _ (Grow.refl _)
   apply lq hsz [(3, true), (6, true)] [(6, 0), (7, 1), (8, 2), (9, 3), (10, 4), (11, 5), (12, 6), (18, 12)] (some (9, false)) (by kernel_rfl) rfl
   ·intro xs w hw hp K hK
    simp only [hz] at hp
    go_simp
    exact hK _ (Grow.refl _)
   apply lq hsz [(7, true)] [(6, 0), (7, 1), (8, 2), (9, 3), (10, 4), (11, 5), (12, 6), (13, 7), (16, 10), (17, 11), (18, 12)] (some (13, true)) (by kernel_rfl) rfl
   ·intro xs w hw hp K hK
    simp only [hz] at hp
    obtain ⟨c0, c1, c2, _⟩ := HE.out w hw
    go_simp
    exact hK _ (Grow.refl _)
   apply lq hsz [(7, true), (8, true)] [(6, 0), (7, 1), (8, 2), (9, 3), (10, 4), (11, 5), (12, 6), (13, 7), (14, 8), (17, 11), (18, 12)] (some (13, true)) (by kernel_rfl) rfl
   ·intro xs w hw hp K hK
    simp only [hz] at hp
    go_simp
    exact hK _ (Grow.refl _)
   apply lq hsz [(7, true), (9, true)] [(6, 0), (7, 1), (8, 2), (9, 3), (10, 4), (11, 5), (12, 6), (13, 7), (14, 8), (15, 9), (18, 12)] (some (13, true)) (by kernel_rfl) rfl
   ·intro xs w hw hp K hK
    simp only [hz] at hp
    go_simp
    exact hK _ (Grow.refl _)
   apply lq hsz [(3, true), (7, true), (10, true)] [(6, 0), (7, 1), (8, 2), (9, 3), (10, 4), (11, 5), (12, 6), (13, 7), (14, 8), (15, 9), (16, 10)] (some (9, false)) (by kernel_rfl) rfl
   ·intro xs w hw hp K hK
    simp only [hz] at hp
    go_simp
    exact hK _ (Grow.refl _)
   intro xs w hw hp
   have ha0 := HA0.out
   clear HA0 hsz s1 s2
   simp only [hz] at hp
   have h3 := hp.2.2.2.1
   have h11 := hp.2.2.2.2.2.2.2.2.2.2.2
   clear hp
   subst ha0
   simp only [putAll, h3, h11]
   have hG := Grow.trans hg0 hw.undrew
   obtain ⟨c0, c1, c2, _⟩ := enres (hB0.fits hw.undrew)
   clear hw h3 h11
   go_wp2_with fail
   refine (HBy.out _ _ trivial (.inl trivial) (one_ints _ _)).mono ?_
   rintro x w2 ⟨rfl, hb2⟩
   go_wp2_with fail
   go_ret2
   rw [HD.out]
   exact ⟨rfl, Grow.trans hG (Grow.trans ((Grow.refl _).alloc _) hb2)⟩
  | false =>
   refine wp_region_grow_named (by kernel_rfl) 12 (by kernel_rfl) [(6, 0), (7, 1), (8, 2), (9, 3), (10, 4), (11, 5), (12, 6), (13, 7), (14, 8), (15, 9), (16, 10), (17, 11)] (by kernel_rfl) [(0, true), (1, true), (2, true), (3, true), (4, true), (5, true), (6, true), (7, true), (8, true), (9, true), (10, true), (11, true)] (by kernel_rfl) rfl rfl ?_
   intro a0 ha0
   have hsz : a0.tmps.size = 23 := (size_at ha0).trans rfl
   have s1 := slot_at ha0 1 rfl
   have s2 := slot_at ha0 2 rfl
   have HA0 := keep ha0
   clear ha0
   apply lq hsz [] [(8, 2), (9, 3), (10, 4), (11, 5), (12, 6), (13, 7), (14, 8), (15, 9), (16, 10), (17, 11), (18, 12)] none (by kernel_rfl) rfl
   ·intro xs w hw hp K hK
    go_simp
    exact hK _ (Grow.refl _)
   apply lq hsz [(0, true)] [(6, 0), (10, 4), (11, 5), (12, 6), (13, 7), (14, 8), (15, 9), (16, 10), (17, 11), (18, 12)] none (by kernel_rfl) rfl
   ·intro xs w hw hp K hK
    simp only [hz] at hp
    go_simp
    exact (HC.out w).mono fun e w' h => ⟨_, h.1, hK _ (by rw [← h.2]; exact Grow.refl _)⟩
   apply lq hsz [(1, true)] [(6, 0), (7, 1), (10, 4), (11, 5), (12, 6), (13, 7), (14, 8), (15, 9), (16, 10), (17, 11), (18, 12)] none (by kernel_rfl) rfl
   ·intro xs w hw hp K hK
    simp only [hz] at hp
    go_simp
    exact hK _ (Grow.refl _)
   apply lq hsz [(2, true)] [(6, 0), (7, 1), (8, 2), (14, 8), (15, 9), (16, 10)] none (by kernel_rfl) rfl
   ·intro xs w hw hp K hK
    simp only [hz] at hp
    go_simp
    exact hK _ (Grow.refl _)
   apply lq hsz [(3, true)] [(6, 0), (7, 1), (8, 2), (9, 3), (11, 5), (13, 7), (14, 8), (15, 9), (16, 10), (17, 11), (18, 12)] (some (9, false)) (by kernel_rfl) rfl
   ·intro xs w hw hp K hK
    simp only [hz] at hp
    obtain ⟨c0, c1, c2, _⟩ := HE.out w hw
    go_simp
    exact hK _ (Grow.refl _)
   apply lq hsz [(3, true)] [(6, 0), (7, 1), (8, 2), (9, 3), (10, 4), (14, 8), (15, 9), (16, 10), (17, 11), (18, 12)] (some (9, false)) (by kernel_rfl) rfl
   ·intro xs w hw hp K hK
    simp only [hz] at hp
    go_simp
    exact (HL.out w).mono fun e w' h => ⟨_, h.1, hK _ h.2⟩
   apply lq hsz [(3, true), (4, true), (5, true)] [(6, 0), (7, 1), (8, 2), (9, 3), (10, 4), (11, 5), (14, 8), (15, 9), (16, 10), (17, 11), (18, 12)] (some (9, false)) (by kernel_rfl) rfl
   ·intro xs w hw hp K hK
    simp only [hz] at hp
    go_simp
    exact hK _ (Grow.refl _)
   apply lq hsz [(3, true), (6, true)] [(6, 0), (7, 1), (8, 2), (9, 3), (10, 4), (11, 5), (12, 6), (18, 12)] (some (9, false)) (by kernel_rfl) rfl
   ·intro xs w hw hp K hK
    simp only [hz] at hp
    go_simp
    exact hK _ (Grow.refl _)
   apply lq hsz [(7, true)] [(6, 0), (7, 1), (8, 2), (9, 3), (10, 4), (11, 5), (12, 6), (13, 7), (16, 10), (17, 11), (18, 12)] (some (13, true)) (by kernel_rfl) rfl
   ·intro xs w hw hp K hK
    simp only [hz] at hp
    obtain ⟨c0, c1, c2, _⟩ := HE.out w hw
    go_simp
    exact hK _ (Grow.refl _)
   apply lq hsz [(7, true), (8, true)] [(6, 0), (7, 1), (8, 2), (9, 3), (10, 4), (11, 5), (12, 6), (13, 7), (14, 8), (17, 11), (18, 12)] (some (13, true)) (by kernel_rfl) rfl
   ·intro xs w hw hp K hK
    simp only [hz] at hp
    go_simp
    exact (HI.out w).mono fun e w' h => ⟨_, h.1, hK _ h.2⟩
   apply lq hsz [(7, true), (9, true)] [(6, 0), (7, 1), (8, 2), (9, 3), (10, 4), (11, 5), (12, 6), (13, 7), (14, 8), (15, 9), (18, 12)] (some (13, true)) (by kernel_rfl) rfl
   ·intro xs w hw hp K hK
    simp only [hz] at hp
    go_simp
    exact hK _ (Grow.refl _)
   apply lq hsz [(3, true), (7, true), (10, true)] [(6, 0), (7, 1), (8, 2), (9, 3), (10, 4), (11, 5), (12, 6), (13, 7), (14, 8), (15, 9), (16, 10)] (some (9, false)) (by kernel_rfl) rfl
   ·intro xs w hw hp K hK
    simp only [hz] at hp
    go_simp
    exact hK _ (Grow.refl _)
   intro xs w hw hp
   have ha0 := HA0.out
   clear HA0 hsz s1 s2
   simp only [hz] at hp
   have h3 := hp.2.2.2.1
   have h11 := hp.2.2.2.2.2.2.2.2.2.2.2
   clear hp
   subst ha0
   simp only [putAll, h3, h11]
   have hG := Grow.trans hg0 hw.undrew
   obtain ⟨c0, c1, c2, _⟩ := enres (hB0.fits hw.undrew)
   clear hw h3 h11
   cases A with
   | false =>
    go_wp2_with fail
    go_ret2
    rw [HD.out]
    exact ⟨rfl, hG⟩
   | true =>
    go_wp2_with fail
    refine (HBy.out _ _ trivial (.inr trivial) (one_ints _ _)).mono ?_
    rintro x w2 ⟨rfl, hb2⟩
    go_wp2_with fail
    go_ret2
    rw [HD.out]
    exact ⟨rfl, Grow.trans hG (Grow.trans ((Grow.refl _).alloc _) hb2)⟩
end Go.Proofs.YtcdapdcablnhpaaGreat
