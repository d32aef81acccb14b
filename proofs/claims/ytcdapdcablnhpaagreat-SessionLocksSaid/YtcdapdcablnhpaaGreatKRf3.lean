import Derived.Test.YtcdapdcablnhpaaGreatKLexn
import Derived.Test.YtcdapdcablnhpaaGreatKRf2
import Derived.Test.YtcdapdcablnhpaaGreatKRd3
import Derived.Test.YtcdapdcablnhpaaGreatKRs1
namespace Go.Proofs.YtcdapdcablnhpaaGreat
open Go.RowKit
attribute [local go_sem] givesV lookV knAt hgs
attribute [local simp] neq_least
attribute [local go_sem] guard_entry
theorem least_fine : enFine leastE := by unfold enFine leastE; decide
theorem sep_fine {e : En} (h : isL e = true \/ enOk e = true) : enFine e := by
 rcases h with h | h
 ·have : e = leastE := of_decide_eq_true h;subst this;exact least_fine
 ·exact enOk_fine h
set_option maxRecDepth 100000 in
set_option maxHeartbeats 1000000 in
theorem sep_any (e : En) (c : Int) (w_ : World) : Calls Tryz.prog 152 #[enV e, .int .i64 c] w_ fun x w' => x = .returned (.tuple #[.string (str (sepN e c).1), .int .i64 (sepN e c).2]) /\ Below w_.heap.size w_ w' := by
 have hi := fun u => isEntry_any e u
 have hc := fun u => isChild_any c u
 have hb := fun (u : World) (v : Value) (h1 : inB c 1 65535 = true) (h : isL e = true \/ enOk e = true) (hv : IntsS u v [c]) => bytes_any e v [c] u (sep_fine h) hv (by simp [inB] at h1 ⊢; omega) (by simp)
 have hd : sepN e c = if inB c 1 65535 && (isL e || enOk e) then (enBytes e [c], 0) else ([], 140) := rfl
 have hle := least_any;obtain ⟨k, p, s⟩ := e;obtain ⟨w0, hw0⟩ : ∃ w0, w0 = w_.alloc (.cells #[.string (str k), .int .i64 p, .int .i64 s] 103) := ⟨_, rfl⟩;have hg0 : Grow w_ w0 := by subst hw0; exact (Grow.refl w_).alloc _
 have hB0 : Blk w0 w_.heap.size 103 [.string (str k), .int .i64 p, .int .i64 s] := by subst hw0; exact Blk.new w_ _ [_, _, _]
 generalize enBytes (k, p, s) [c] = B at *;generalize enOk (k, p, s) = A at *;generalize inB c 1 65535 = C at *;generalize hLe : isL (k, p, s) = L at *;unfold enV at *;dsimp only at *;have HI := keep hi;have HC := keep hc;have HL := keep hle;have HBy := keep hb;have HD := keep hd;have HE := keep (fun (u : World) (hu : Grow w0.drew u) => enres (hB0.fits (Grow.undrew hu)));clear hi hb hd hc hle;go_enter Tryz.func152, Tryz.ntmps152;go_upto_region 1 with fail;rw [<- hw0];clear hw0;cases C with
 | false =>
  refine rgv 12 (by kernel_rfl) (by kernel_rfl) rfl rfl ?_;intro a0 ha0;have hsz : a0.tmps.size = 23 := (size_at ha0).trans rfl;have s1 := slot_at ha0 1 rfl;have s2 := slot_at ha0 2 rfl;have HA0 := keep ha0;clear ha0;apply lxv hsz Grow.refl (by kernel_rfl) rfl
  ·intro xs w hw K hK;go_simp;exact hK
  apply lxe hsz [] (by kernel_rfl) rfl
  ·intro xs w hw hp K hK;go_simp;exact (HC.out w).mono fun e w' h => ⟨_, h.1, hK _ (by rw [<- h.2]; exact Grow.refl _)⟩
  iterate 2
   apply lxv hsz Grow.refl (by kernel_rfl) rfl
   ·intro xs w hw K hK;go_simp;exact hK
  apply lxv hsz Grow.refl (by kernel_rfl) rfl
  ·intro xs w hw K hK;obtain ⟨c0, c1, c2, _⟩ := HE.out w hw;go_simp;exact hK
  iterate 3
   apply lxv hsz Grow.refl (by kernel_rfl) rfl
   ·intro xs w hw K hK;go_simp;exact hK
  apply lxv hsz Grow.refl (by kernel_rfl) rfl
  ·intro xs w hw K hK;obtain ⟨c0, c1, c2, _⟩ := HE.out w hw;go_simp;exact hK
  iterate 3
   apply lxv hsz Grow.refl (by kernel_rfl) rfl
   ·intro xs w hw K hK;go_simp;exact hK
  refine rgd [] (by kernel_rfl) rfl ?_;intro xs w hw hp;have ha0 := HA0.out;clear HA0 hsz s1 s2;clear hp;subst ha0;simp only [putV];have hG := Grow.trans hg0 hw.undrew;clear hw;go_wp2_with fail;go_ret2;rw [HD.out];exact ⟨rfl, hG⟩
 | true =>
  cases L with
  | true =>
   refine rgv 12 (by kernel_rfl) (by kernel_rfl) rfl rfl ?_;intro a0 ha0;have hsz : a0.tmps.size = 23 := (size_at ha0).trans rfl;have s1 := slot_at ha0 1 rfl;have s2 := slot_at ha0 2 rfl;have HA0 := keep ha0;clear ha0;apply lxv hsz Grow.refl (by kernel_rfl) rfl
   ·intro xs w hw K hK;go_simp;exact hK
   apply lxe hsz [] (by kernel_rfl) rfl
   ·intro xs w hw hp K hK;go_simp;exact (HC.out w).mono fun e w' h => ⟨_, h.1, hK _ (by rw [<- h.2]; exact Grow.refl _)⟩
   iterate 2
    apply lxv hsz Grow.refl (by kernel_rfl) rfl
    ·intro xs w hw K hK;go_simp;exact hK
   apply lxv hsz Grow.refl (by kernel_rfl) rfl
   ·intro xs w hw K hK;obtain ⟨c0, c1, c2, _⟩ := HE.out w hw;go_simp;exact hK
   apply lxe hsz [] (by kernel_rfl) rfl
   ·intro xs w hw hp K hK;go_simp;exact (HL.out w).mono fun e w' h => ⟨_, h.1, hK _ h.2⟩
   iterate 2
    apply lxv hsz Grow.refl (by kernel_rfl) rfl
    ·intro xs w hw K hK;go_simp;exact hK
   apply lxv hsz Grow.refl (by kernel_rfl) rfl
   ·intro xs w hw K hK;obtain ⟨c0, c1, c2, _⟩ := HE.out w hw;go_simp;exact hK
   iterate 3
    apply lxv hsz Grow.refl (by kernel_rfl) rfl
    ·intro xs w hw K hK;go_simp;exact hK
   refine rgd [] (by kernel_rfl) rfl ?_;intro xs w hw hp;have ha0 := HA0.out;clear HA0 hsz s1 s2;clear hp;subst ha0;simp only [putV];have hG := Grow.trans hg0 hw.undrew;obtain ⟨c0, c1, c2, _⟩ := enres (hB0.fits hw.undrew);clear hw;go_wp2_with fail;refine (HBy.out _ _ trivial (.inl trivial) (one_ints _ _)).mono ?_;rintro x w2 ⟨rfl, hb2⟩;go_wp2_with fail;go_ret2;rw [HD.out];exact ⟨rfl, Grow.trans hG (Grow.trans ((Grow.refl _).alloc _) hb2)⟩
  | false =>
   refine rgv 12 (by kernel_rfl) (by kernel_rfl) rfl rfl ?_;intro a0 ha0;have hsz : a0.tmps.size = 23 := (size_at ha0).trans rfl;have s1 := slot_at ha0 1 rfl;have s2 := slot_at ha0 2 rfl;have HA0 := keep ha0;clear ha0;apply lxv hsz Grow.refl (by kernel_rfl) rfl
   ·intro xs w hw K hK;go_simp;exact hK
   apply lxe hsz [] (by kernel_rfl) rfl
   ·intro xs w hw hp K hK;go_simp;exact (HC.out w).mono fun e w' h => ⟨_, h.1, hK _ (by rw [<- h.2]; exact Grow.refl _)⟩
   iterate 2
    apply lxv hsz Grow.refl (by kernel_rfl) rfl
    ·intro xs w hw K hK;go_simp;exact hK
   apply lxv hsz Grow.refl (by kernel_rfl) rfl
   ·intro xs w hw K hK;obtain ⟨c0, c1, c2, _⟩ := HE.out w hw;go_simp;exact hK
   apply lxe hsz [] (by kernel_rfl) rfl
   ·intro xs w hw hp K hK;go_simp;exact (HL.out w).mono fun e w' h => ⟨_, h.1, hK _ h.2⟩
   iterate 2
    apply lxv hsz Grow.refl (by kernel_rfl) rfl
    ·intro xs w hw K hK;go_simp;exact hK
   apply lxv hsz Grow.refl (by kernel_rfl) rfl
   ·intro xs w hw K hK;obtain ⟨c0, c1, c2, _⟩ := HE.out w hw;go_simp;exact hK
   apply lxe hsz [] (by kernel_rfl) rfl
   ·intro xs w hw hp K hK;go_simp;exact (HI.out w).mono fun e w' h => ⟨_, h.1, hK _ h.2⟩
   iterate 2
    apply lxv hsz Grow.refl (by kernel_rfl) rfl
    ·intro xs w hw K hK;go_simp;exact hK
   refine rgd [] (by kernel_rfl) rfl ?_;intro xs w hw hp;have ha0 := HA0.out;clear HA0 hsz s1 s2;clear hp;subst ha0;simp only [putV];have hG := Grow.trans hg0 hw.undrew;obtain ⟨c0, c1, c2, _⟩ := enres (hB0.fits hw.undrew);clear hw;cases A with
   | false =>
    go_wp2_with fail;go_ret2;rw [HD.out];exact ⟨rfl, hG⟩
   | true =>
    go_wp2_with fail;refine (HBy.out _ _ trivial (.inr trivial) (one_ints _ _)).mono ?_;rintro x w2 ⟨rfl, hb2⟩;go_wp2_with fail;go_ret2;rw [HD.out];exact ⟨rfl, Grow.trans hG (Grow.trans ((Grow.refl _).alloc _) hb2)⟩
end Go.Proofs.YtcdapdcablnhpaaGreat
