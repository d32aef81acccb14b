import Derived.Test.YtmhepfehcakmjaaGreatKLexm
import Derived.Test.YtmhepfehcakmjaaGreatKOp4
import Derived.Test.YtmhepfehcakmjaaGreatKRd3
import Derived.Deep.CutRange
namespace Go.Proofs.YtmhepfehcakmjaaGreat
open Go.RowKit
attribute [local go_sem] givesV lookV knAt givesF_none givesF_some evalF_tmp evalF_const evalF_global evalF_func lookL isB_bool isB_undef givesUpon_value givesUpon_skip givesUpon_enter
def posE (l : List En) (t : En) : Nat := l.countP fun x => decide (cmpE x t < 0)
theorem cmp_neg_iff (a b : En) : cmpE a b < 0 ↔ cmpE a b = -1 := by
 rcases cmpE_three a b with h | h | h <;> rw [h] <;> decide
def Sorted (l : List En) : Prop := l.Pairwise fun a b => cmpE a b = -1
theorem Sorted.at {l : List En} (h : Sorted l) {i j : Nat} (hi : i < l.length) (hj : j < l.length) (hij : i < j) : cmpE l[i] l[j] = -1 := (List.pairwise_iff_getElem.1 h) i j hi hj hij
theorem search_low {l : List En} (h : Sorted l) {t : En} {m : Nat} (hm : m < l.length) (hc : cmpE l[m] t < 0) : ∀ j (hj : j < l.length), j < m + 1 → cmpE l[j] t < 0 := by
 intro j hj hjm
 by_cases e : j = m
 ·subst e; exact hc
 ·rw [cmp_neg_iff] at *
  exact cmpE_trans (h.at hj hm (by omega)) hc
theorem search_high {l : List En} (h : Sorted l) {t : En} {m : Nat} (hm : m < l.length) (hc : ¬ cmpE l[m] t < 0) : ∀ j (hj : j < l.length), m ≤ j → ¬ cmpE l[j] t < 0 := by
 intro j hj hjm hn
 by_cases e : j = m
 ·subst e; exact hc hn
 ·rw [cmp_neg_iff] at *
  exact hc (cmpE_trans (h.at hm hj (by omega)) hn)
theorem search_end {l : List En} (h : Sorted l) {t : En} {k : Nat} (hk : k ≤ l.length) (h1 : ∀ j (hj : j < l.length), j < k → cmpE l[j] t < 0) (h2 : ∀ j (hj : j < l.length), k ≤ j → ¬ cmpE l[j] t < 0) :
  posE l t = k ∧ (t ∈ l ↔ ∃ hk : k < l.length, cmpE l[k] t = 0) := by
 constructor
 ·unfold posE
  rw [← List.take_append_drop k l, List.countP_append]
  have a1 : (l.take k).countP (fun x => decide (cmpE x t < 0)) = k := by
   rw [List.countP_eq_length.2, List.length_take, Nat.min_eq_left hk]
   intro x hx
   obtain ⟨j, hj, rfl⟩ := List.mem_iff_getElem.1 hx
   rw [List.length_take] at hj
   rw [List.getElem_take]
   exact decide_eq_true (h1 j (by omega) (by omega))
  have a2 : (l.drop k).countP (fun x => decide (cmpE x t < 0)) = 0 := by
   rw [List.countP_eq_zero]
   intro x hx
   obtain ⟨j, hj, rfl⟩ := List.mem_iff_getElem.1 hx
   rw [List.length_drop] at hj
   rw [List.getElem_drop]
   simpa using h2 (k + j) (by omega) (by omega)
  rw [a1, a2]; rfl
 ·constructor
  ·intro hm
   obtain ⟨j, hj, rfl⟩ := List.mem_iff_getElem.1 hm
   have hjk : ¬ j < k := fun e => by have := h1 j hj e; rw [cmpE_self] at this; omega
   by_cases e : j = k
   ·subst e; exact ⟨hj, cmpE_self _⟩
   ·have := h.at (show k < l.length by omega) hj (by omega)
    exact absurd ((cmp_neg_iff _ _).2 this) (h2 k (by omega) (Nat.le_refl _))
  ·rintro ⟨hk, hc⟩
   rw [← cmpE_eq.1 hc]
   exact List.getElem_mem hk
set_option maxRecDepth 100000 in
set_option maxHeartbeats 4000000 in
theorem search_any (t : En) (l : List En) (v : Value) (w_ : World) (h : EnsS w_ v l) (hl : l.length ≤ 1759218604441) (hs : Sorted l) :
  Calls Tryz.prog 110 #[v, enV t, .func (.func 109) #[] #[]] w_ fun x w' =>
   x = .returned (.tuple #[.int .i64 (posE l t), .bool (decide (t ∈ l))]) ∧ Below w_.heap.size w_ w' := by
 obtain ⟨a, cap, rfl⟩ : ∃ a cap, v = .slice a l.length cap := by
  rcases h with ⟨h1, _, a, cap, h2⟩ | ⟨c, off, cap, blk, f, h1, _⟩
  ·exact ⟨a, cap, by rw [h2, h1]⟩
  ·exact ⟨_, _, h1⟩
 have hcells : ∀ m (hm : m < l.length), ∃ c off, a = some ⟨c, off, none⟩ ∧ ∀ u, Grow w_ u → (u.cell? ⟨c, off + m * 3, none⟩ = some (.string (str l[m].1)) ∧ u.cell? ⟨c, off + m * 3 + 1, none⟩ = some (.int .i64 l[m].2.1) ∧ u.cell? ⟨c, off + m * 3 + 2, none⟩ = some (.int .i64 l[m].2.2)) := by
  intro m hm
  obtain ⟨c, off, cap', e, hc⟩ := ens_cells h.weak (by omega)
  simp only [Value.slice.injEq] at e
  refine ⟨c, off, e.1, fun u hu => ?_⟩
  have := hc m hm
  exact ⟨(Below.cell hu (World.block_lt_of_cell? w_ _ this.1)).trans this.1, (Below.cell hu (World.block_lt_of_cell? w_ _ this.2.1)).trans this.2.1, (Below.cell hu (World.block_lt_of_cell? w_ _ this.2.2)).trans this.2.2⟩
 obtain ⟨tk, tp, ts⟩ := t
 obtain ⟨w0, hw0⟩ : ∃ w0, w0 = w_.alloc (.cells #[.string (str tk), .int .i64 tp, .int .i64 ts] 102) := ⟨_, rfl⟩
 have hg0 : Grow w_ w0 := by subst hw0; exact (Grow.refl w_).alloc _
 have hT0 : Blk w0 w_.heap.size 102 [.string (str tk), .int .i64 tp, .int .i64 ts] := by subst hw0; exact Blk.new w_ _ [_, _, _]
 have HS := keep hs
 have HCells := keep hcells
 have HT := keep (fun (u : World) (hu : Grow w0 u) => Blk.fits hT0 hu)
 clear h hs hcells hT0
 unfold enV
 go_enter Tryz.func110, Tryz.ntmps110
 go_upto_region 1 with fail
 rw [← hw0]
 clear hw0
 go_wp2_with fail
 go_loopw [9, 10] (fun i j wr => ∃ lo hi : Nat, i = .int .i64 lo ∧ j = .int .i64 hi ∧ lo ≤ hi ∧ hi ≤ l.length ∧ Kept (∀ x (hx : x < l.length), x < lo → cmpE l[x] (tk, tp, ts) < 0) ∧ Kept (∀ x (hx : x < l.length), hi ≤ x → ¬ cmpE l[x] (tk, tp, ts) < 0) ∧ Kept (Grow w0 wr)) (fun i j _ => (intOf j).toNat - (intOf i).toNat)
 case atStart => exact ⟨0, l.length, rfl, rfl, Nat.zero_le _, Nat.le_refl _, keep (fun x hx h => absurd h (Nat.not_lt_zero _)), keep (fun x hx h => by omega), keep (Grow.refl _)⟩
 case round =>
  obtain ⟨lo, hi, rfl, rfl, hlh, hhl, H1, H2, HG⟩ := hrel
  by_cases hlt : lo < hi
  ·go_upto_region 5 with fail
   have em : ((lo : Int) + (hi : Int)) / 2 = (((lo + hi) / 2 : Nat) : Int) := by omega
   rw [em]
   clear em
   obtain ⟨m, hm⟩ : ∃ m, m = (lo + hi) / 2 := ⟨_, rfl⟩
   rw [← hm]
   have hm1 : lo ≤ m := by omega
   have hm2 : m < hi := by omega
   clear hm
   obtain ⟨c2, off2, rfl, hcm⟩ := HCells.out m (by omega)
   have hml : m < l.length := by omega
   have HCm := keep (fun (u : World) (hu : Grow wr.drew u) => hcm u (Grow.trans hg0 (Grow.trans HG.out (Grow.undrew hu))))
   have HTm := keep (fun (u : World) (hu : Grow wr.drew u) => enres (HT.out u (Grow.trans HG.out (Grow.undrew hu))))
   have hcp := fun u => compare_any l[m] (tk, tp, ts) u
   have ht1 := search_low HS.out (t := (tk, tp, ts)) hml
   have ht2 := search_high HS.out (t := (tk, tp, ts)) hml
   unfold enV at hcp
   dsimp only at hcp
   generalize cmpE l[m] (tk, tp, ts) = CV at *
   have HCp := keep hcp
   have HT1 := keep ht1
   have HT2 := keep ht2
   clear hcp hcm ht1 ht2
   go_cut [31] from 24 to 31 (fun sv wx => sv = .bool (decide (CV < 0)) ∧ Grow wr wx)
   case first =>
    generalize l[m] = lm at *
    obtain ⟨mk, mp, ms⟩ := lm
    dsimp only at HCm HCp
    refine rgv 7 (by kernel_rfl) (by kernel_rfl) rfl rfl ?_
    intro a0 ha0
    have hsz : a0.tmps.size = 49 := (size_at ha0).trans rfl
    have s0 := slot_at ha0 0 rfl
    have s2 := slot_at ha0 2 rfl
    have s4 := slot_at ha0 4 rfl
    have s11 := slot_at ha0 11 rfl
    have HA0 := keep ha0
    clear ha0
    iterate 3
     apply lxv hsz Grow.refl (by kernel_rfl) rfl
     ·intro xs w hw K hK
      go_simp
      exact hK
    apply lxv hsz Grow.refl (by kernel_rfl) rfl
    ·intro xs w hw K hK
     have q1 : m < l.length := hml
     go_simp
     exact hK
    apply lxv hsz Grow.refl (by kernel_rfl) rfl
    ·intro xs w hw K hK
     obtain ⟨c0, c1, c2⟩ := HCm.out w hw
     go_simp
     exact hK
    apply lxv hsz Grow.refl (by kernel_rfl) rfl
    ·intro xs w hw K hK
     obtain ⟨c0, c1, c2, _⟩ := HTm.out w hw
     go_simp
     exact hK
    apply lxe hsz [] (by kernel_rfl) rfl
    ·intro xs w hw hp K hK
     go_simp
     exact (HCp.out w).mono fun e w' h => ⟨_, h.1, hK _ h.2⟩
    refine rgd [] (by kernel_rfl) rfl ?_
    intro xs w hw hp
    have ha0 := HA0.out
    clear HA0 hsz s0 s2 s4 s11
    clear hp
    subst ha0
    simp only [putV]
    have hgw : Grow wr w := hw.undrew
    clear hw
    go_wp2_with fail
    all_goals go_meet
    all_goals (case rel => exact ⟨rfl, hgw⟩)
   case rest =>
    obtain ⟨rfl, hgw⟩ := hcut
    have HG2 := keep (Grow.trans HG.out hgw)
    clear hgw
    by_cases hcv : CV < 0
    ·have hcb : (decide (CV < 0)) = true := decide_eq_true hcv
     have HT3 := keep (HT1.out hcv)
     rw [hcb]
     clear hcb hcv
     go_wp2_with fail
     go_roundw
     case rel => exact ⟨m + 1, hi, by go_num, rfl, by omega, hhl, keep (fun x hx hxm => HT3.out x hx hxm), H2, HG2⟩
     case measure => simp [intOf]; omega
    ·have hcb : (decide (CV < 0)) = false := decide_eq_false hcv
     have HT3 := keep (HT2.out hcv)
     rw [hcb]
     clear hcb hcv
     go_wp2_with fail
     go_roundw
     case rel => exact ⟨lo, m, rfl, rfl, by omega, by omega, H1, keep (fun x hx hxm => HT3.out x hx hxm), HG2⟩
     case measure => simp [intOf]; omega
  ·have e : lo = hi := by omega
   subst e
   obtain ⟨hpos, hmem⟩ := search_end HS.out (t := (tk, tp, ts)) hhl H1.out H2.out
   have HPos := keep hpos
   have HMem := keep hmem
   clear hpos hmem
   go_upto_region 8 with fail
   by_cases hn : lo < l.length
   ·obtain ⟨c2, off2, rfl, hcm⟩ := HCells.out lo hn
    have HCm := keep (fun (u : World) (hu : Grow wr.drew u) => hcm u (Grow.trans hg0 (Grow.trans HG.out (Grow.undrew hu))))
    have HTm := keep (fun (u : World) (hu : Grow wr.drew u) => enres (HT.out u (Grow.trans HG.out (Grow.undrew hu))))
    have hcp := fun u => compare_any l[lo] (tk, tp, ts) u
    have hme : decide ((tk, tp, ts) ∈ l) = decide (cmpE l[lo] (tk, tp, ts) = 0) := by
     rw [decide_eq_decide, HMem.out]
     exact ⟨fun ⟨_, h⟩ => h, fun h => ⟨hn, h⟩⟩
    unfold enV at hcp
    dsimp only at hcp
    generalize cmpE l[lo] (tk, tp, ts) = CV at *
    generalize l[lo] = lm at *
    obtain ⟨mk, mp, ms⟩ := lm
    dsimp only at HCm hcp
    have HCp := keep hcp
    have HMe := keep hme
    clear hcp hcm hme
    refine rgv 15 (by kernel_rfl) (by kernel_rfl) rfl rfl ?_
    intro a0 ha0
    have hsz : a0.tmps.size = 49 := (size_at ha0).trans rfl
    have s0 := slot_at ha0 0 rfl
    have s2 := slot_at ha0 2 rfl
    have s4 := slot_at ha0 4 rfl
    have s8 := slot_at ha0 8 rfl
    have s9 := slot_at ha0 9 rfl
    have HA0 := keep ha0
    clear ha0
    iterate 8
     apply lxv hsz Grow.refl (by kernel_rfl) rfl
     ·intro xs w hw K hK
      go_simp
      exact hK
    apply lxv hsz Grow.refl (by kernel_rfl) rfl
    ·intro xs w hw K hK
     have q1 : lo < l.length := hn
     go_simp
     exact hK
    apply lxv hsz Grow.refl (by kernel_rfl) rfl
    ·intro xs w hw K hK
     obtain ⟨c0, c1, c2⟩ := HCm.out w hw
     go_simp
     exact hK
    apply lxv hsz Grow.refl (by kernel_rfl) rfl
    ·intro xs w hw K hK
     obtain ⟨c0, c1, c2, _⟩ := HTm.out w hw
     go_simp
     exact hK
    apply lxe hsz [] (by kernel_rfl) rfl
    ·intro xs w hw hp K hK
     go_simp
     exact (HCp.out w).mono fun e w' h => ⟨_, h.1, hK _ h.2⟩
    iterate 3
     apply lxv hsz Grow.refl (by kernel_rfl) rfl
     ·intro xs w hw K hK
      go_simp
      exact hK
    refine rgd [] (by kernel_rfl) rfl ?_
    intro xs w hw hp
    have ha0 := HA0.out
    clear HA0 hsz s0 s2 s4 s8 s9
    clear hp
    subst ha0
    simp only [putV]
    have hgw := Grow.trans hg0 (Grow.trans HG.out hw.undrew)
    clear hw
    go_wp2_with fail
    go_ret2
    refine ⟨?_, hgw⟩
    rw [HPos.out, HMe.out]
    by_cases hz : CV = 0 <;> simp [hz]
   ·have hme : decide ((tk, tp, ts) ∈ l) = false := decide_eq_false (fun h => hn (HMem.out.1 h).1)
    have HMe := keep hme
    clear hme
    refine rgv 15 (by kernel_rfl) (by kernel_rfl) rfl rfl ?_
    intro a0 ha0
    have hsz : a0.tmps.size = 49 := (size_at ha0).trans rfl
    have s0 := slot_at ha0 0 rfl
    have s2 := slot_at ha0 2 rfl
    have s4 := slot_at ha0 4 rfl
    have s8 := slot_at ha0 8 rfl
    have s9 := slot_at ha0 9 rfl
    have HA0 := keep ha0
    clear ha0
    iterate 15
     apply lxv hsz Grow.refl (by kernel_rfl) rfl
     ·intro xs w hw K hK
      go_simp
      exact hK
    refine rgd [] (by kernel_rfl) rfl ?_
    intro xs w hw hp
    have ha0 := HA0.out
    clear HA0 hsz s0 s2 s4 s8 s9
    clear hp
    subst ha0
    simp only [putV]
    have hgw := Grow.trans hg0 (Grow.trans HG.out hw.undrew)
    clear hw
    go_wp2_with fail
    go_ret2
    refine ⟨?_, hgw⟩
    rw [HPos.out, HMe.out]
    rfl
end Go.Proofs.YtmhepfehcakmjaaGreat
