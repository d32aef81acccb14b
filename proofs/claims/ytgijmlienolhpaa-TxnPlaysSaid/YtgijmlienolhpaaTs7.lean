
/- The laws' comparison of snapshots that are the same. -/
import Derived.Test.YtgijmlienolhpaaTs6
import Derived.Test.YtgijmlienolhpaaLexf
import Derived.Deep.CutRange
namespace Go.Proofs.Ytgijmlienolhpaa
open Go.RowKit Go.Maps
attribute [local go_sem] givesF_none givesF_some evalF_tmp evalF_const evalF_global evalF_func lookL isB_bool isB_undef givesUpon_value givesUpon_skip givesUpon_enter

/-- Snapshots as they lie in memory. -/
def SnR (w : World) (v : Value) (l : List (Int × List Int)) : Prop := ∃ ps : List (Int × Value), Row w 28 v l.length (ps.flatMap snC) ∧ ps.length = l.length ∧ ∀ (i : Nat) (h1 : i < ps.length) (h2 : i < l.length), ps[i].1 = l[i].1 ∧ Ints w ps[i].2 l[i].2
theorem SnR.fits {w w' : World} {v : Value} {l : List (Int × List Int)} (h : SnR w v l) (k : Grow w w') : SnR w' v l := by
  obtain ⟨ps, h1, h2, h3⟩ := h
  exact ⟨ps, Row.fits h1 k, h2, fun i a b => ⟨(h3 i a b).1, Row.fits (h3 i a b).2 k⟩⟩
theorem SnS.row {w : World} {B : Nat} {v : Value} {l : List (Int × List Int)} (h : SnS w B v l) : SnR w v l := by
  obtain ⟨ps, h1, h2, h3⟩ := h
  exact ⟨ps, (own_rowS h1).weak, h2, fun i a b => ⟨(h3 i a b).1, (h3 i a b).2.1.weak⟩⟩
theorem SnR.sl {w : World} {v : Value} {l : List (Int × List Int)} (h : SnR w v l) : ∃ a c, v = .slice a l.length c := by
  obtain ⟨ps, h1, _⟩ := h
  exact row_sl h1
theorem SnR.at_ {w : World} {v : Value} {l : List (Int × List Int)} (h : SnR w v l) {k : Nat} (hk : k < l.length) : ∃ c off cap sv, v = .slice (some ⟨c, off, none⟩) l.length cap ∧ w.cell? ⟨c, off + k * 2, none⟩ = some (.int .i64 l[k].1) ∧ w.cell? ⟨c, off + k * 2 + 1, none⟩ = some sv ∧ Ints w sv l[k].2 := by
  obtain ⟨ps, h1, h2, h3⟩ := h
  have hkp : k < ps.length := by omega
  rcases h1 with ⟨h0, _⟩ | ⟨c, off, cap, rfl, hc⟩
  · omega
  · have hl := snCells_length ps
    obtain ⟨g1, g2⟩ := snCells_get ps k hkp
    have e1 := hc (k * 2) (by rw [hl]; omega)
    have e2 := hc (k * 2 + 1) (by rw [hl]; omega)
    rw [List.getElem?_eq_getElem (by rw [hl]; omega)] at g1 g2
    rw [Option.some.inj g1] at e1
    rw [Option.some.inj g2] at e2
    rw [(h3 k hkp hk).1] at e1
    exact ⟨c, off, cap, ps[k].2, rfl, e1, by rw [Nat.add_assoc]; exact e2, (h3 k hkp hk).2⟩

set_option maxRecDepth 100000 in
set_option maxHeartbeats 4000000 in
theorem snaps_eq (l : List (Int × List Int)) (v v2 : Value) (w_ : World) (hi : SnR w_ v l) (hj : SnR w_ v2 l) (hl : (l.length : Int) ≤ 4611686018427387904) (hal : ∀ x ∈ l, (x.2.length : Int) ≤ 17592186044416) :
    Calls Try.prog 29 #[v, v2] w_ fun x w' => x = .returned (.bool true) ∧ Below w_.heap.size w_ w' := by
  obtain ⟨ia, ic, rfl⟩ := hi.sl
  obtain ⟨ja, jc, rfl⟩ := hj.sl
  have HI0 := keep hi
  have HJ0 := keep hj
  have HAl := keep hal
  clear hi hj hal
  go_enter Try.func29, Try.ntmps29
  go_wp2_with fail
  go_loopw [5] (fun i wr => RdRel l.length w_ i wr) (fun i _ => l.length - (intOf i).toNat)
  case atStart => exact show RdRel l.length w_ _ _ from ⟨0, Nat.zero_le _, rfl, keep (Below.refl _ _)⟩
  case round =>
    obtain ⟨n, hn, rfl, HG⟩ := hrel
    by_cases hlt : n < l.length
    · obtain ⟨c1, off1, cap1, sv1, e1, d1, d1', hs1⟩ := (HI0.out.fits HG.out).at_ hlt
      obtain ⟨c2, off2, cap2, sv2, e2, d2, d2', hs2⟩ := (HJ0.out.fits HG.out).at_ hlt
      have hle := HAl.out l[n] (List.getElem_mem hlt)
      simp only [Value.slice.injEq] at e1 e2
      obtain ⟨rfl, x1, x2⟩ := e1
      obtain ⟨rfl, x3, x4⟩ := e2
      generalize l[n] = e at *
      obtain ⟨e, e'⟩ := e
      dsimp only at d1 d2 hs1 hs2 hle
      have HA1 := keep (fun (u : World) (hu : Grow wr u) => And.intro ((hu.cell (World.block_lt_of_cell? wr _ d1)).trans d1) ((hu.cell (World.block_lt_of_cell? wr _ d1')).trans d1'))
      have HA2 := keep (fun (u : World) (hu : Grow wr u) => And.intro ((hu.cell (World.block_lt_of_cell? wr _ d2)).trans d2) ((hu.cell (World.block_lt_of_cell? wr _ d2')).trans d2'))
      have HI1 := keep hs1
      have HI2 := keep hs2
      have HLe := keep (show (e'.length : Int) ≤ 4611686018427387904 by omega)
      clear x1 x2 x3 x4 d1 d2 d1' d2' hs1 hs2 hle
      go_upto_region 6 with fail
      refine wp_region_grow_named (by kernel_rfl) 9 (by kernel_rfl) [(17, 0), (18, 1), (19, 2), (20, 3), (21, 4), (22, 5), (23, 6), (24, 7), (25, 8)] (by kernel_rfl) [(0, true), (1, true), (2, true), (3, true), (4, true), (5, true), (6, true), (7, true), (8, true)] (by kernel_rfl) rfl rfl ?_
      intro a0 ha0
      have hsz : a0.tmps.size = 27 := (size_at ha0).trans rfl
      have s0 := slot_at ha0 0 rfl
      have s1 := slot_at ha0 1 rfl
      have s5 := slot_at ha0 5 rfl
      have HA0 := keep ha0
      clear ha0
      -- operation 0
      apply lexf_eq hsz [] [(18, 1), (20, 3), (21, 4), (22, 5), (23, 6), (24, 7), (25, 8), (26, 9)] none (by kernel_rfl) (by kernel_rfl) (by kernel_rfl) (by kernel_rfl) rfl
      · intro xs w hw hp K hK
        go_simp
        exact hK _ (Grow.refl _)
      -- operation 1
      apply lexf_eq hsz [] [(17, 0), (20, 3), (21, 4), (22, 5), (23, 6), (24, 7), (25, 8), (26, 9)] none (by kernel_rfl) (by kernel_rfl) (by kernel_rfl) (by kernel_rfl) rfl
      · intro xs w hw hp K hK
        go_simp
        exact hK _ (Grow.refl _)
      -- operation 2
      apply lexf_eq hsz [(0, true), (1, true)] [(17, 0), (18, 1), (21, 4), (22, 5), (23, 6), (24, 7), (25, 8), (26, 9)] none (by kernel_rfl) (by kernel_rfl) (by kernel_rfl) (by kernel_rfl) rfl
      · intro xs w hw hp K hK
        simp only [holdsL, List.nil_append, List.cons_append, List.getD_cons_succ, List.getD_cons_zero, if_true, and_true] at hp
        go_simp
        exact hK _ (Grow.refl _)
      -- operation 3
      apply lexf_eq hsz [(2, true)] [(17, 0), (18, 1), (19, 2), (21, 4), (22, 5), (23, 6), (24, 7), (26, 9)] none (by kernel_rfl) (by kernel_rfl) (by kernel_rfl) (by kernel_rfl) rfl
      · intro xs w hw hp K hK
        simp only [holdsL, List.nil_append, List.cons_append, List.getD_cons_succ, List.getD_cons_zero, if_true, and_true] at hp
        obtain ⟨d1, d2⟩ := HA1.out w (Grow.undrew hw)
        go_simp
        exact hK _ (Grow.refl _)
      -- operation 4
      apply lexf_eq hsz [] [(17, 0), (18, 1), (19, 2), (20, 3), (22, 5), (24, 7), (25, 8), (26, 9)] none (by kernel_rfl) (by kernel_rfl) (by kernel_rfl) (by kernel_rfl) rfl
      · intro xs w hw hp K hK
        go_simp
        exact hK _ (Grow.refl _)
      -- operation 5
      apply lexf_eq hsz [] [(17, 0), (18, 1), (19, 2), (20, 3), (21, 4), (24, 7), (25, 8), (26, 9)] none (by kernel_rfl) (by kernel_rfl) (by kernel_rfl) (by kernel_rfl) rfl
      · intro xs w hw hp K hK
        go_simp
        exact hK _ (Grow.refl _)
      -- operation 6
      apply lexf_eq hsz [(4, true), (5, true)] [(17, 0), (18, 1), (19, 2), (20, 3), (21, 4), (22, 5), (25, 8), (26, 9)] none (by kernel_rfl) (by kernel_rfl) (by kernel_rfl) (by kernel_rfl) rfl
      · intro xs w hw hp K hK
        simp only [holdsL, List.nil_append, List.cons_append, List.getD_cons_succ, List.getD_cons_zero, if_true, and_true] at hp
        go_simp
        exact hK _ (Grow.refl _)
      -- operation 7
      apply lexf_eq hsz [(6, true)] [(17, 0), (18, 1), (19, 2), (20, 3), (21, 4), (22, 5), (23, 6), (26, 9)] none (by kernel_rfl) (by kernel_rfl) (by kernel_rfl) (by kernel_rfl) rfl
      · intro xs w hw hp K hK
        simp only [holdsL, List.nil_append, List.cons_append, List.getD_cons_succ, List.getD_cons_zero, if_true, and_true] at hp
        obtain ⟨d1, d2⟩ := HA2.out w (Grow.undrew hw)
        go_simp
        exact hK _ (Grow.refl _)
      -- operation 8
      apply lexf_eq hsz [(3, true), (7, true)] [(17, 0), (18, 1), (19, 2), (20, 3), (21, 4), (22, 5), (23, 6), (24, 7)] none (by kernel_rfl) (by kernel_rfl) (by kernel_rfl) (by kernel_rfl) rfl
      · intro xs w hw hp K hK
        simp only [holdsL, List.nil_append, List.cons_append, List.getD_cons_succ, List.getD_cons_zero, if_true, and_true] at hp
        go_simp
        refine (sameSnap_eq _ _ _ _ w (Row.fits HI1.out (Grow.undrew hw)) (Row.fits HI2.out (Grow.undrew hw)) HLe.out).mono ?_; rintro e w' ⟨rfl, hb⟩; exact ⟨_, rfl, hK _ hb⟩
      intro xs w hw hp
      have ha0 := HA0.out
      clear HA0 hsz s0 s1 s5
      simp only [holdsL, List.nil_append, List.cons_append, List.getD_cons_succ, List.getD_cons_zero, if_true, and_true] at hp
      have h8 := hp.2.2.2.2.2.2.2.2
      clear hp
      subst ha0
      simp only [putAll, h8]
      have HG9 := keep (Grow.trans HG.out hw.undrew)
      clear hw
      go_frame
      go_wp2_with fail
      go_roundw
      case rel => exact show RdRel l.length w_ _ _ from ⟨n + 1, by omega, by go_num, keep HG9.out⟩
      case measure => simp [intOf]; omega
    · have e : n = l.length := by omega
      subst e
      go_wp2_with fail
      go_ret
      exact ⟨rfl, HG.out⟩

end Go.Proofs.Ytgijmlienolhpaa
