import Derived.Test.YtigbgodbalpgdaaKRl2
import Derived.Deep.CutRange
/- almonrylaw14.entries: a list is the same as itself, wherever it lies. -/
namespace Go.Proofs.Ytigbgodbalpgdaa
open Go.RowKit
attribute [local go_sem] givesF_none givesF_some evalF_tmp evalF_const evalF_global evalF_func lookL isB_bool isB_undef givesUpon_value givesUpon_skip givesUpon_enter

theorem en_at {w : World} {v : Value} {l : List En} (h : Row w 23 v l.length (eCells l)) {m : Nat} (hm : m < l.length) : ∃ c off cap, v = .slice (some ⟨c, off, none⟩) l.length cap ∧ ∀ u, Grow w u → (u.cell? ⟨c, off + m * 3, none⟩ = some (.string (str l[m].1)) ∧ u.cell? ⟨c, off + m * 3 + 1, none⟩ = some (.int .i64 l[m].2.1) ∧ u.cell? ⟨c, off + m * 3 + 2, none⟩ = some (.int .i64 l[m].2.2)) := by
  obtain ⟨c, off, cap, e, hc⟩ := ens_cells h (by omega)
  refine ⟨c, off, cap, e, fun u hu => ?_⟩
  have := hc m hm
  exact ⟨(Below.cell hu (World.block_lt_of_cell? w _ this.1)).trans this.1, (Below.cell hu (World.block_lt_of_cell? w _ this.2.1)).trans this.2.1, (Below.cell hu (World.block_lt_of_cell? w _ this.2.2)).trans this.2.2⟩
theorem en_form {w : World} {v : Value} {l : List En} (h : Row w 23 v l.length (eCells l)) : ∃ a cap, v = .slice a l.length cap := by
  rcases h with ⟨h1, _, a, cap, h2⟩ | ⟨c, off, cap, h1, _⟩
  · exact ⟨a, cap, by rw [h2, h1]⟩
  · exact ⟨_, _, h1⟩

attribute [local simp] neq_entry sameE_self
attribute [local go_sem] guard_entry
set_option maxRecDepth 100000 in
set_option maxHeartbeats 4000000 in
theorem entries_same (l : List En) (v v2 : Value) (w_ : World) (hi : Row w_ 23 v l.length (eCells l)) (hj : Row w_ 23 v2 l.length (eCells l)) (hl : (l.length : Int) ≤ 4398046510976) :
    Calls Try.prog 23 #[v, v2] w_ fun x w' => x = .returned (.bool true) ∧ Below w_.heap.size w_ w' := by
  obtain ⟨ia, ic, rfl⟩ := en_form hi
  obtain ⟨ja, jc, rfl⟩ := en_form hj
  have HI0 := keep hi
  have HJ0 := keep hj
  clear hi hj
  go_enter Try.func23, Try.ntmps23
  go_wp2_with fail
  go_loopw [5] (fun i wr => ∃ n : Nat, n ≤ l.length ∧ i = .int .i64 n ∧ Kept (Grow w_ wr)) (fun i _ => l.length - (intOf i).toNat)
  case atStart => exact ⟨0, Nat.zero_le _, rfl, keep (Grow.refl _)⟩
  case round =>
    obtain ⟨n, hn, rfl, HG⟩ := hrel
    by_cases hlt : n < l.length
    · obtain ⟨c1, off1, cap1, e1, hc1⟩ := en_at HI0.out hlt
      obtain ⟨c2, off2, cap2, e2, hc2⟩ := en_at HJ0.out hlt
      simp only [Value.slice.injEq] at e1 e2
      obtain ⟨rfl, x1, x2⟩ := e1
      obtain ⟨rfl, x3, x4⟩ := e2
      generalize l[n] = e at *
      obtain ⟨k, p, s⟩ := e
      dsimp only at hc1 hc2
      have HI7 := keep (fun (u : World) (hu : Grow wr.drew u) => hc1 u (Grow.trans HG.out (Grow.undrew hu)))
      have HJ7 := keep (fun (u : World) (hu : Grow wr.drew u) => hc2 u (Grow.trans HG.out (Grow.undrew hu)))
      clear hc1 hc2 x1 x2 x3 x4
      go_upto_region 6 with fail
      refine wp_region_grow_named (by kernel_rfl) 8 (by kernel_rfl) [(17, 0), (18, 1), (19, 2), (20, 3), (21, 4), (22, 5), (23, 6), (24, 7)] (by kernel_rfl) [(0, true), (1, true), (2, true), (3, true), (4, true), (5, true), (6, true), (7, true)] (by kernel_rfl) rfl rfl ?_
      intro a0 ha0
      have hsz : a0.tmps.size = 26 := (size_at ha0).trans rfl
      have s0 := slot_at ha0 0 rfl
      have s1 := slot_at ha0 1 rfl
      have s5 := slot_at ha0 5 rfl
      have HA0 := keep ha0
      clear ha0
      -- operation 0
      apply lexf_eq hsz [] [(18, 1), (20, 3), (21, 4), (22, 5), (23, 6), (24, 7), (25, 8)] none (by kernel_rfl) (by kernel_rfl) (by kernel_rfl) (by kernel_rfl) rfl
      · intro xs w hw hp K hK
        go_simp
        exact hK _ (Grow.refl _)
      -- operation 1
      apply lexf_eq hsz [] [(17, 0), (20, 3), (21, 4), (22, 5), (23, 6), (24, 7), (25, 8)] none (by kernel_rfl) (by kernel_rfl) (by kernel_rfl) (by kernel_rfl) rfl
      · intro xs w hw hp K hK
        go_simp
        exact hK _ (Grow.refl _)
      -- operation 2
      apply lexf_eq hsz [(0, true), (1, true)] [(17, 0), (18, 1), (21, 4), (22, 5), (23, 6), (24, 7), (25, 8)] none (by kernel_rfl) (by kernel_rfl) (by kernel_rfl) (by kernel_rfl) rfl
      · intro xs w hw hp K hK
        simp only [holdsL, List.nil_append, List.cons_append, List.getD_cons_succ, List.getD_cons_zero, if_true, and_true] at hp
        have q1 : n < l.length := hlt
        go_simp
        exact hK _ (Grow.refl _)
      -- operation 3
      apply lexf_eq hsz [(2, true)] [(17, 0), (18, 1), (19, 2), (21, 4), (22, 5), (23, 6), (24, 7)] none (by kernel_rfl) (by kernel_rfl) (by kernel_rfl) (by kernel_rfl) rfl
      · intro xs w hw hp K hK
        simp only [holdsL, List.nil_append, List.cons_append, List.getD_cons_succ, List.getD_cons_zero, if_true, and_true] at hp
        obtain ⟨c0, c1, c2⟩ := HI7.out w hw
        go_simp
        exact hK _ (Grow.refl _)
      -- operation 4
      apply lexf_eq hsz [] [(17, 0), (18, 1), (19, 2), (20, 3), (22, 5), (24, 7), (25, 8)] none (by kernel_rfl) (by kernel_rfl) (by kernel_rfl) (by kernel_rfl) rfl
      · intro xs w hw hp K hK
        go_simp
        exact hK _ (Grow.refl _)
      -- operation 5
      apply lexf_eq hsz [] [(17, 0), (18, 1), (19, 2), (20, 3), (21, 4), (24, 7), (25, 8)] none (by kernel_rfl) (by kernel_rfl) (by kernel_rfl) (by kernel_rfl) rfl
      · intro xs w hw hp K hK
        go_simp
        exact hK _ (Grow.refl _)
      -- operation 6
      apply lexf_eq hsz [(4, true), (5, true)] [(17, 0), (18, 1), (19, 2), (20, 3), (21, 4), (22, 5), (25, 8)] none (by kernel_rfl) (by kernel_rfl) (by kernel_rfl) (by kernel_rfl) rfl
      · intro xs w hw hp K hK
        simp only [holdsL, List.nil_append, List.cons_append, List.getD_cons_succ, List.getD_cons_zero, if_true, and_true] at hp
        have q1 : n < l.length := hlt
        go_simp
        exact hK _ (Grow.refl _)
      -- operation 7
      apply lexf_eq hsz [(6, true)] [(17, 0), (18, 1), (19, 2), (20, 3), (21, 4), (22, 5), (23, 6)] none (by kernel_rfl) (by kernel_rfl) (by kernel_rfl) (by kernel_rfl) rfl
      · intro xs w hw hp K hK
        simp only [holdsL, List.nil_append, List.cons_append, List.getD_cons_succ, List.getD_cons_zero, if_true, and_true] at hp
        obtain ⟨c0, c1, c2⟩ := HJ7.out w hw
        go_simp
        exact hK _ (Grow.refl _)
      intro xs w hw hp
      have ha0 := HA0.out
      clear HA0 hsz s0 s1 s5
      simp only [holdsL, List.nil_append, List.cons_append, List.getD_cons_succ, List.getD_cons_zero, if_true, and_true] at hp
      have h3 := hp.2.2.2.1
      have h7 := hp.2.2.2.2.2.2.2
      clear hp
      subst ha0
      simp only [putAll, h3, h7]
      have hG := Grow.trans HG.out hw.undrew
      clear hw h3 h7 HI7 HJ7
      have HG2 := keep hG
      clear hG
      go_wp2_with fail
      go_roundw
      case rel => exact ⟨n + 1, by omega, by go_num, HG2⟩
      case measure => simp [intOf]; omega
    · have e : n = l.length := by omega
      subst e
      go_wp2_with fail
      go_ret
      exact ⟨rfl, HG.out⟩

end Go.Proofs.Ytigbgodbalpgdaa
