import Derived.Test.YtaninphcgeaepaaGreatKRt1
import Derived.Deep.CutRange
/- almonryref03.Same: a page is the same as itself, wherever its items lie. -/
namespace Go.Proofs.YtaninphcgeaepaaGreat
open Go.RowKit
attribute [local go_sem] givesF_none givesF_some evalF_tmp evalF_const evalF_global evalF_func lookL isB_bool isB_undef givesUpon_value givesUpon_skip givesUpon_enter

theorem item_at {w : World} {v : Value} {l : List (List UInt8)} (h : Items w v l) {m : Nat} (hm : m < l.length) : ∃ c off cap, v = .slice (some ⟨c, off, none⟩) l.length cap ∧ ∀ u, Grow w u → u.cell? ⟨c, off + m, none⟩ = some (.string (str l[m])) := by
  obtain ⟨c, off, cap, e, hc⟩ := items_cells h (by omega)
  refine ⟨c, off, cap, e, fun u hu => ?_⟩
  have := hc m hm
  exact (Below.cell hu (World.block_lt_of_cell? w _ this)).trans this

set_option maxRecDepth 100000 in
set_option maxHeartbeats 4000000 in
theorem same_self (P : Pg) (iv jv : Value) (w_ : World) (hi : Items w_ iv P.items) (hj : Items w_ jv P.items) (hl : (P.items.length : Int) ≤ 140737488355328) :
    Calls Tryz.prog 34 #[pgV P iv, pgV P jv] w_ fun x w' => x = .returned (.bool true) ∧ Below w_.heap.size w_ w' := by
  obtain ⟨w0, hw0⟩ : ∃ w0, w0 = ((w_.alloc (.cells (pgCells P iv).toArray 24)).alloc (.cells (pgCells P jv).toArray 24)) := ⟨_, rfl⟩
  have hg0 : Grow w_ w0 := by subst hw0; exact ((Grow.refl w_).alloc _).alloc _
  have hP0 : Blk w0 w_.heap.size 24 (pgCells P iv) := by
    have := (Blk.new w_ 24 (pgCells P iv)).alloc (.cells (pgCells P jv).toArray 24)
    subst hw0; exact this
  have hQ0 : Blk w0 (w_.heap.size + 1) 24 (pgCells P jv) := by
    have := Blk.new (w_.alloc (.cells (pgCells P iv).toArray 24)) 24 (pgCells P jv)
    have e : (w_.alloc (.cells (pgCells P iv).toArray 24)).heap.size = w_.heap.size + 1 := by simp
    rw [e] at this
    subst hw0; exact this
  obtain ⟨ia, ic, rfl⟩ := items_form hi
  obtain ⟨ja, jc, rfl⟩ := items_form hj
  have HP0 := keep hP0
  have HQ0 := keep hQ0
  have HI0 := keep (Row.fits hi hg0 : Items w0 (.slice ia P.items.length ic) P.items)
  have HJ0 := keep (Row.fits hj hg0 : Items w0 (.slice ja P.items.length jc) P.items)
  unfold pgCells at hw0 hP0 hQ0
  obtain ⟨p0, p1, p2, p3, p4, p5, _⟩ := pgres hP0
  obtain ⟨q0, q1, q2, q3, q4, q5, _⟩ := pgres hQ0
  clear hi hj hP0 hQ0
  unfold pgV
  go_enter Tryz.func34, Tryz.ntmps34
  go_upto_region 1 with fail
  rw [← hw0]
  clear hw0
  go_wp2_with fail
  clear p0 p1 p2 p3 p4 p5 q0 q1 q2 q3 q4 q5
  go_loopw [5] (fun i wr => ∃ n : Nat, n ≤ P.items.length ∧ i = .int .i64 n ∧ Kept (Grow w0 wr)) (fun i _ => P.items.length - (intOf i).toNat)
  case atStart => exact ⟨0, Nat.zero_le _, rfl, keep (Grow.refl _)⟩
  case round =>
    obtain ⟨n, hn, rfl, HG⟩ := hrel
    have hP1 := HP0.out.fits HG.out
    unfold pgCells at hP1
    obtain ⟨p0, p1, p2, p3, p4, p5, _⟩ := pgres hP1
    by_cases hlt : n < P.items.length
    · obtain ⟨c1, off1, cap1, e1, hc1⟩ := item_at HI0.out hlt
      obtain ⟨c2, off2, cap2, e2, hc2⟩ := item_at HJ0.out hlt
      simp only [Value.slice.injEq] at e1 e2
      obtain ⟨rfl, x1, x2⟩ := e1
      obtain ⟨rfl, x3, x4⟩ := e2
      generalize P.items[n] = e at *
      have HI7 := keep (fun (u : World) (hu : Grow wr.drew u) => hc1 u (Grow.trans HG.out (Grow.undrew hu)))
      have HJ7 := keep (fun (u : World) (hu : Grow wr.drew u) => hc2 u (Grow.trans HG.out (Grow.undrew hu)))
      have HA7 := keep (fun (u : World) (hu : Grow wr.drew u) => HP0.out.fits (Grow.trans HG.out (Grow.undrew hu)))
      have HB7 := keep (fun (u : World) (hu : Grow wr.drew u) => HQ0.out.fits (Grow.trans HG.out (Grow.undrew hu)))
      unfold pgCells at HA7 HB7
      clear hc1 hc2 x1 x2 x3 x4 hP1
      go_upto_region 6 with fail
      refine wp_region_grow_named (by kernel_rfl) 10 (by kernel_rfl) [(55, 0), (56, 1), (57, 2), (58, 3), (59, 4), (60, 5), (61, 6), (62, 7), (63, 8), (64, 9)] (by kernel_rfl) [(0, true), (1, true), (2, true), (3, true), (4, true), (5, true), (6, true), (7, true), (8, true), (9, true)] (by kernel_rfl) rfl rfl ?_
      intro a0 ha0
      have hsz : a0.tmps.size = 66 := (size_at ha0).trans rfl
      have s2 := slot_at ha0 2 rfl
      have s3 := slot_at ha0 3 rfl
      have s5 := slot_at ha0 5 rfl
      have HA0 := keep ha0
      clear ha0
      -- operation 0
      apply lexf_eq hsz [] [(57, 2), (58, 3), (59, 4), (60, 5), (61, 6), (62, 7), (63, 8), (64, 9), (65, 10)] none (by kernel_rfl) (by kernel_rfl) (by kernel_rfl) (by kernel_rfl) rfl
      · intro xs w hw hp K hK
        obtain ⟨p0, p1, p2, p3, p4, p5, _⟩ := pgres (HA7.out w hw)
        go_simp
        exact hK _ (Grow.refl _)
      -- operation 1
      apply lexf_eq hsz [(0, true)] [(55, 0), (57, 2), (59, 4), (60, 5), (61, 6), (62, 7), (63, 8), (64, 9), (65, 10)] none (by kernel_rfl) (by kernel_rfl) (by kernel_rfl) (by kernel_rfl) rfl
      · intro xs w hw hp K hK
        simp only [holdsL, List.nil_append, List.cons_append, List.getD_cons_succ, List.getD_cons_zero, if_true, and_true] at hp
        obtain ⟨p0, p1, p2, p3, p4, p5, _⟩ := pgres (HA7.out w hw)
        go_simp
        exact hK _ (Grow.refl _)
      -- operation 2
      apply lexf_eq hsz [] [(55, 0), (56, 1), (59, 4), (60, 5), (61, 6), (62, 7), (63, 8), (64, 9), (65, 10)] none (by kernel_rfl) (by kernel_rfl) (by kernel_rfl) (by kernel_rfl) rfl
      · intro xs w hw hp K hK
        go_simp
        exact hK _ (Grow.refl _)
      -- operation 3
      apply lexf_eq hsz [(1, true), (2, true)] [(55, 0), (56, 1), (57, 2), (60, 5), (61, 6), (62, 7), (63, 8), (64, 9), (65, 10)] none (by kernel_rfl) (by kernel_rfl) (by kernel_rfl) (by kernel_rfl) rfl
      · intro xs w hw hp K hK
        simp only [holdsL, List.nil_append, List.cons_append, List.getD_cons_succ, List.getD_cons_zero, if_true, and_true] at hp
        have q1 : n < P.items.length := hlt
        go_simp
        exact hK _ (Grow.refl _)
      -- operation 4
      apply lexf_eq hsz [(3, true)] [(55, 0), (56, 1), (57, 2), (58, 3), (60, 5), (61, 6), (62, 7), (63, 8), (64, 9)] none (by kernel_rfl) (by kernel_rfl) (by kernel_rfl) (by kernel_rfl) rfl
      · intro xs w hw hp K hK
        simp only [holdsL, List.nil_append, List.cons_append, List.getD_cons_succ, List.getD_cons_zero, if_true, and_true] at hp
        have c0 := HI7.out w hw
        go_simp
        exact hK _ (Grow.refl _)
      -- operation 5
      apply lexf_eq hsz [] [(55, 0), (56, 1), (57, 2), (58, 3), (59, 4), (62, 7), (63, 8), (64, 9), (65, 10)] none (by kernel_rfl) (by kernel_rfl) (by kernel_rfl) (by kernel_rfl) rfl
      · intro xs w hw hp K hK
        obtain ⟨p0, p1, p2, p3, p4, p5, _⟩ := pgres (HB7.out w hw)
        go_simp
        exact hK _ (Grow.refl _)
      -- operation 6
      apply lexf_eq hsz [(5, true)] [(55, 0), (56, 1), (57, 2), (58, 3), (59, 4), (60, 5), (62, 7), (64, 9), (65, 10)] none (by kernel_rfl) (by kernel_rfl) (by kernel_rfl) (by kernel_rfl) rfl
      · intro xs w hw hp K hK
        simp only [holdsL, List.nil_append, List.cons_append, List.getD_cons_succ, List.getD_cons_zero, if_true, and_true] at hp
        obtain ⟨p0, p1, p2, p3, p4, p5, _⟩ := pgres (HB7.out w hw)
        go_simp
        exact hK _ (Grow.refl _)
      -- operation 7
      apply lexf_eq hsz [] [(55, 0), (56, 1), (57, 2), (58, 3), (59, 4), (60, 5), (61, 6), (64, 9), (65, 10)] none (by kernel_rfl) (by kernel_rfl) (by kernel_rfl) (by kernel_rfl) rfl
      · intro xs w hw hp K hK
        go_simp
        exact hK _ (Grow.refl _)
      -- operation 8
      apply lexf_eq hsz [(6, true), (7, true)] [(55, 0), (56, 1), (57, 2), (58, 3), (59, 4), (60, 5), (61, 6), (62, 7), (65, 10)] none (by kernel_rfl) (by kernel_rfl) (by kernel_rfl) (by kernel_rfl) rfl
      · intro xs w hw hp K hK
        simp only [holdsL, List.nil_append, List.cons_append, List.getD_cons_succ, List.getD_cons_zero, if_true, and_true] at hp
        have q1 : n < P.items.length := hlt
        go_simp
        exact hK _ (Grow.refl _)
      -- operation 9
      apply lexf_eq hsz [(8, true)] [(55, 0), (56, 1), (57, 2), (58, 3), (59, 4), (60, 5), (61, 6), (62, 7), (63, 8)] none (by kernel_rfl) (by kernel_rfl) (by kernel_rfl) (by kernel_rfl) rfl
      · intro xs w hw hp K hK
        simp only [holdsL, List.nil_append, List.cons_append, List.getD_cons_succ, List.getD_cons_zero, if_true, and_true] at hp
        have c0 := HJ7.out w hw
        go_simp
        exact hK _ (Grow.refl _)
      intro xs w hw hp
      have ha0 := HA0.out
      clear HA0 hsz s2 s3 s5
      simp only [holdsL, List.nil_append, List.cons_append, List.getD_cons_succ, List.getD_cons_zero, if_true, and_true] at hp
      have h4 := hp.2.2.2.2.1
      have h9 := hp.2.2.2.2.2.2.2.2.2
      clear hp
      subst ha0
      simp only [putAll, h4, h9]
      have hG := Grow.trans HG.out hw.undrew
      clear hw h4 h9 HI7 HJ7 HA7 HB7
      have HG2 := keep hG
      clear hG
      go_wp2_with fail
      go_roundw
      case rel => exact ⟨n + 1, by omega, by go_num, HG2⟩
      case measure => simp [intOf]; omega
    · have e : n = P.items.length := by omega
      subst e
      go_wp2_with fail
      go_ret
      exact ⟨rfl, Grow.trans hg0 HG.out⟩

end Go.Proofs.YtaninphcgeaepaaGreat
