import Derived.Test.YtigbgodbalpgdaaGreatKNf2
import Derived.Deep.CutRange
/- node.Root. -/
namespace Go.Proofs.YtigbgodbalpgdaaGreat
open Go.RowKit
attribute [local go_sem] givesF_none givesF_some evalF_tmp evalF_const evalF_global evalF_func lookL isB_bool isB_undef givesUpon_value givesUpon_skip givesUpon_enter

def rootOk (lv left : Int) (e : En) (right : Int) : Bool := inB lv 1 255 && (enOk e && (inB left 1 65535 && inB right 1 65535))
/-- An inner node over two. -/
def rootP (lv left : Int) (e : En) (right : Int) : Pg := ⟨0, 3, lv, 0, [], [enBytes leastE [left], enBytes e [right]]⟩
def rootN (lv left : Int) (e : En) (right : Int) : Pg × Int := if rootOk lv left e right then (rootP lv left e right, 0) else (zeroP, 140)

theorem two_items (w : World) (x y : List UInt8) : ItemsC (w.alloc (.cells #[.string (str x), .string (str y)] 9)) (.slice (some ⟨w.heap.size, 0, none⟩) 2 2) [x, y] :=
  ⟨RowS.blk (Blk.new w 9 [.string (str x), .string (str y)]) 2 2 _ 0 (by intro j hj; rw [Nat.zero_add]; rfl), Nat.le_refl 2⟩

set_option maxRecDepth 100000 in
set_option maxHeartbeats 4000000 in
theorem root_any (lv left : Int) (e : En) (right : Int) (w_ : World) :
    Calls Tryz.prog 40 #[.int .i64 lv, .int .i64 left, enV e, .int .i64 right] w_ (PgPost (rootN lv left e right).1 (rootN lv left e right).2 w_) := by
  obtain ⟨k, p, s⟩ := e
  obtain ⟨w0, hw0⟩ : ∃ w0, w0 = ((w_.alloc (.cells #[.string (str k), .int .i64 p, .int .i64 s] 26)).alloc (.cells #[.int .i64 0, .int .i64 0, .int .i64 0, .int .i64 0, .string ⟨#[]⟩, .slice none 0 0] 24)) := ⟨_, rfl⟩
  have hg0 : Grow w_ w0 := by subst hw0; exact ((Grow.refl w_).alloc _).alloc _
  have hE0 : Blk w0 w_.heap.size 26 [.string (str k), .int .i64 p, .int .i64 s] := by
    have := (Blk.new w_ 26 [.string (str k), .int .i64 p, .int .i64 s]).alloc (.cells #[.int .i64 0, .int .i64 0, .int .i64 0, .int .i64 0, .string ⟨#[]⟩, .slice none 0 0] 24)
    subst hw0; exact this
  have hR0 : Blk w0 (w_.heap.size + 1) 24 [.int .i64 0, .int .i64 0, .int .i64 0, .int .i64 0, .string ⟨#[]⟩, .slice none 0 0] := by
    have := Blk.new (w_.alloc (.cells #[.string (str k), .int .i64 p, .int .i64 s] 26)) 24 [.int .i64 0, .int .i64 0, .int .i64 0, .int .i64 0, .string ⟨#[]⟩, .slice none 0 0]
    have e : (w_.alloc (.cells #[.string (str k), .int .i64 p, .int .i64 s] 26)).heap.size = w_.heap.size + 1 := by simp
    rw [e] at this
    subst hw0; exact this
  have hzR := hR0.lt
  have hie := fun u => isEntry_any (k, p, s) u
  have hi1 := fun u => within_any lv 1 255 u
  have hi2 := fun u => isChild_any left u
  have hi3 := fun u => isChild_any right u
  have hd : rootN lv left (k, p, s) right = if inB lv 1 255 && (enOk (k, p, s) && (inB left 1 65535 && inB right 1 65535)) then (⟨0, 3, lv, 0, [], [enBytes leastE [left], enBytes (k, p, s) [right]]⟩, 0) else (zeroP, 140) := rfl
  have hb1 := fun (u : World) (mv : Value) (hm : IntsS u mv [left]) (hl : inB left 1 65535 = true) => bytes_any leastE mv [left] u (by simp [enFine, leastE]) hm (by simp [inB] at hl ⊢; omega) (by simp)
  have hb2 := fun (u : World) (mv : Value) (he : enOk (k, p, s) = true) (hm : IntsS u mv [right]) (hl : inB right 1 65535 = true) => bytes_any (k, p, s) mv [right] u (enOk_fine he) hm (by simp [inB] at hl ⊢; omega) (by simp)
  unfold enV leastE at hb1
  unfold leastE at hd
  unfold enV at hie hb2
  dsimp only at hie hb1 hb2
  generalize hA1 : inB lv 1 255 = A1 at *
  generalize hA2 : enOk (k, p, s) = A2 at *
  generalize hA3 : inB left 1 65535 = A3 at *
  generalize hA4 : inB right 1 65535 = A4 at *
  generalize enBytes ([], 0, 0) [left] = Y1 at *
  generalize enBytes (k, p, s) [right] = Y2 at *
  have HIe := keep hie
  have HI1 := keep hi1
  have HI2 := keep hi2
  have HI3 := keep hi3
  have HD := keep hd
  have HY1 := keep hb1
  have HY2 := keep hb2
  have HE0 := keep hE0
  have HR0 := keep hR0
  have HG0 := keep hg0
  obtain ⟨e0, e1, e2, _⟩ := enres hE0
  clear hie hi1 hi2 hi3 hd hb1 hb2 hE0 hR0 hg0 hA1 hA2 hA3 hA4
  unfold enV
  go_enter Tryz.func40, Tryz.ntmps40
  go_upto_region 1 with fail
  rw [← hw0]
  clear hw0
  go_cut [27] from 10 to 27 (fun sv wx => sv = .bool (!(A1 && (A2 && (A3 && A4)))) ∧ Grow w0 wx)
  case first =>
    cases A1 with
    | false =>
      go_wp2_with fail
      refine (HI1.out w0).mono ?_
      rintro x w1 ⟨rfl, rfl⟩
      go_wp2_with fail
      all_goals go_meet
      all_goals (case rel => exact ⟨rfl, Grow.refl _⟩)
    | true =>
      go_wp2_with fail
      refine (HI1.out w0).mono ?_
      rintro x w1 ⟨rfl, rfl⟩
      go_wp2_with fail
      refine (HIe.out w0).mono ?_
      rintro x w1 ⟨rfl, hb1⟩
      cases A2 with
      | false =>
        go_wp2_with fail
        all_goals go_meet
        all_goals (case rel => exact ⟨rfl, hb1⟩)
      | true =>
        go_wp2_with fail
        refine (HI2.out w1).mono ?_
        rintro x w2 ⟨rfl, rfl⟩
        cases A3 with
        | false =>
          go_wp2_with fail
          all_goals go_meet
          all_goals (case rel => exact ⟨rfl, hb1⟩)
        | true =>
          go_wp2_with fail
          refine (HI3.out w1).mono ?_
          rintro x w2 ⟨rfl, rfl⟩
          go_wp2_with fail
          all_goals go_meet
          all_goals (case rel => exact ⟨rfl, hb1⟩)
  case rest =>
    obtain ⟨rfl, hg3⟩ := hcut
    clear e0 e1 e2
    generalize wc = w3 at *
    have HG3 := keep hg3
    have HGW := keep (Grow.trans HG0.out hg3)
    clear hg3
    have hd := HD.out
    generalize hM : (A1 && (A2 && (A3 && A4))) = M at *
    cases M with
    | false =>
      have HNo := keep (show rootN lv left (k, p, s) right = (zeroP, 140) from hd)
      clear hd hM
      have hR := HR0.out.fits HG3.out
      have Hset := keep (pgset hR (.int .i64 0) (.int .i64 0) (.int .i64 0) (.int .i64 0) (.string ⟨#[]⟩) (.slice none 0 0))
      have Hbut := keep (pgbut w3 (w_.heap.size + 1) (.int .i64 0) (.int .i64 0) (.int .i64 0) (.int .i64 0) (.string ⟨#[]⟩) (.slice none 0 0))
      have hlt2 := hR.lt
      obtain ⟨r0, r1, r2, r3, r4, r5, f0, f1, f2, f3, f4, f5⟩ := pgres hR
      clear hR
      go_wp2_with fail
      rw [HNo.out]
      refine bodyPost_ret (v := .tuple #[pgV zeroP (.slice none 0 0), .int .i64 140]) ?_ rfl ⟨_, rfl, ItemsC.nil _, But.below HGW.out Hbut.out (by omega) (by omega)⟩
      obtain ⟨s0, s1, s2, s3, s4, s5, _⟩ := pgres Hset.out
      simp [results, Tryz.results40, go_sem, s0, s1, s2, s3, s4, s5, pgV, zeroP]
      rfl
    | true =>
      have HYes := keep (show rootN lv left (k, p, s) right = (⟨0, 3, lv, 0, [], [Y1, Y2]⟩, 0) from hd)
      have hm : A1 = true ∧ A2 = true ∧ A3 = true ∧ A4 = true := by simpa [and_assoc] using hM
      obtain ⟨rfl, rfl, rfl, rfl⟩ := hm
      have HE7 := keep (fun (u : World) (hu : Grow w3.drew u) => Blk.fits (Blk.drew (HE0.out.fits HG3.out)) hu)
      have HR3 := keep (HR0.out.fits HG3.out)
      clear hd hM HD
      go_upto_region 3 with fail
      refine wp_region_grow_named (by kernel_rfl) 11 (by kernel_rfl) [(29, 0), (30, 1), (31, 2), (32, 3), (33, 4), (34, 5), (35, 6), (36, 7), (37, 8), (38, 9), (39, 10)] (by kernel_rfl) [(0, true), (1, true), (2, true), (3, true), (4, true), (5, true), (6, true), (7, true), (8, true), (9, true), (10, true)] (by kernel_rfl) rfl rfl ?_
      intro a0 ha0
      have hsz : a0.tmps.size = 40 := (size_at ha0).trans rfl
      have s0 := slot_at ha0 0 rfl
      have s1 := slot_at ha0 1 rfl
      have s3 := slot_at ha0 3 rfl
      have s6 := slot_at ha0 6 rfl
      have HA0 := keep ha0
      clear ha0
      -- operation 0
      apply lexf_eq hsz [] [(30, 1), (31, 2), (32, 3), (33, 4), (34, 5), (35, 6), (36, 7), (37, 8), (38, 9)] none (by kernel_rfl) (by kernel_rfl) (by kernel_rfl) (by kernel_rfl) rfl
      · intro xs w hw hp K hK
        go_simp
        exact hK _ (Grow.refl _)
      -- operation 1
      apply lexf_eq hsz [] [(29, 0), (31, 2), (32, 3), (34, 5), (35, 6), (36, 7), (37, 8), (38, 9), (39, 10)] none (by kernel_rfl) (by kernel_rfl) (by kernel_rfl) (by kernel_rfl) rfl
      · intro xs w hw hp K hK
        go_simp
        exact (least_any w).mono fun e w' h => ⟨_, h.1, hK _ h.2⟩
      -- operation 2
      apply lexf_eq hsz [] [(29, 0), (30, 1), (33, 4), (34, 5), (35, 6), (36, 7), (37, 8), (38, 9), (39, 10)] none (by kernel_rfl) (by kernel_rfl) (by kernel_rfl) (by kernel_rfl) rfl
      · intro xs w hw hp K hK
        go_simp
        exact hK _ (Grow.refl _)
      -- operation 3
      refine lexf_says hsz (fun v u => IntsS u v [left] ∧ ∃ a n c, v = .slice a n c) (fun _ _ _ g h => ⟨RowS.fits h.1 g, h.2⟩) [(2, true)] [(29, 0), (30, 1), (31, 2), (34, 5), (35, 6), (36, 7), (37, 8), (38, 9), (39, 10)] none (by kernel_rfl) (by kernel_rfl) (by kernel_rfl) (by kernel_rfl) rfl ?_ ?_
      · intro xs w hw hp K hK
        simp only [holdsL, List.nil_append, List.cons_append, List.getD_cons_succ, List.getD_cons_zero, if_true, and_true] at hp
        go_simp
        exact hK _ _ ⟨one_ints w left, _, _, _, rfl⟩ ((Grow.refl _).alloc _)
      -- operation 4
      apply lexf_eq hsz [(1, true), (3, true)] [(29, 0), (30, 1), (31, 2), (32, 3), (34, 5), (35, 6), (36, 7), (39, 10)] none (by kernel_rfl) (by kernel_rfl) (by kernel_rfl) (by kernel_rfl) rfl
      · intro xs w hw hp K hK
        simp only [holdsL, List.nil_append, List.cons_append, List.getD_cons_succ, List.getD_cons_zero, if_true, and_true] at hp
        obtain ⟨h1, h3, a3, n3, c3, h3e⟩ := hp
        rw [h3e] at h3
        unfold enV at h1
        go_simp
        exact (HY1.out w _ h3 rfl).mono fun e w' h => ⟨_, h.1, hK _ h.2⟩
      -- operation 5
      apply lexf_eq hsz [] [(29, 0), (30, 1), (31, 2), (32, 3), (33, 4), (35, 6), (36, 7), (38, 9), (39, 10)] none (by kernel_rfl) (by kernel_rfl) (by kernel_rfl) (by kernel_rfl) rfl
      · intro xs w hw hp K hK
        obtain ⟨e0, e1, e2, _⟩ := enres (HE7.out w hw)
        go_simp
        exact hK _ (Grow.refl _)
      -- operation 6
      apply lexf_eq hsz [] [(29, 0), (30, 1), (31, 2), (32, 3), (33, 4), (34, 5), (37, 8), (38, 9), (39, 10)] none (by kernel_rfl) (by kernel_rfl) (by kernel_rfl) (by kernel_rfl) rfl
      · intro xs w hw hp K hK
        go_simp
        exact hK _ (Grow.refl _)
      -- operation 7
      refine lexf_says hsz (fun v u => IntsS u v [right] ∧ ∃ a n c, v = .slice a n c) (fun _ _ _ g h => ⟨RowS.fits h.1 g, h.2⟩) [(6, true)] [(29, 0), (30, 1), (31, 2), (32, 3), (33, 4), (34, 5), (35, 6), (38, 9), (39, 10)] none (by kernel_rfl) (by kernel_rfl) (by kernel_rfl) (by kernel_rfl) rfl ?_ ?_
      · intro xs w hw hp K hK
        simp only [holdsL, List.nil_append, List.cons_append, List.getD_cons_succ, List.getD_cons_zero, if_true, and_true] at hp
        go_simp
        exact hK _ _ ⟨one_ints w right, _, _, _, rfl⟩ ((Grow.refl _).alloc _)
      -- operation 8
      apply lexf_eq hsz [(5, true), (7, true)] [(29, 0), (30, 1), (31, 2), (32, 3), (33, 4), (34, 5), (35, 6), (36, 7), (39, 10)] none (by kernel_rfl) (by kernel_rfl) (by kernel_rfl) (by kernel_rfl) rfl
      · intro xs w hw hp K hK
        simp only [holdsL, List.nil_append, List.cons_append, List.getD_cons_succ, List.getD_cons_zero, if_true, and_true] at hp
        obtain ⟨h5, h7, a3, n3, c3, h3e⟩ := hp
        rw [h3e] at h7
        go_simp
        exact (HY2.out w _ rfl h7 rfl).mono fun e w' h => ⟨_, h.1, hK _ h.2⟩
      -- operation 9
      refine lexf_says hsz (fun v u => ItemsC u v [Y1, Y2] ∧ ∃ a n c, v = .slice a n c) (fun _ _ _ g h => ⟨h.1.fits g, h.2⟩) [(4, true), (8, true)] [(29, 0), (30, 1), (31, 2), (32, 3), (33, 4), (34, 5), (35, 6), (36, 7), (37, 8)] none (by kernel_rfl) (by kernel_rfl) (by kernel_rfl) (by kernel_rfl) rfl ?_ ?_
      · intro xs w hw hp K hK
        simp only [holdsL, List.nil_append, List.cons_append, List.getD_cons_succ, List.getD_cons_zero, if_true, and_true] at hp
        go_simp
        exact hK _ _ ⟨two_items w Y1 Y2, _, _, _, rfl⟩ ((Grow.refl _).alloc _)
      -- operation 10
      refine lexf_says hsz (fun v u => ∃ a n c, v = .agg #[.int .i64 0, .int .i64 3, .int .i64 lv, .int .i64 0, .string ⟨#[]⟩, .slice a n c] ∧ ItemsC u (.slice a n c) [Y1, Y2]) (fun _ _ _ g ⟨a, n, c, h1, h2⟩ => ⟨a, n, c, h1, h2.fits g⟩) [(0, true), (9, true)] [(29, 0), (30, 1), (31, 2), (32, 3), (33, 4), (34, 5), (35, 6), (36, 7), (37, 8), (38, 9)] none (by kernel_rfl) (by kernel_rfl) (by kernel_rfl) (by kernel_rfl) rfl ?_ ?_
      · intro xs w hw hp K hK
        simp only [holdsL, List.nil_append, List.cons_append, List.getD_cons_succ, List.getD_cons_zero, if_true, and_true] at hp
        obtain ⟨h0, h9, a3, n3, c3, h3e⟩ := hp
        rw [h3e] at h9
        go_simp
        exact hK _ _ ⟨_, _, _, rfl, h9⟩ (Grow.refl _)
      intro xs w hw hp
      have ha0 := HA0.out
      clear HA0 hsz s0 s1 s3 s6
      simp only [holdsL, List.nil_append, List.cons_append, List.getD_cons_succ, List.getD_cons_zero, if_true, and_true] at hp
      have h9 := hp.2.2.2.2.2.2.2.2.2.2
      clear hp
      subst ha0
      simp only [putAll]
      obtain ⟨qa, qn, qc, h9, hit⟩ := h9
      simp only [h9]
      have hgw := hw.undrew
      have hR := HR3.out.fits hgw
      have hbb : Below w_.heap.size w_ w := Grow.trans HGW.out hgw
      obtain ⟨r0, r1, r2, r3, r4, r5, f0, f1, f2, f3, f4, f5⟩ := pgres hR
      have Hset := keep (pgset hR (.int .i64 0) (.int .i64 3) (.int .i64 lv) (.int .i64 0) (.string ⟨#[]⟩) (.slice qa qn qc))
      have Hbut := keep (pgbut w (w_.heap.size + 1) (.int .i64 0) (.int .i64 3) (.int .i64 lv) (.int .i64 0) (.string ⟨#[]⟩) (.slice qa qn qc))
      have Hit := keep hit
      have HR := keep hR
      have Hbb := keep hbb
      have hlt2 := hR.lt
      clear hw h9 hit hR hbb hgw
      go_wp2_with fail
      rw [HYes.out]
      refine bodyPost_ret (v := .tuple #[pgV ⟨0, 3, lv, 0, [], [Y1, Y2]⟩ (.slice qa qn qc), .int .i64 0]) ?_ rfl ⟨_, rfl, itemsC_but Hit.out Hbut.out HR.out (by decide), But.below Hbb.out Hbut.out (by omega) (by omega)⟩
      obtain ⟨s0, s1, s2, s3, s4, s5, _⟩ := pgres Hset.out
      simp [results, Tryz.results40, go_sem, s0, s1, s2, s3, s4, s5, pgV]
      rfl

end Go.Proofs.YtigbgodbalpgdaaGreat
