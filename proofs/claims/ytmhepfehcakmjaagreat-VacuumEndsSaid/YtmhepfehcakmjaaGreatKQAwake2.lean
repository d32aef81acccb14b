import Derived.Test.YtmhepfehcakmjaaGreatKQView2
import Derived.Test.YtmhepfehcakmjaaGreatKQPage1
import Derived.Test.YtmhepfehcakmjaaGreatKQSame2
namespace Go.Proofs.YtmhepfehcakmjaaGreat.Vac
open Go.RowKit
theorem setS_two (m : Int) (p : Pg) (x : Int) (s : Nat) : (setS m p x s).1.items.length ≤ 2 := by
 unfold setS; split
 ·split
  ·simp [madeP]
  ·simp [noPg]
 ·simp [noPg]
theorem blankS_two (m fr : Int) : (blankS m fr).1.items.length ≤ 2 := by
 unfold blankS; split
 ·simp [madeP]
 ·simp [noPg]
theorem viewK_two (m : Int) (P : Pg) (l : List (Int × Nat)) (hP : P.items.length ≤ 2) (k : Nat) : (viewK m P l k).items.length ≤ 2 := by
 induction k with
 | zero => exact hP
 | succ k ih =>
  rw [viewK]
  split
  ·exact setS_two _ _ _ _
  ·exact ih
theorem viewS_in {w_ w' : World} {m fr : Int} {l : List (Int × Nat)} {v : Vw} {av rv iv iv' : Value} (h : VwIn w_ v av rv iv) (hb : Below w_.heap.size w_ w') (hi : Items w' iv' (viewS m fr l v).1.clog.items) : VwIn w' (viewS m fr l v).1 av rv iv' := by
 unfold viewS at *
 split
 ·rename_i hok
  rw [if_pos hok] at hi
  have h2 := viewK_two m (blankS m fr).1 l (blankS_two m fr) l.length
  exact ⟨h.act.fits hb, h.run.fits hb, hi, h.actl, h.runl, by dsimp only; omega, viewK_fine m _ l (blankS_fine m fr) l.length⟩
 ·rename_i hok
  rw [if_neg hok] at hi
  exact ⟨h.act.fits hb, h.run.fits hb, hi, h.actl, h.runl, h.itemsl, h.texts⟩
theorem viewS_next (m fr : Int) (l : List (Int × Nat)) (v : Vw) : (viewS m fr l v).1.next = v.next := by unfold viewS; split <;> rfl
theorem fits_len {k : List UInt8} (h : fitsB (str k) = true) : k.length ≤ 24 := by
 unfold fitsB at h
 rw [Bool.and_eq_true, decide_eq_true_eq, decide_eq_true_eq, str_size] at h
 exact h.2
theorem tup_len {a b : Int} {k v : List UInt8} (h : tupOk a b (str k) (str v) = true) : k.length ≤ 24 ∧ v.length ≤ 64 := by
 unfold tupOk at h
 rw [Bool.and_eq_true, Bool.and_eq_true, decide_eq_true_eq, str_size] at h
 exact ⟨fits_len h.1.2, h.2⟩
theorem slotS_fine (x : Sl) (h : (x.raw.length : Int) ≤ 9223372036854775807) : ((slotS x).length : Int) ≤ 9223372036854775807 := by
 have hd : ((deadSS x.key).1.length : Int) ≤ 9223372036854775807 := by
  unfold deadSS; split
  ·rename_i hf
   have hk := fits_len hf
   have h1 := sev_length 4
   have h2 := sev_length x.key.length
   simp [deadS, txt]; omega
  ·simp
 have he : ((encS x).1.length : Int) ≤ 9223372036854775807 := by
  unfold encS; split
  ·rename_i hf
   have hk := tup_len hf
   have h2 := sev_length x.key.length
   have h3 := sev_length x.val.length
   simp [tupS, txt, bigS_length]; omega
  ·simp
 unfold slotS
 split
 ·simp
 ·split
  ·exact hd
  ·split
   ·split
    ·exact he
    ·exact h
   ·exact h
theorem pageS_fine (l : List Sl) (h : ∀ x ∈ l, (x.raw.length : Int) ≤ 9223372036854775807) : ∀ y ∈ (pageS l).items, (y.length : Int) ≤ 9223372036854775807 := by
 intro y hy
 simp only [pageS, pageOf, List.mem_map] at hy
 obtain ⟨x, hx, rfl⟩ := hy
 exact slotS_fine x (h x hx)
theorem pageS_len (l : List Sl) : (pageS l).items.length = l.length := by simp [pageS, pageOf]
theorem sortS_len (v : Vw) (h pg : Int) (p : Pg) : (sortS v h pg p).fr.length ≤ p.items.length ∧ (sortS v h pg p).off.length ≤ p.items.length ∧ (sortS v h pg p).gone.length ≤ p.items.length := by
 unfold sortS; split
 ·exact sortK_len v h pg p.items _
 ·simp
theorem sort_in {w' : World} {v : Vw} {h pg : Int} {p : Pg} {fv ov gv : Value} (hl : (p.items.length : Int) ≤ 1759218604441) (h1 : Ints w' fv (sortS v h pg p).fr) (h2 : Ints w' ov (sortS v h pg p).off) (h3 : Row w' 102 gv (sortS v h pg p).gone.length (gCells (sortS v h pg p).gone)) : WkIn w' (sortS v h pg p) fv ov gv := by
 obtain ⟨a, b, c⟩ := sortS_len v h pg p
 exact ⟨h1, h2, h3, by omega, by omega, by omega⟩
structure Law (pg : Int) (items : List (List UInt8)) (n : Nat) (W : Wk) : Prop where
 goneUp : (W.gone.map fun g => g.2.2).Pairwise (· < ·)
 goneOk : ∀ g ∈ W.gone, ∃ j : Nat, j < n ∧ g = ((keyS (items.getD j [])).1, pg, (j : Int)) ∧ (keyS (items.getD j [])).2 = true
 frUp : W.fr.Pairwise (· < ·)
 frOk : ∀ f ∈ W.fr, ∃ j : Nat, j < n ∧ f = (j : Int) ∧ stateS (items.getD j []) = 3
 offOk : ∀ f ∈ W.off, ∃ j : Nat, j < n ∧ f = (j : Int)
 apartF : ∀ g ∈ W.gone, g.2.2 ∉ W.fr
 apartO : ∀ g ∈ W.gone, g.2.2 ∉ W.off
end Go.Proofs.YtmhepfehcakmjaaGreat.Vac
namespace Go.Proofs.YtmhepfehcakmjaaGreat.Vac
open Go.RowKit
def saidA : List (Int × Nat) := [(1, 2), (2, 3), (3, 2)]
def vwA : Vw := ⟨0, 4, [3], 0, [4], noPg⟩
def slotsA : List Sl := [⟨2, 1, 0, false, [97], [], []⟩, ⟨2, 2, 0, false, [98], [], []⟩, sl0, ⟨1, 0, 0, false, [107], [], []⟩, ⟨2, 1, 2, false, [99], [], []⟩]
def wantA : Wk := ⟨[0, 4], [4], [([98], 7, 1), ([107], 7, 3)]⟩
theorem awake_view : (viewS 16 1 saidA vwA).2 = true := by kernel_rfl
theorem awake_sort : sameW (sortS (viewS 16 1 saidA vwA).1 4 7 (pageS slotsA)) wantA = true := by kernel_rfl
end Go.Proofs.YtmhepfehcakmjaaGreat.Vac
namespace Go.Proofs.YtmhepfehcakmjaaGreat.Vac
open Go.RowKit
theorem row_new (w : World) (t : TypeId) (cs : List Value) (n cap : Nat) : Row (w.alloc (.cells cs.toArray t)) t (.slice (some ⟨w.heap.size, 0, none⟩) n cap) n cs :=
 Row.blk (Blk.new w t cs) n cap cs 0 (by intro j _; rw [Nat.zero_add])
set_option maxRecDepth 100000 in
set_option maxHeartbeats 2000000 in
theorem awakeV_any (w : World) : Calls Tryz.prog 18 #[] w fun e w' => e = .returned (.bool true) ∧ Below w.heap.size w w' := by
 go_enter Tryz.func18, Tryz.ntmps18
 go_wp2_with fail
 obtain ⟨w0, hw0⟩ : ∃ w0, w0 = ((w.alloc (.cells #[.int .i64 1, .int .u8 2, .int .i64 2, .int .u8 3, .int .i64 3, .int .u8 2] 98)).alloc (.cells #[.int .i64 3] 3)).alloc (.cells #[.int .i64 4] 3) := ⟨_, rfl⟩
 rw [← hw0]
 have hg0 : Grow w w0 := by subst hw0; exact (((Grow.refl w).alloc _).alloc _).alloc _
 have hS : Row w0 98 (.slice (some ⟨w.heap.size, 0, none⟩) 3 3) 3 (saidCells saidA) := by
  subst hw0; exact Row.fits (Row.fits (row_new w _ (saidCells saidA) 3 3) ((Grow.refl _).alloc _)) ((Grow.refl _).alloc _)
 have hA : Ints w0 (.slice (some ⟨w.heap.size + 1, 0, none⟩) 1 1) [3] := by
  have h1 := row_new (w.alloc (.cells #[.int .i64 1, .int .u8 2, .int .i64 2, .int .u8 3, .int .i64 3, .int .u8 2] 98)) 3 (iCells [3]) 1 1
  have e : (w.alloc (.cells #[.int .i64 1, .int .u8 2, .int .i64 2, .int .u8 3, .int .i64 3, .int .u8 2] 98)).heap.size = w.heap.size + 1 := by simp
  rw [e] at h1
  subst hw0; exact Row.fits h1 ((Grow.refl _).alloc _)
 have hR : Ints w0 (.slice (some ⟨w.heap.size + 1 + 1, 0, none⟩) 1 1) [4] := by
  have h1 := row_new ((w.alloc (.cells #[.int .i64 1, .int .u8 2, .int .i64 2, .int .u8 3, .int .i64 3, .int .u8 2] 98)).alloc (.cells #[.int .i64 3] 3)) 3 (iCells [4]) 1 1
  have e : ((w.alloc (.cells #[.int .i64 1, .int .u8 2, .int .i64 2, .int .u8 3, .int .i64 3, .int .u8 2] 98)).alloc (.cells #[.int .i64 3] 3)).heap.size = w.heap.size + 1 + 1 := by simp
  rw [e] at h1
  subst hw0; exact h1
 have hv0 : VwIn w0 vwA (.slice (some ⟨w.heap.size + 1, 0, none⟩) 1 1) (.slice (some ⟨w.heap.size + 1 + 1, 0, none⟩) 1 1) (.slice none 0 0) :=
  ⟨hA, hR, Row.nil _ _ _ _, by decide, by decide, by decide, by decide⟩
 refine (view_any 16 1 _ saidA vwA _ _ _ _ hS (by decide) (by decide) hv0).mono ?_
 rintro e w1 ⟨iv1, rfl, hi1, hb1⟩
 rw [awake_view]
 have hv1 := viewS_in hv0 hb1 hi1
 have hso := awake_sort
 generalize (viewS 16 1 saidA vwA).1 = V at *
 obtain ⟨ia1, ic1, rfl⟩ := items_form hi1
 obtain ⟨aa1, ac1, hae, _⟩ := ints_form hv1.act
 obtain ⟨ra1, rc1, hre, _⟩ := ints_form hv1.run
 have hg1 := Grow.trans hg0 hb1
 rw [hae, hre] at hv1 ⊢
 clear hw0 hS hA hR hv0 hi1 hb1 hg0 hae hre
 unfold vwV
 go_upto_region 4 with fail
 obtain ⟨w2, hw2⟩ : ∃ w2, w2 = w1.alloc (.cells (vwCells V (.slice aa1 V.active.length ac1) (.slice ra1 V.running.length rc1) (.slice ia1 V.clog.items.length ic1)).toArray 65) := ⟨_, rfl⟩
 have hga : Grow w1 w2 := by subst hw2; exact (Grow.refl _).alloc _
 have hV2 : Blk w2 w1.heap.size 65 (vwCells V (.slice aa1 V.active.length ac1) (.slice ra1 V.running.length rc1) (.slice ia1 V.clog.items.length ic1)) := by subst hw2; exact Blk.new _ _ _
 have hv2 := hv1.fits hga
 have hg2 := Grow.trans hg1 hga
 unfold vwCells at hw2
 rw [← hw2]
 clear hw2 hga hv1 hg1
 go_wp2_with fail
 have hgb : Grow w2 (w2.alloc (.cells (slCells slotsA).toArray 100)) := (Grow.refl _).alloc _
 refine (page_any _ slotsA _ (row_new w2 100 (slCells slotsA) 5 5) (by decide)).mono ?_
 rintro e w3 ⟨iv3, rfl, hi3, hb3⟩
 have hpl := keep (pageS_len slotsA)
 have hpf := keep (pageS_fine slotsA (by decide))
 generalize pageS slotsA = P at *
 obtain ⟨ia3, ic3, rfl⟩ := items_form hi3
 have hgc := Grow.trans hgb hb3
 have hV3 := hV2.fits hgc
 have hv3 := hv2.fits hgc
 have hg3 := Grow.trans hg2 hgc
 clear hV2 hv2 hg2 hgb hb3 hgc
 unfold pgV
 go_upto_region 5 with fail
 obtain ⟨w4, hw4⟩ : ∃ w4, w4 = w3.alloc (.cells (pgCells P (.slice ia3 P.items.length ic3)).toArray 24) := ⟨_, rfl⟩
 have hga : Grow w3 w4 := by subst hw4; exact (Grow.refl _).alloc _
 have hP4 : Blk w4 w3.heap.size 24 (pgCells P (.slice ia3 P.items.length ic3)) := by subst hw4; exact Blk.new _ _ _
 have hV4 := hV3.fits hga
 have hv4 := hv3.fits hga
 have hg4 := Grow.trans hg3 hga
 have hi4 := Row.fits hi3 hga
 unfold pgCells at hw4
 rw [← hw4]
 clear hw4 hga hv3 hV3 hg3 hi3
 unfold vwCells at hV4
 unfold pgCells at hP4
 obtain ⟨c0, c1, c2, c3, c4, c5, c6, c7, c8, c9, c10⟩ := vwres hV4
 obtain ⟨p0, p1, p2, p3, p4, p5, _⟩ := pgres hP4
 go_wp2_with fail
 refine (sort_any V _ _ _ 4 7 P _ _ hv4 hi4 (by rw [hpl.out]; decide) hpf.out).mono ?_
 rintro e w5 ⟨fv, ov, gv, rfl, h1, h2, h3, hb5⟩
 have hk5 := sort_in (by rw [hpl.out]; decide) h1 h2 h3
 generalize sortS V 4 7 P = K at *
 obtain ⟨fa, fc, rfl, _⟩ := ints_form h1
 obtain ⟨oa, oc, rfl, _⟩ := ints_form h2
 obtain ⟨ga, gc, rfl, _⟩ := gone_get h3
 have hg5 := Grow.trans hg4 hb5
 clear h1 h2 h3 hv4 hi4 hV4 hP4 hg4 hb5 c0 c1 c2 c3 c4 c5 c6 c7 c8 c9 c10 p0 p1 p2 p3 p4 p5 hpl hpf
 go_upto_region 6 with fail
 obtain ⟨w6, hw6⟩ : ∃ w6, w6 = w5.alloc (.cells #[.slice fa K.fr.length fc, .slice oa K.off.length oc, .slice ga K.gone.length gc] 72) := ⟨_, rfl⟩
 have hga : Grow w5 w6 := by subst hw6; exact (Grow.refl _).alloc _
 have hW6 : Blk w6 w5.heap.size 72 [.slice fa K.fr.length fc, .slice oa K.off.length oc, .slice ga K.gone.length gc] := by subst hw6; exact Blk.new _ _ [_, _, _]
 have hk6 := hk5.fits hga
 have hg6 := Grow.trans hg5 hga
 rw [← hw6]
 clear hw6 hga hk5 hg5
 obtain ⟨y0, y1, y2, _⟩ := wkres hW6
 go_wp2_with fail
 obtain ⟨w7, hw7⟩ : ∃ w7, w7 = ((w6.alloc (.cells #[.int .i64 0, .int .i64 4] 3)).alloc (.cells #[.int .i64 4] 3)).alloc (.cells #[.string ⟨#[98]⟩, .int .i64 7, .int .i64 1, .string ⟨#[107]⟩, .int .i64 7, .int .i64 3] 102) := ⟨_, rfl⟩
 rw [← hw7]
 have hg7 : Grow w6 w7 := by subst hw7; exact (((Grow.refl w6).alloc _).alloc _).alloc _
 have hF : Ints w7 (.slice (some ⟨w6.heap.size, 0, none⟩) 2 2) [0, 4] := by
  subst hw7; exact Row.fits (Row.fits (row_new w6 _ (iCells [0, 4]) 2 2) ((Grow.refl _).alloc _)) ((Grow.refl _).alloc _)
 have hO : Ints w7 (.slice (some ⟨w6.heap.size + 1, 0, none⟩) 1 1) [4] := by
  have h1 := row_new (w6.alloc (.cells #[.int .i64 0, .int .i64 4] 3)) 3 (iCells [4]) 1 1
  have e : (w6.alloc (.cells #[.int .i64 0, .int .i64 4] 3)).heap.size = w6.heap.size + 1 := by simp
  rw [e] at h1
  subst hw7; exact Row.fits h1 ((Grow.refl _).alloc _)
 have hG : Row w7 102 (.slice (some ⟨w6.heap.size + 1 + 1, 0, none⟩) 2 2) 2 (gCells wantA.gone) := by
  have h1 := row_new ((w6.alloc (.cells #[.int .i64 0, .int .i64 4] 3)).alloc (.cells #[.int .i64 4] 3)) 102 (gCells wantA.gone) 2 2
  have e : ((w6.alloc (.cells #[.int .i64 0, .int .i64 4] 3)).alloc (.cells #[.int .i64 4] 3)).heap.size = w6.heap.size + 1 + 1 := by simp
  rw [e] at h1
  subst hw7; exact h1
 have hk7 := hk6.fits hg7
 refine (same_any K wantA _ _ _ _ _ _ w7 hk7 ⟨hF, hO, hG, by decide, by decide, by decide⟩).mono ?_
 rintro e w8 ⟨rfl, hb8⟩
 rw [hso]
 have hg8 := Grow.trans (Grow.trans hg6 hg7) hb8
 clear hw7 hF hO hG hk7 hk6 hW6
 go_wp2_with fail
 go_ret
 exact ⟨rfl, hg8⟩
end Go.Proofs.YtmhepfehcakmjaaGreat.Vac
