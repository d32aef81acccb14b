import Derived.Test.YtigbgodbalpgdaaKRu4
import Derived.Test.YtigbgodbalpgdaaKRk4
import Derived.Test.YtigbgodbalpgdaaKAw1
import Derived.Test.YtigbgodbalpgdaaKSm1
import Derived.Test.YtigbgodbalpgdaaKEn1
/- almonrylaw14.NodeReads. -/
namespace Go.Proofs.Ytigbgodbalpgdaa
open Go.RowKit
attribute [local go_sem] givesF_none givesF_some evalF_tmp evalF_const evalF_global evalF_func lookL isB_bool isB_undef givesUpon_value givesUpon_skip givesUpon_enter

def entL (P : Pg) : List En := if entriesOk P then ensN P else []
def entC (P : Pg) : Int := if entriesOk P then 0 else 140
def kidL (P : Pg) : List En := if kidsOk P then ensN P else []
def kidQ (P : Pg) : List Int := if kidsOk P then kidsN P else []
def kidC (P : Pg) : Int := if kidsOk P then 0 else 140
theorem ent_uni {P : Pg} {w w' : World} {x : Ending} (h : EntPost P w x w') : ∃ a c, x = .returned (.tuple #[.slice a (entL P).length c, .int .i64 (entC P)]) ∧ EnsS w' (.slice a (entL P).length c) (entL P) ∧ Below w.heap.size w w' := by
  unfold EntPost at h
  unfold entL entC
  obtain ⟨h1, h2⟩ := h
  cases hE : entriesOk P with
  | false =>
    rw [hE, if_neg (by decide)] at h1
    exact ⟨none, 0, h1, .inl ⟨rfl, rfl, _, _, rfl⟩, h2⟩
  | true =>
    rw [hE, if_pos rfl] at h1
    obtain ⟨a, c, h3, h4⟩ := h1
    exact ⟨a, c, h3, h4, h2⟩
theorem kid_uni {P : Pg} {w w' : World} {x : Ending} (h : KidsPost P w x w') : ∃ a c a2 c2, x = .returned (.tuple #[.slice a (kidL P).length c, .slice a2 (kidQ P).length c2, .int .i64 (kidC P)]) ∧ EnsS w' (.slice a (kidL P).length c) (kidL P) ∧ IntsS w' (.slice a2 (kidQ P).length c2) (kidQ P) ∧ Below w.heap.size w w' := by
  unfold KidsPost at h
  unfold kidL kidQ kidC
  obtain ⟨h1, h2⟩ := h
  cases hE : kidsOk P with
  | false =>
    rw [hE, if_neg (by decide)] at h1
    exact ⟨none, 0, none, 0, h1, .inl ⟨rfl, rfl, _, _, rfl⟩, .inl ⟨rfl, rfl, _, _, rfl⟩, h2⟩
  | true =>
    rw [hE, if_pos rfl] at h1
    obtain ⟨a, c, a2, c2, h3, h4, h5⟩ := h1
    exact ⟨a, c, a2, c2, h3, h4, h5, h2⟩
theorem entL_len (P : Pg) : (entL P).length ≤ 255 := by
  unfold entL
  split
  · rename_i h
    unfold entriesOk at h
    rw [Bool.and_eq_true] at h
    rw [ensN_length]
    exact (open_fine h.1).1
  · simp
theorem kidL_len (P : Pg) : (kidL P).length ≤ 255 ∧ (kidQ P).length ≤ 255 := by
  unfold kidL kidQ
  cases hE : kidsOk P with
  | false => simp
  | true =>
    simp only [if_true]
    unfold kidsOk at hE
    have h2 : openOk P = true ∧ P.level ≠ 0 := by simpa using hE
    rw [ensN_length, kidsN_length h2.2]
    exact ⟨(open_fine h2.1).1, (open_fine h2.1).1⟩
theorem root_len (lv left : Int) (e : En) (right : Int) : (rootN lv left e right).1.items.length ≤ 2 := by
  unfold rootN
  split <;> simp [rootP, zeroP]

set_option maxRecDepth 100000 in
set_option maxHeartbeats 4000000 in
theorem reads_any (P : Pg) (iv : Value) (e : En) (child : Int) (w_ : World) (hin : PgIn w_ iv P) :
    Calls Try.prog 6 #[pgV P iv, enV e, .int .i64 child] w_ fun x w' => x = .returned (.bool true) ∧ Below w_.heap.size w_ w' := by
  have hck := fun (u : World) (hu : Grow w_ u) => check_node P iv u (hin.fits hu)
  have hrc := fun (u : World) (hu : Grow w_ u) => rcheck_any P iv u (hin.fits hu)
  have hen := fun (u : World) (hu : Grow w_ u) => (entries_node P iv u (hin.fits hu)).mono fun x w' h => ent_uni h
  have hre := fun (u : World) (hu : Grow w_ u) => (rentries_any P iv u (hin.fits hu)).mono fun x w' h => ent_uni h
  have hki := fun (u : World) (hu : Grow w_ u) => (kids_node P iv u (hin.fits hu)).mono fun x w' h => kid_uni h
  have hrk := fun (u : World) (hu : Grow w_ u) => (rkids_any P iv u (hin.fits hu)).mono fun x w' h => kid_uni h
  have hbe := fun (u : World) (hu : Grow w_ u) => beyond_node P iv e u (hin.fits hu)
  have hrb := fun (u : World) (hu : Grow w_ u) => rbeyond_any P iv e u (hin.fits hu)
  have hch := fun (u : World) (hu : Grow w_ u) => child_node P iv e u (hin.fits hu)
  have hrh := fun (u : World) (hu : Grow w_ u) => rchild_node P iv e u (hin.fits hu)
  have hro := fun (u : World) (_ : Grow w_ u) => root_any P.level child e e.2.1 u
  have hrr := fun (u : World) (_ : Grow w_ u) => rroot_any P.level child e e.2.1 u
  have hl1 := entL_len P
  have hl2 := kidL_len P
  have hl3 := root_len P.level child e e.2.1
  obtain ⟨ia, ic, rfl⟩ := items_form hin.1
  unfold ChkPost at hck hrc
  unfold PgPost at hro hrr
  generalize entL P = L1 at *
  generalize entC P = C1 at *
  generalize kidL P = L2 at *
  generalize kidQ P = Q2 at *
  generalize kidC P = C2 at *
  generalize beyondN P e = B at *
  generalize childN P e = H at *
  generalize rootN P.level child e e.2.1 = R at *
  generalize (if openOk P then (0 : Int) else 140) = C0 at *
  obtain ⟨k, p, s⟩ := e
  obtain ⟨b1, b2⟩ := B
  obtain ⟨h1, h2⟩ := H
  obtain ⟨Q, rc⟩ := R
  dsimp only at hbe hrb hch hrh hro hrr hl3
  obtain ⟨w0, hw0⟩ : ∃ w0, w0 = ((w_.alloc (.cells (pgCells P (.slice ia P.items.length ic)).toArray 39)).alloc (.cells #[.string (str k), .int .i64 p, .int .i64 s] 23)) := ⟨_, rfl⟩
  have hgz : Grow w_ w0 := by subst hw0; exact ((Grow.refl w_).alloc _).alloc _
  have hB0 : Blk w0 w_.heap.size 39 (pgCells P (.slice ia P.items.length ic)) := by
    have := (Blk.new w_ 39 (pgCells P (.slice ia P.items.length ic))).alloc (.cells #[.string (str k), .int .i64 p, .int .i64 s] 23)
    subst hw0; exact this
  have hE0 : Blk w0 (w_.heap.size + 1) 23 [.string (str k), .int .i64 p, .int .i64 s] := by
    have := Blk.new (w_.alloc (.cells (pgCells P (.slice ia P.items.length ic)).toArray 39)) 23 [.string (str k), .int .i64 p, .int .i64 s]
    have e : (w_.alloc (.cells (pgCells P (.slice ia P.items.length ic)).toArray 39)).heap.size = w_.heap.size + 1 := by simp
    rw [e] at this
    subst hw0; exact this
  unfold pgV at hck hrc hen hre hki hrk hbe hrb hch hrh
  unfold enV at hbe hrb hch hrh hro hrr
  dsimp only at hbe hrb hch hrh hro hrr
  unfold pgCells at hw0 hB0
  have HCk := keep hck
  have HRc := keep hrc
  have HEn := keep hen
  have HRe := keep hre
  have HKi := keep hki
  have HRk := keep hrk
  have HBe := keep hbe
  have HRb := keep hrb
  have HCh := keep hch
  have HRh := keep hrh
  have HRo := keep hro
  have HRr := keep hrr
  have HB0 := keep hB0
  have HE0 := keep hE0
  have HG0 := keep hgz
  have HP := keep (fun (u : World) (hu : Grow w0.drew u) => pgres (hB0.fits (Grow.undrew hu)))
  have HL2 := keep hl2
  clear hck hrc hen hre hki hrk hbe hrb hch hrh hro hrr hB0 hE0 hgz hin hl2
  unfold pgV enV
  go_enter Try.func6, Try.ntmps6
  go_upto_region 1 with fail
  rw [← hw0]
  clear hw0
  refine wp_region_grow_named (by kernel_rfl) 4 (by kernel_rfl) [(29, 0), (30, 1), (31, 2), (32, 3)] (by kernel_rfl) [(0, true), (1, true), (2, true), (3, true)] (by kernel_rfl) rfl rfl ?_
  intro a0 ha0
  have hsz : a0.tmps.size = 157 := (size_at ha0).trans rfl
  have s3 := slot_at ha0 3 rfl
  have HA0 := keep ha0
  clear ha0
  -- operation 0
  apply lexf_eq hsz [] [(31, 2), (32, 3), (33, 4)] none (by kernel_rfl) (by kernel_rfl) (by kernel_rfl) (by kernel_rfl) rfl
  · intro xs w hw hp K hK
    obtain ⟨p0, p1, p2, p3, p4, p5, _⟩ := HP.out w hw
    go_simp
    exact hK _ (Grow.refl _)
  -- operation 1
  apply lexf_eq hsz [(0, true)] [(29, 0), (31, 2)] none (by kernel_rfl) (by kernel_rfl) (by kernel_rfl) (by kernel_rfl) rfl
  · intro xs w hw hp K hK
    simp only [holdsL, List.nil_append, List.cons_append, List.getD_cons_succ, List.getD_cons_zero, if_true, and_true] at hp
    go_simp
    exact (HCk.out w (Grow.trans HG0.out (Grow.undrew hw))).mono fun e w' h => ⟨_, h.1, hK _ h.2⟩
  -- operation 2
  apply lexf_eq hsz [] [(29, 0), (30, 1), (33, 4)] none (by kernel_rfl) (by kernel_rfl) (by kernel_rfl) (by kernel_rfl) rfl
  · intro xs w hw hp K hK
    obtain ⟨p0, p1, p2, p3, p4, p5, _⟩ := HP.out w hw
    go_simp
    exact hK _ (Grow.refl _)
  -- operation 3
  apply lexf_eq hsz [(2, true)] [(29, 0), (30, 1), (31, 2)] none (by kernel_rfl) (by kernel_rfl) (by kernel_rfl) (by kernel_rfl) rfl
  · intro xs w hw hp K hK
    simp only [holdsL, List.nil_append, List.cons_append, List.getD_cons_succ, List.getD_cons_zero, if_true, and_true] at hp
    go_simp
    exact (HRc.out w (Grow.trans HG0.out (Grow.undrew hw))).mono fun e w' h => ⟨_, h.1, hK _ h.2⟩
  intro xs w hw hp
  have ha0 := HA0.out
  clear HA0 hsz s3
  simp only [holdsL, List.nil_append, List.cons_append, List.getD_cons_succ, List.getD_cons_zero, if_true, and_true] at hp
  have h1_ := hp.2.1
  have h3_ := hp.2.2.2
  clear hp
  subst ha0
  simp only [putAll, h1_, h3_]
  obtain ⟨w1, hw1⟩ : ∃ w1, w1 = w := ⟨_, rfl⟩
  rw [← hw1] at hw ⊢
  have hg1 := Grow.undrew hw
  clear hw1 hw h1_ h3_ HP HCk HRc
  obtain ⟨p0, p1, p2, p3, p4, p5, _⟩ := pgres (HB0.out.fits hg1)
  obtain ⟨c0, c1, c2, _⟩ := enres (HE0.out.fits hg1)
  go_wp2_with fail
  refine (HEn.out w1 (Grow.trans HG0.out hg1)).mono ?_
  rintro x w2 ⟨ea, ec, rfl, hea, hb2⟩
  have hg2 := Grow.trans hg1 hb2
  clear p0 p1 p2 p3 p4 p5 c0 c1 c2
  obtain ⟨p0, p1, p2, p3, p4, p5, _⟩ := pgres (HB0.out.fits hg2)
  obtain ⟨c0, c1, c2, _⟩ := enres (HE0.out.fits hg2)
  go_wp2_with fail
  refine (HRe.out w2 (Grow.trans HG0.out hg2)).mono ?_
  rintro x w3 ⟨fa, fc, rfl, hfa, hb3⟩
  have hg3 := Grow.trans hg2 hb3
  clear p0 p1 p2 p3 p4 p5 c0 c1 c2
  obtain ⟨p0, p1, p2, p3, p4, p5, _⟩ := pgres (HB0.out.fits hg3)
  obtain ⟨c0, c1, c2, _⟩ := enres (HE0.out.fits hg3)
  go_wp2_with fail
  refine (HKi.out w3 (Grow.trans HG0.out hg3)).mono ?_
  rintro x w4 ⟨ga, gc, g2, gd, rfl, hga, hgk, hb4⟩
  have hg4 := Grow.trans hg3 hb4
  clear p0 p1 p2 p3 p4 p5 c0 c1 c2
  obtain ⟨p0, p1, p2, p3, p4, p5, _⟩ := pgres (HB0.out.fits hg4)
  obtain ⟨c0, c1, c2, _⟩ := enres (HE0.out.fits hg4)
  go_wp2_with fail
  refine (HRk.out w4 (Grow.trans HG0.out hg4)).mono ?_
  rintro x w5 ⟨ha, hc, h2_, hd, rfl, hha, hhk, hb5⟩
  have hg5 := Grow.trans hg4 hb5
  clear p0 p1 p2 p3 p4 p5 c0 c1 c2
  obtain ⟨p0, p1, p2, p3, p4, p5, _⟩ := pgres (HB0.out.fits hg5)
  obtain ⟨c0, c1, c2, _⟩ := enres (HE0.out.fits hg5)
  have hb25 := Grow.trans hb3 (Grow.trans hb4 hb5)
  have hb35 := Grow.trans hb4 hb5
  go_wp2_with fail
  refine (entries_same L1 _ _ w5 (hea.weak.fits hb25) (hfa.weak.fits hb35) (by omega)).mono ?_
  rintro x w6 ⟨rfl, hb6⟩
  go_wp2_with fail
  refine (entries_same L2 _ _ w6 (hga.weak.fits (Grow.trans hb5 hb6)) (hha.weak.fits hb6) (by have := HL2.out.1; omega)).mono ?_
  rintro x w7 ⟨rfl, hb7⟩
  go_wp2_with fail
  refine (sameInts_any Q2 _ _ w7 (hgk.weak.fits (Grow.trans hb5 (Grow.trans hb6 hb7))) (hhk.weak.fits (Grow.trans hb6 hb7)) (by have := HL2.out.2; omega)).mono ?_
  rintro x w8 ⟨rfl, hb8⟩
  have hg8 := Grow.trans hg5 (Grow.trans hb6 (Grow.trans hb7 hb8))
  clear hb2 hb3 hb4 hb5 hb6 hb7 hb8 hb25 hb35 hea hfa hga hha hgk hhk hg2 hg3 hg4 hg5
  clear p0 p1 p2 p3 p4 p5 c0 c1 c2
  obtain ⟨p0, p1, p2, p3, p4, p5, _⟩ := pgres (HB0.out.fits hg8)
  obtain ⟨c0, c1, c2, _⟩ := enres (HE0.out.fits hg8)
  go_wp2_with fail
  refine (HBe.out w8 (Grow.trans HG0.out hg8)).mono ?_
  rintro x w9 ⟨rfl, hb9⟩
  have hg9 := Grow.trans hg8 hb9
  clear p0 p1 p2 p3 p4 p5 c0 c1 c2
  obtain ⟨p0, p1, p2, p3, p4, p5, _⟩ := pgres (HB0.out.fits hg9)
  obtain ⟨c0, c1, c2, _⟩ := enres (HE0.out.fits hg9)
  go_wp2_with fail
  refine (HRb.out w9 (Grow.trans HG0.out hg9)).mono ?_
  rintro x w10 ⟨rfl, hb10⟩
  have hg10 := Grow.trans hg9 hb10
  clear p0 p1 p2 p3 p4 p5 c0 c1 c2
  obtain ⟨p0, p1, p2, p3, p4, p5, _⟩ := pgres (HB0.out.fits hg10)
  obtain ⟨c0, c1, c2, _⟩ := enres (HE0.out.fits hg10)
  go_wp2_with fail
  refine (HCh.out w10 (Grow.trans HG0.out hg10)).mono ?_
  rintro x w11 ⟨rfl, hb11⟩
  have hg11 := Grow.trans hg10 hb11
  clear p0 p1 p2 p3 p4 p5 c0 c1 c2
  obtain ⟨p0, p1, p2, p3, p4, p5, _⟩ := pgres (HB0.out.fits hg11)
  obtain ⟨c0, c1, c2, _⟩ := enres (HE0.out.fits hg11)
  go_wp2_with fail
  refine (HRh.out w11 (Grow.trans HG0.out hg11)).mono ?_
  rintro x w12 ⟨rfl, hb12⟩
  have hg12 := Grow.trans hg11 hb12
  clear p0 p1 p2 p3 p4 p5 c0 c1 c2
  obtain ⟨p0, p1, p2, p3, p4, p5, _⟩ := pgres (HB0.out.fits hg12)
  obtain ⟨c0, c1, c2, _⟩ := enres (HE0.out.fits hg12)
  go_wp2_with fail
  refine (HRo.out w12 (Grow.trans HG0.out hg12)).mono ?_
  rintro x w13 ⟨xv, rfl, hix, hb13⟩
  have hg13 := Grow.trans hg12 hb13
  obtain ⟨xa, xc, rfl⟩ := itemsS_form hix.1
  unfold pgV
  go_upto_region 14 with fail
  obtain ⟨w14, hw14⟩ : ∃ w14, w14 = w13.alloc (.cells (pgCells Q (.slice xa Q.items.length xc)).toArray 39) := ⟨_, rfl⟩
  have hb14 : Grow w13 w14 := by subst hw14; exact (Grow.refl _).alloc _
  have hpx : Blk w14 w13.heap.size 39 (pgCells Q (.slice xa Q.items.length xc)) := by subst hw14; exact Blk.new w13 _ _
  have HPx := keep hpx
  have HIx := keep (hix.fits hb14)
  have hg14 := Grow.trans hg13 hb14
  unfold pgCells at hw14
  rw [← hw14]
  clear hw14 hpx hix
  clear p0 p1 p2 p3 p4 p5 c0 c1 c2
  obtain ⟨p0, p1, p2, p3, p4, p5, _⟩ := pgres (HB0.out.fits hg14)
  obtain ⟨c0, c1, c2, _⟩ := enres (HE0.out.fits hg14)
  go_wp2_with fail
  refine (HRr.out w14 (Grow.trans HG0.out hg14)).mono ?_
  rintro x w15 ⟨yv, rfl, hiy, hb15⟩
  have hg15 := Grow.trans hg14 hb15
  obtain ⟨ya, yc, rfl⟩ := itemsS_form hiy.1
  unfold pgV
  go_upto_region 15 with fail
  obtain ⟨w16, hw16⟩ : ∃ w16, w16 = w15.alloc (.cells (pgCells Q (.slice ya Q.items.length yc)).toArray 39) := ⟨_, rfl⟩
  have hb16 : Grow w15 w16 := by subst hw16; exact (Grow.refl _).alloc _
  have hpy : Blk w16 w15.heap.size 39 (pgCells Q (.slice ya Q.items.length yc)) := by subst hw16; exact Blk.new w15 _ _
  have HPy := keep hpy
  have HIy := keep (hiy.fits hb16)
  have hg16 := Grow.trans hg15 hb16
  unfold pgCells at hw16
  rw [← hw16]
  clear hw16 hpy hiy
  have hpx := HPx.out.fits (Grow.trans hb15 hb16)
  have hpy := HPy.out
  have hix := HIx.out.fits (Grow.trans hb15 hb16)
  have hiy := HIy.out
  have hsm := fun (u : World) (hu : Grow w16 u) => same_self Q _ _ u (ItemsS.weak (hix.fits hu).1) (ItemsS.weak (hiy.fits hu).1) (by omega)
  unfold pgV at hsm
  have HSm := keep hsm
  unfold pgCells at hpx hpy
  clear p0 p1 p2 p3 p4 p5 c0 c1 c2
  obtain ⟨p0, p1, p2, p3, p4, p5, _⟩ := pgres hpx
  obtain ⟨q0, q1, q2, q3, q4, q5, _⟩ := pgres hpy
  clear hpx hpy hix hiy hsm
  go_wp2_with fail
  refine (HSm.out w16 (Grow.refl _)).mono ?_
  rintro x w17 ⟨rfl, hb17⟩
  go_wp2_with fail
  refine (awake_any w17).mono ?_
  rintro x w18 ⟨rfl, hb18⟩
  go_wp2_with fail
  go_ret
  exact ⟨rfl, Grow.trans HG0.out (Grow.trans hg16 (Grow.trans hb17 hb18))⟩

end Go.Proofs.Ytigbgodbalpgdaa
