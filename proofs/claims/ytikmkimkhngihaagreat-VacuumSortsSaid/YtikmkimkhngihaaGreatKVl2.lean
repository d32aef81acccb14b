
import Derived.Test.YtikmkimkhngihaaGreatKVl1
import Derived.Test.YtikmkimkhngihaaGreatKNames1
import Derived.Test.YtikmkimkhngihaaGreatKVr7
/- VacuumSorts' walk. -/
namespace Go.Proofs.YtikmkimkhngihaaGreat
open Go.RowKit

theorem wpList_load_rec_g {ops : Array Oper} {rest : List Oper} {o : Oper} {a : Act} {Q : Exit → Act → World → Prop} {w : World} (hwant : Region.wanted o (yielded ops a.tmps) = true) (x : Operand) (ho : o.op = .load 47 x) (b : Nat)
    (hx : a.eval x = .pointer (some ⟨b, 0, none⟩)) {cs : List Value} (hb : Blk w b 47 cs) (hl : cs.length = 16)
    (h : wpList Tryz.prog ops Q rest (a.put o.dst (.agg cs.toArray)) w) : wpList Tryz.prog ops Q (o :: rest) a w :=
  wpList_step fun K hK => by
    simp only [hwant, if_true]
    refine wp_load_mid _ x ho b 0 hx cs _ ?_ underRec (by kernel_rfl) (by rw [sizeRecord, hl]) (hK _ _ h)
    intro j v hv
    obtain ⟨hj, rfl⟩ := List.getElem?_eq_some_iff.1 hv
    rw [Nat.zero_add, hb.cell j hj]

/-- What a record of the frozen says, in one line. -/
def fzK (K : Wk) : Int := if K.fr = [] ∧ K.off = [] then 0 else 10
def fzP (K : Wk) (p : Int) : Int := if K.fr = [] ∧ K.off = [] then 0 else p
def fzB (K : Wk) : Bool := if K.fr = [] ∧ K.off = [] then false else true
def clK (K : Wk) : Int := if K.gone = [] then 0 else 9
def clP (K : Wk) (p : Int) : Int := if K.gone = [] then 0 else p
def clB (K : Wk) : Bool := if K.gone = [] then false else true
theorem frz_one (p : Int) (K : Wk) (f : FuncId) (a : Array Value) (u : World) (h : Calls Tryz.prog f a u (if K.fr = [] ∧ K.off = [] then RecPost 0 0 false [] [] u else RecPost 10 p true K.fr K.off u)) : Calls Tryz.prog f a u (RecPost (fzK K) (fzP K p) (fzB K) K.fr K.off u) := by
  unfold fzK fzP fzB
  by_cases hE : K.fr = [] ∧ K.off = []
  · simp only [if_pos hE] at h ⊢
    rw [hE.1, hE.2]; exact h
  · simp only [if_neg hE] at h ⊢
    exact h
theorem cln_one (p : Int) (K : Wk) (f : FuncId) (a : Array Value) (u : World) (h : Calls Tryz.prog f a u (if K.gone = [] then RecPost 0 0 false [] [] u else RecPost 9 p true (slotsOf K) [] u)) : Calls Tryz.prog f a u (RecPost (clK K) (clP K p) (clB K) (slotsOf K) [] u) := by
  unfold clK clP clB
  by_cases hE : K.gone = []
  · simp only [if_pos hE] at h ⊢
    have e : slotsOf K = [] := by unfold slotsOf; rw [hE]; rfl
    rw [e]; exact h
  · simp only [if_neg hE] at h ⊢
    exact h

set_option maxRecDepth 100000 in
set_option maxHeartbeats 8000000 in
theorem sorts_law (m fr : Int) (sv : Value) (sl : List (Int × Nat)) (v : Vw) (av rv iv lv : Value) (l : List Sl) (w : World) (hsv : Row w 59 sv sl.length (saidCells sl)) (hlen : (sl.length : Int) ≤ 70368744177664) (hs8 : ∀ x ∈ sl, x.2 < 256) (hv : VwIn w v av rv iv)
    (hl : Row w 63 lv l.length (slCells l)) (hll : (l.length : Int) ≤ 1759218604441) (hraw : ∀ x ∈ l, (x.raw.length : Int) ≤ 4611686018427387000) (hv62 : ∀ x ∈ v.clog.items, (x.length : Int) ≤ 4611686018427387000) :
    Calls Tryz.prog 3 #[.agg #[.int .i64 m, .int .i64 fr, sv], vwV v av rv iv, lv] w fun e w' => e = .returned (.bool true) ∧ Below w.heap.size w w' := by
  obtain ⟨sa, sc, rfl, _⟩ := said_get hsv
  obtain ⟨la, lc, rfl, _⟩ := slots_get hl
  obtain ⟨iva, ivc, rfl⟩ := items_form hv.items
  obtain ⟨rva, rvc, rfl, _⟩ := ints_form hv.run
  obtain ⟨ava, avc, rfl, _⟩ := ints_form hv.act
  obtain ⟨w0, hw0⟩ : ∃ w0, w0 = (w.alloc (.cells #[.int .i64 m, .int .i64 fr, .slice sa sl.length sc] 24)).alloc (.cells (vwCells v (.slice ava v.active.length avc) (.slice rva v.running.length rvc) (.slice iva v.clog.items.length ivc)).toArray 32) := ⟨_, rfl⟩
  have hg0 : Grow w w0 := by subst hw0; exact ((Grow.refl w).alloc _).alloc _
  obtain ⟨b, hb⟩ : ∃ b, b = w.heap.size + 1 := ⟨_, rfl⟩
  have hM0 : Blk w0 w.heap.size 24 [.int .i64 m, .int .i64 fr, .slice sa sl.length sc] := by subst hw0; exact (Blk.new w _ _).alloc _
  have hV0 : Blk w0 b 32 (vwCells v (.slice ava v.active.length avc) (.slice rva v.running.length rvc) (.slice iva v.clog.items.length ivc)) := by
    have := Blk.new (w.alloc (.cells #[.int .i64 m, .int .i64 fr, .slice sa sl.length sc] 24)) 32 (vwCells v (.slice ava v.active.length avc) (.slice rva v.running.length rvc) (.slice iva v.clog.items.length ivc))
    have e : (w.alloc (.cells #[.int .i64 m, .int .i64 fr, .slice sa sl.length sc] 24)).heap.size = b := by rw [hb]; simp
    rw [e] at this
    subst hw0; exact this
  have hs0 := Row.fits hsv hg0
  have hl0 := Row.fits hl hg0
  have hv0 := hv.fits hg0
  have HLl := keep hll
  have HRaw := keep hraw
  have HS8 := keep hs8
  have HLen := keep hlen
  have HL0 := keep hl0
  clear hsv hl hv hll hraw hs8 hlen hl0
  obtain ⟨m0, m1, m2⟩ := three_cells hM0
  have hV0' := hV0
  unfold vwCells at hV0'
  obtain ⟨c0, c1, c2, c3, c4, c5, c6, c7, c8, c9, c10⟩ := vwres hV0'
  unfold vwV
  go_enter Tryz.func3, Tryz.ntmps3
  go_upto_region 1 with fail
  unfold vwCells at hw0
  rw [← hw0, ← hb]
  clear hw0 hV0'
  have HB := keep hb
  clear hb
  go_wp2_with fail
  refine (view_any m fr _ sl v _ _ _ w0 hs0 HLen.out HS8.out hv0).mono ?_
  rintro e w1 ⟨iv1, rfl, hi1, hb1⟩
  have hv1 := viewS_in hv0 hb1 hi1
  have H62 := keep (viewS_fine62 m fr sl v hv62)
  have hnx := keep (viewS_next m fr sl v)
  have hVb := hV0.fits hb1
  have hl1 := Row.fits HL0.out hb1
  generalize (viewS m fr sl v).1 = V at *
  generalize (viewS m fr sl v).2 = ok at *
  obtain ⟨ia1, ic1, rfl⟩ := items_form hi1
  obtain ⟨aa1, ac1, hae, _⟩ := ints_form hv1.act
  obtain ⟨ra1, rc1, hre, _⟩ := ints_form hv1.run
  have hg1 := Grow.trans hg0 hb1
  rw [hae, hre] at hv1 ⊢
  clear hs0 hv0 hi1 hb1 hg0 hae hre hM0 hV0 HL0 m0 m1 m2 c0 c1 c2 c3 c4 c5 c6 c7 c8 c9 c10
  unfold vwV
  go_upto_region 2 with fail
  obtain ⟨w2, hw2⟩ : ∃ w2, w2 = w1.alloc (.cells (vwCells V (.slice aa1 V.active.length ac1) (.slice ra1 V.running.length rc1) (.slice ia1 V.clog.items.length ic1)).toArray 32) := ⟨_, rfl⟩
  have hga : Grow w1 w2 := by subst hw2; exact (Grow.refl _).alloc _
  have hV2 : Blk w2 w1.heap.size 32 (vwCells V (.slice aa1 V.active.length ac1) (.slice ra1 V.running.length rc1) (.slice ia1 V.clog.items.length ic1)) := by subst hw2; exact Blk.new _ _ _
  have hv2 := hv1.fits hga
  have hVb2 := hVb.fits hga
  have hl2 := Row.fits hl1 hga
  have hg2 := Grow.trans hg1 hga
  unfold vwCells at hw2
  rw [← hw2]
  clear hw2 hga hv1 hg1 hVb hl1
  go_wp2_with fail
  refine (page_any _ l w2 hl2 HLl.out).mono ?_
  rintro e w3 ⟨iv3, rfl, hi3, hb3⟩
  have hpl := keep (pageS_len l)
  have hpf := keep (pageS_fine62 l HRaw.out)
  have hpk : Kept ((pageS l).kind = 2) := keep rfl
  generalize pageS l = P at *
  obtain ⟨ia3, ic3, rfl⟩ := items_form hi3
  have hV3 := hV2.fits hb3
  have hv3 := hv2.fits hb3
  have hVb3 := hVb2.fits hb3
  have hg3 := Grow.trans hg2 hb3
  clear hV2 hv2 hg2 hVb2 hl2 hb3
  unfold pgV
  go_upto_region 3 with fail
  obtain ⟨w4, hw4⟩ : ∃ w4, w4 = w3.alloc (.cells (pgCells P (.slice ia3 P.items.length ic3)).toArray 30) := ⟨_, rfl⟩
  have hga : Grow w3 w4 := by subst hw4; exact (Grow.refl _).alloc _
  have hP4 : Blk w4 w3.heap.size 30 (pgCells P (.slice ia3 P.items.length ic3)) := by subst hw4; exact Blk.new _ _ _
  have hV4 := hV3.fits hga
  have hv4 := hv3.fits hga
  have hVb4 := hVb3.fits hga
  have hg4 := Grow.trans hg3 hga
  have hi4 := Row.fits hi3 hga
  unfold pgCells at hw4
  rw [← hw4]
  clear hw4 hga hv3 hV3 hg3 hi3 hVb3
  unfold vwCells at hV4 hVb4
  obtain ⟨c0, c1, c2, c3, c4, c5, c6, c7, c8, c9, c10⟩ := vwres hV4
  have d1 := hVb4.cell 1 (by simp)
  have hP4' := hP4
  unfold pgCells at hP4'
  obtain ⟨p0, p1, p2, p3, p4, p5, _⟩ := pgres hP4'
  go_wp2_with fail
  refine (sort_any V _ _ _ v.next 7 P _ _ hv4 hi4 (by rw [hpl.out]; exact HLl.out) (fun x hx => by have := hpf.out x hx; omega)).mono ?_
  rintro e w5 ⟨fv, ov, gv, rfl, h1, h2, h3, hb5⟩
  have hk5 := sort_in (by rw [hpl.out]; exact HLl.out) h1 h2 h3
  have hup := keep (sort_up V v.next 7 P)
  have hrs := fun (u : World) (hx : VwIn u V (.slice aa1 V.active.length ac1) (.slice ra1 V.running.length rc1) (.slice ia1 V.clog.items.length ic1)) (hy : Items u (.slice ia3 P.items.length ic3) P.items) => rsort_any V _ _ _ v.next 7 P _ u hx hy (by rw [hpl.out]; exact HLl.out) hpf.out H62.out
  have hsi := fun (u : World) (a b c : Value) => @sort_in u V v.next 7 P a b c (by rw [hpl.out]; exact HLl.out)
  have hKl : Kept ((sortS V v.next 7 P).fr.length ≤ P.items.length ∧ (sortS V v.next 7 P).off.length ≤ P.items.length ∧ (sortS V v.next 7 P).gone.length ≤ P.items.length) := keep (sortS_len V v.next 7 P)
  generalize sortS V v.next 7 P = K at *
  have HRS := keep hrs
  have HSI := keep hsi
  clear hrs hsi
  obtain ⟨fa, fc, rfl, _⟩ := ints_form h1
  obtain ⟨oa, oc, rfl, _⟩ := ints_form h2
  obtain ⟨ga, gc, rfl, _⟩ := gone_get h3
  have hP5 := hP4.fits hb5
  have hV5 := hV4.fits hb5
  have hv5 := hv4.fits hb5
  have hi5 := Row.fits hi4 hb5
  have hg5 := Grow.trans hg4 hb5
  have hnl : Kept (v.next = V.next) := keep hnx.out.symm
  clear h1 h2 h3 hv4 hi4 hV4 hVb4 hP4 hP4' hg4 hb5 c0 c1 c2 c3 c4 c5 c6 c7 c8 c9 c10 d1 p0 p1 p2 p3 p4 p5
  go_upto_region 5 with fail
  obtain ⟨w6, hw6⟩ : ∃ w6, w6 = w5.alloc (.cells #[.slice fa K.fr.length fc, .slice oa K.off.length oc, .slice ga K.gone.length gc] 39) := ⟨_, rfl⟩
  have hga : Grow w5 w6 := by subst hw6; exact (Grow.refl _).alloc _
  have hW6 : Blk w6 w5.heap.size 39 [.slice fa K.fr.length fc, .slice oa K.off.length oc, .slice ga K.gone.length gc] := by subst hw6; exact Blk.new _ _ [_, _, _]
  have hk6 := hk5.fits hga
  have hP6 := hP5.fits hga
  have hV6 := hV5.fits hga
  have hv6 := hv5.fits hga
  have hi6 := Row.fits hi5 hga
  have hg6 := Grow.trans hg5 hga
  rw [← hw6]
  clear hw6 hga hk5 hg5 hP5 hi5 hV5 hv5
  have hPx := hP6
  have hVx := hV6
  unfold pgCells at hPx
  obtain ⟨c0, c1, c2, c3, c4, c5, c6, c7, c8, c9, c10⟩ := vwres hVx
  obtain ⟨p0, p1, p2, p3, p4, p5, _⟩ := pgres hPx
  clear hPx hVx
  go_wp2_with fail
  refine (HRS.out w6 hv6 hi6).mono ?_
  rintro e w7 ⟨fv, ov, gv, rfl, h1, h2, h3, hb7⟩
  have hm7 := HSI.out _ _ _ _ h1 h2 h3
  obtain ⟨fb, fd, rfl, _⟩ := ints_form h1
  obtain ⟨ob, od, rfl, _⟩ := ints_form h2
  obtain ⟨gb, gd, rfl, _⟩ := gone_get h3
  have hW7 := hW6.fits hb7
  have hk7 := hk6.fits hb7
  have hP7 := hP6.fits hb7
  have hV7 := hV6.fits hb7
  have hv7 := hv6.fits hb7
  have hi7 := Row.fits hi6 hb7
  have hg7 := Grow.trans hg6 hb7
  clear h1 h2 h3 hv6 hi6 hV6 hP6 hg6 hb7 hW6 hk6 c0 c1 c2 c3 c4 c5 c6 c7 c8 c9 c10 p0 p1 p2 p3 p4 p5 HRS HSI
  go_upto_region 6 with fail
  obtain ⟨w8, hw8⟩ : ∃ w8, w8 = w7.alloc (.cells #[.slice fb K.fr.length fd, .slice ob K.off.length od, .slice gb K.gone.length gd] 39) := ⟨_, rfl⟩
  have hga : Grow w7 w8 := by subst hw8; exact (Grow.refl _).alloc _
  have hX8 : Blk w8 w7.heap.size 39 [.slice fb K.fr.length fd, .slice ob K.off.length od, .slice gb K.gone.length gd] := by subst hw8; exact Blk.new _ _ [_, _, _]
  have hW8 := hW7.fits hga
  have hk8 := hk7.fits hga
  have hm8 := hm7.fits hga
  have hP8 := hP7.fits hga
  have hV8 := hV7.fits hga
  have hv8 := hv7.fits hga
  have hi8 := Row.fits hi7 hga
  have hg8 := Grow.trans hg7 hga
  rw [← hw8]
  clear hw8 hga hk7 hg7 hP7 hi7 hV7 hv7 hW7 hm7
  obtain ⟨y0, y1, y2, _⟩ := wkres hW8
  obtain ⟨z0, z1, z2, _⟩ := wkres hX8
  go_wp2_with fail
  refine (same_any K K _ _ _ _ _ _ w8 hk8 hm8).mono ?_
  rintro e w9 ⟨rfl, hb9⟩
  rw [sameW_self K]
  have hX9 := hX8.fits hb9
  have hW9 := hW8.fits hb9
  have hk9 := hk8.fits hb9
  have hm9 := hm8.fits hb9
  have hP9 := hP8.fits hb9
  have hV9 := hV8.fits hb9
  have hv9 := hv8.fits hb9
  have hi9 := Row.fits hi8 hb9
  have hg9 := Grow.trans hg8 hb9
  clear hk8 hg8 hP8 hi8 hV8 hv8 hW8 hX8 hm8 hb9 y0 y1 y2 z0 z1 z2
  have hPx := hP9
  have hVx := hV9
  unfold pgCells at hPx
  obtain ⟨c0, c1, c2, c3, c4, c5, c6, c7, c8, c9, c10⟩ := vwres hVx
  obtain ⟨p0, p1, p2, p3, p4, p5, _⟩ := pgres hPx
  clear hPx hVx
  have hN : sortS V v.next 7 ⟨0, 3, 0, 0, [], P.items⟩ = ⟨[], [], []⟩ := by unfold sortS; rw [if_neg (show ¬ (3 : Int) = 2 by decide)]
  have hns := sort_any V _ _ _ v.next 7 ⟨0, 3, 0, 0, [], P.items⟩ _ w9 hv9 hi9 (by rw [hpl.out]; exact HLl.out) (fun x hx => by have := hpf.out x hx; omega)
  rw [hN] at hns
  have HNs := keep hns
  clear hN hns
  go_wp2_with fail
  refine HNs.out.mono ?_
  rintro e x1 ⟨fv, ov, gv, rfl, h1, h2, h3, hb⟩
  obtain ⟨fe, fh, hfe, _⟩ := ints_form h1
  obtain ⟨oe, oh, hoe, _⟩ := ints_form h2
  obtain ⟨ge, gh, hge, _⟩ := gone_get h3
  have hfe' : fv = .slice fe 0 fh := hfe
  have hoe' : ov = .slice oe 0 oh := hoe
  have hge' : gv = .slice ge 0 gh := hge
  subst hfe' hoe' hge'
  clear hfe hoe hge
  have hfd : ∀ u : World, (Instr.field 39 (.agg #[.slice fe 0 fh, .slice oe 0 oh, .slice ge 0 gh]) 2).run Tryz.prog u = .ok (.slice ge 0 gh) u := fun _ => by kernel_rfl
  have hX1 := hX9.fits hb
  have hW1 := hW9.fits hb
  have hk1 := hk9.fits hb
  have hm1 := hm9.fits hb
  have hg1 := Grow.trans hg9 hb
  clear h1 h2 h3 hb hk9 hm9 hX9 hW9 hg9 hP9 hV9 hv9 hi9 HNs c0 c1 c2 c3 c4 c5 c6 c7 c8 c9 c10 p0 p1 p2 p3 p4 p5
  obtain ⟨y0, y1, y2, _⟩ := wkres hW1
  have hfb : (K.fr.length : Int) ≤ 8796093022208 := by have := hKl.out; have := hpl.out; have := HLl.out; omega
  have hob : (K.off.length : Int) ≤ 8796093022208 := by have := hKl.out; have := hpl.out; have := HLl.out; omega
  have hgb : (K.gone.length : Int) ≤ 8796093022208 := by have := hKl.out; have := hpl.out; have := HLl.out; omega
  have HA := keep (fun (u : World) (fv ov gv : Value) (h : WkIn u K fv ov gv) => frz_one 9 K _ _ u (freeze_any 9 K fv ov gv u h hfb hob))
  have HB_ := keep (fun (u : World) (fv ov gv : Value) (h : WkIn u K fv ov gv) => frz_one 9 K _ _ u (rfreeze_any 9 K fv ov gv u h hfb hob))
  have HC := keep (fun (u : World) (fv ov gv : Value) (h : WkIn u K fv ov gv) => cln_one 9 K _ _ u (clean_any 9 K fv ov gv u h hgb hup.out))
  have HD := keep (fun (u : World) (fv ov gv : Value) (h : WkIn u K fv ov gv) => cln_one 9 K _ _ u (rclean_any 9 K fv ov gv u h hgb hup.out))
  clear hfb hob hgb
  clear y0 y1 y2
  go_upto_region 8 with fail
  go_cut [13, 14] from 55 to 59 (fun sp sb wx => ∃ (b : Nat) (sa : Option Addr) (sc : Nat) (ma : Option Addr) (mc : Nat), sp = .pointer (some ⟨b, 0, none⟩) ∧ sb = .bool (fzB K) ∧ Kept (Blk wx b 47 [.int .i64 0, .int .i64 0, .int .i64 0, .int .u8 (fzK K), .int .i64 0, .int .i64 (fzP K 9), .int .i64 0, .int .i64 0, .int .i64 0, .int .i64 0, .string ⟨#[]⟩, .slice sa K.fr.length sc, .slice ma K.off.length mc, .slice none 0 0, .slice none 0 0, .slice none 0 0]) ∧ Kept (Ints wx (.slice sa K.fr.length sc) K.fr) ∧ Kept (Ints wx (.slice ma K.off.length mc) K.off) ∧ Kept (Grow x1 wx))
  case first =>
    obtain ⟨y0, y1, y2, _⟩ := wkres hW1
    go_wp2_with fail
    refine (HA.out x1 _ _ _ hk1).mono ?_
    rintro e z1 ⟨sv, mv, rfl, hs, hq, hb⟩
    obtain ⟨sa, sc, hse⟩ := row_slice hs
    obtain ⟨ma, mc, hme⟩ := row_slice hq
    have hse2 : sv = .slice sa K.fr.length sc := hse
    have hme2 : mv = .slice ma K.off.length mc := hme
    subst hse2 hme2
    have HS := keep hs
    have HQ := keep hq
    have HBb := keep hb
    clear hse hme hs hq hb y0 y1 y2
    unfold recR
    go_wp2_with fail
    go_meet
    case rel => exact ⟨z1.heap.size, sa, sc, ma, mc, rfl, rfl, keep (Blk.new z1 _ [_, _, _, _, _, _, _, _, _, _, _, _, _, _, _, _]), keep (HS.out.fits ((Grow.refl z1).alloc _)), keep (HQ.out.fits ((Grow.refl z1).alloc _)), keep (Grow.trans HBb.out ((Grow.refl z1).alloc _))⟩
  case rest =>
  obtain ⟨b1, sa1, sc1, ma1, mc1, rfl, rfl, hT11, hs11, hq11, hgb⟩ := hcut
  generalize wc = x2 at *
  replace hT11 := hT11.out
  replace hs11 := hs11.out
  replace hq11 := hq11.out
  replace hgb := hgb.out
  have hXx1 := hX1.fits hgb
  have hWx1 := hW1.fits hgb
  have hkx1 := hk1.fits hgb
  have hmx1 := hm1.fits hgb
  have hgx1 := Grow.trans hg1 hgb
  clear hgb hX1 hW1 hk1 hm1 hg1
  go_upto_region 9 with fail
  go_cut [15, 16] from 60 to 64 (fun sp sb wx => ∃ (b : Nat) (sa : Option Addr) (sc : Nat) (ma : Option Addr) (mc : Nat), sp = .pointer (some ⟨b, 0, none⟩) ∧ sb = .bool (fzB K) ∧ Kept (Blk wx b 47 [.int .i64 0, .int .i64 0, .int .i64 0, .int .u8 (fzK K), .int .i64 0, .int .i64 (fzP K 9), .int .i64 0, .int .i64 0, .int .i64 0, .int .i64 0, .string ⟨#[]⟩, .slice sa K.fr.length sc, .slice ma K.off.length mc, .slice none 0 0, .slice none 0 0, .slice none 0 0]) ∧ Kept (Ints wx (.slice sa K.fr.length sc) K.fr) ∧ Kept (Ints wx (.slice ma K.off.length mc) K.off) ∧ Kept (Grow x2 wx))
  case first =>
    obtain ⟨y0, y1, y2, _⟩ := wkres hXx1
    go_wp2_with fail
    refine (HB_.out x2 _ _ _ hmx1).mono ?_
    rintro e z2 ⟨sv, mv, rfl, hs, hq, hb⟩
    obtain ⟨sa, sc, hse⟩ := row_slice hs
    obtain ⟨ma, mc, hme⟩ := row_slice hq
    have hse2 : sv = .slice sa K.fr.length sc := hse
    have hme2 : mv = .slice ma K.off.length mc := hme
    subst hse2 hme2
    have HS := keep hs
    have HQ := keep hq
    have HBb := keep hb
    clear hse hme hs hq hb y0 y1 y2
    unfold recR
    go_wp2_with fail
    go_meet
    case rel => exact ⟨z2.heap.size, sa, sc, ma, mc, rfl, rfl, keep (Blk.new z2 _ [_, _, _, _, _, _, _, _, _, _, _, _, _, _, _, _]), keep (HS.out.fits ((Grow.refl z2).alloc _)), keep (HQ.out.fits ((Grow.refl z2).alloc _)), keep (Grow.trans HBb.out ((Grow.refl z2).alloc _))⟩
  case rest =>
  obtain ⟨b2, sa2, sc2, ma2, mc2, rfl, rfl, hT22, hs22, hq22, hgb⟩ := hcut
  generalize wc = x3 at *
  replace hT22 := hT22.out
  replace hs22 := hs22.out
  replace hq22 := hq22.out
  replace hgb := hgb.out
  have hXx2 := hXx1.fits hgb
  have hWx2 := hWx1.fits hgb
  have hkx2 := hkx1.fits hgb
  have hmx2 := hmx1.fits hgb
  have hgx2 := Grow.trans hgx1 hgb
  have hT12 := hT11.fits hgb
  have hs12 := hs11.fits hgb
  have hq12 := hq11.fits hgb
  clear hgb hXx1 hWx1 hkx1 hmx1 hgx1 hT11 hs11 hq11
  go_upto_region 10 with fail
  go_cut [17, 18] from 65 to 69 (fun sp sb wx => ∃ (b : Nat) (sa : Option Addr) (sc : Nat) (ma : Option Addr) (mc : Nat), sp = .pointer (some ⟨b, 0, none⟩) ∧ sb = .bool (clB K) ∧ Kept (Blk wx b 47 [.int .i64 0, .int .i64 0, .int .i64 0, .int .u8 (clK K), .int .i64 0, .int .i64 (clP K 9), .int .i64 0, .int .i64 0, .int .i64 0, .int .i64 0, .string ⟨#[]⟩, .slice sa (slotsOf K).length sc, .slice ma 0 mc, .slice none 0 0, .slice none 0 0, .slice none 0 0]) ∧ Kept (Ints wx (.slice sa (slotsOf K).length sc) (slotsOf K)) ∧ Kept (Ints wx (.slice ma 0 mc) []) ∧ Kept (Grow x3 wx))
  case first =>
    obtain ⟨y0, y1, y2, _⟩ := wkres hWx2
    go_wp2_with fail
    refine (HC.out x3 _ _ _ hkx2).mono ?_
    rintro e z3 ⟨sv, mv, rfl, hs, hq, hb⟩
    obtain ⟨sa, sc, hse⟩ := row_slice hs
    obtain ⟨ma, mc, hme⟩ := row_slice hq
    have hse2 : sv = .slice sa (slotsOf K).length sc := hse
    have hme2 : mv = .slice ma 0 mc := hme
    subst hse2 hme2
    have HS := keep hs
    have HQ := keep hq
    have HBb := keep hb
    clear hse hme hs hq hb y0 y1 y2
    unfold recR
    go_wp2_with fail
    go_meet
    case rel => exact ⟨z3.heap.size, sa, sc, ma, mc, rfl, rfl, keep (Blk.new z3 _ [_, _, _, _, _, _, _, _, _, _, _, _, _, _, _, _]), keep (HS.out.fits ((Grow.refl z3).alloc _)), keep (HQ.out.fits ((Grow.refl z3).alloc _)), keep (Grow.trans HBb.out ((Grow.refl z3).alloc _))⟩
  case rest =>
  obtain ⟨b3, sa3, sc3, ma3, mc3, rfl, rfl, hT33, hs33, hq33, hgb⟩ := hcut
  generalize wc = x4 at *
  replace hT33 := hT33.out
  replace hs33 := hs33.out
  replace hq33 := hq33.out
  replace hgb := hgb.out
  have hXx3 := hXx2.fits hgb
  have hWx3 := hWx2.fits hgb
  have hkx3 := hkx2.fits hgb
  have hmx3 := hmx2.fits hgb
  have hgx3 := Grow.trans hgx2 hgb
  have hT13 := hT12.fits hgb
  have hs13 := hs12.fits hgb
  have hq13 := hq12.fits hgb
  have hT23 := hT22.fits hgb
  have hs23 := hs22.fits hgb
  have hq23 := hq22.fits hgb
  clear hgb hXx2 hWx2 hkx2 hmx2 hgx2 hT12 hs12 hq12 hT22 hs22 hq22
  go_upto_region 11 with fail
  go_cut [19, 20] from 70 to 74 (fun sp sb wx => ∃ (b : Nat) (sa : Option Addr) (sc : Nat) (ma : Option Addr) (mc : Nat), sp = .pointer (some ⟨b, 0, none⟩) ∧ sb = .bool (clB K) ∧ Kept (Blk wx b 47 [.int .i64 0, .int .i64 0, .int .i64 0, .int .u8 (clK K), .int .i64 0, .int .i64 (clP K 9), .int .i64 0, .int .i64 0, .int .i64 0, .int .i64 0, .string ⟨#[]⟩, .slice sa (slotsOf K).length sc, .slice ma 0 mc, .slice none 0 0, .slice none 0 0, .slice none 0 0]) ∧ Kept (Ints wx (.slice sa (slotsOf K).length sc) (slotsOf K)) ∧ Kept (Ints wx (.slice ma 0 mc) []) ∧ Kept (Grow x4 wx))
  case first =>
    obtain ⟨y0, y1, y2, _⟩ := wkres hXx3
    go_wp2_with fail
    refine (HD.out x4 _ _ _ hmx3).mono ?_
    rintro e z4 ⟨sv, mv, rfl, hs, hq, hb⟩
    obtain ⟨sa, sc, hse⟩ := row_slice hs
    obtain ⟨ma, mc, hme⟩ := row_slice hq
    have hse2 : sv = .slice sa (slotsOf K).length sc := hse
    have hme2 : mv = .slice ma 0 mc := hme
    subst hse2 hme2
    have HS := keep hs
    have HQ := keep hq
    have HBb := keep hb
    clear hse hme hs hq hb y0 y1 y2
    unfold recR
    go_wp2_with fail
    go_meet
    case rel => exact ⟨z4.heap.size, sa, sc, ma, mc, rfl, rfl, keep (Blk.new z4 _ [_, _, _, _, _, _, _, _, _, _, _, _, _, _, _, _]), keep (HS.out.fits ((Grow.refl z4).alloc _)), keep (HQ.out.fits ((Grow.refl z4).alloc _)), keep (Grow.trans HBb.out ((Grow.refl z4).alloc _))⟩
  case rest =>
  obtain ⟨b4, sa4, sc4, ma4, mc4, rfl, rfl, hT44, hs44, hq44, hgb⟩ := hcut
  generalize wc = x5 at *
  replace hT44 := hT44.out
  replace hs44 := hs44.out
  replace hq44 := hq44.out
  replace hgb := hgb.out
  have hXx4 := hXx3.fits hgb
  have hWx4 := hWx3.fits hgb
  have hkx4 := hkx3.fits hgb
  have hmx4 := hmx3.fits hgb
  have hgx4 := Grow.trans hgx3 hgb
  have hT14 := hT13.fits hgb
  have hs14 := hs13.fits hgb
  have hq14 := hq13.fits hgb
  have hT24 := hT23.fits hgb
  have hs24 := hs23.fits hgb
  have hq24 := hq23.fits hgb
  have hT34 := hT33.fits hgb
  have hs34 := hs33.fits hgb
  have hq34 := hq33.fits hgb
  clear hgb hXx3 hWx3 hkx3 hmx3 hgx3 hT13 hs13 hq13 hT23 hs23 hq23 hT33 hs33 hq33
  go_upto_region 12 with fail
  have hR1 := record_any (fzK K) (fzP K 9) K.fr K.off _ _ _ _ x5 hs14 hq14 hs24 hq24 (by have := hKl.out; have := hpl.out; have := HLl.out; omega) (by have := hKl.out; have := hpl.out; have := HLl.out; omega)
  have hR2 := fun (u : World) (hu : Grow x5 u) => record_any (clK K) (clP K 9) (slotsOf K) [] _ _ _ _ u (hs34.fits hu) (hq34.fits hu) (hs44.fits hu) (hq44.fits hu) (by have := hKl.out; have := hpl.out; have := HLl.out; simp only [slotsOf, List.length_map]; omega) (by simp)
  have hT3 := fun (u : World) (hu : Grow x5 u) => hT34.fits hu
  have hT4 := fun (u : World) (hu : Grow x5 u) => hT44.fits hu
  have L1 := keep (show Blk x5 b1 47 (recRC (fzK K) (fzP K 9) (.slice sa1 K.fr.length sc1) (.slice ma1 K.off.length mc1)) from hT14)
  have L2 := keep (show Blk x5 b2 47 (recRC (fzK K) (fzP K 9) (.slice sa2 K.fr.length sc2) (.slice ma2 K.off.length mc2)) from hT24)
  have HR1 := keep hR1
  have HR2 := keep hR2
  have HT3 := keep (show Blk x5 b3 47 (recRC (clK K) (clP K 9) (.slice sa3 (slotsOf K).length sc3) (.slice ma3 0 mc3)) from hT34)
  have HT4 := keep (show Blk x5 b4 47 (recRC (clK K) (clP K 9) (.slice sa4 (slotsOf K).length sc4) (.slice ma4 0 mc4)) from hT44)
  have HG := keep hgx4
  clear hR1 hR2 hT3 hT4 hT14 hs14 hq14 hT24 hs24 hq24 hT34 hs34 hq34 hT44 hs44 hq44 hXx4 hWx4 hkx4 hmx4 hgx4 HA HB_ HC HD
  go_wp2_with (first | (refine wpList_load_rec_g rfl _ rfl b1 rfl L1.out rfl ?_) | (refine wpList_load_rec_g rfl _ rfl b2 rfl L2.out rfl ?_))
  refine HR1.out.mono ?_
  rintro e x6 ⟨rfl, hb⟩
  have L3 := keep (HT3.out.fits hb)
  have L4 := keep (HT4.out.fits hb)
  have HG6 := keep (Grow.trans HG.out hb)
  have HR3 := keep (HR2.out x6 hb)
  clear hb L1 L2 HT3 HT4 HR2 HR1
  go_wp2_with (first | (refine wpList_load_rec_g rfl _ rfl b3 rfl L3.out rfl ?_) | (refine wpList_load_rec_g rfl _ rfl b4 rfl L4.out rfl ?_))
  refine HR3.out.mono ?_
  rintro e x7 ⟨rfl, hb⟩
  have HG7 := keep (Grow.trans HG6.out hb)
  clear L3 L4 hb
  go_wp2_with fail
  refine (awake_any x7).mono ?_
  rintro e x8 ⟨rfl, hb⟩
  go_wp2_with fail
  go_ret
  exact ⟨rfl, Grow.trans HG7.out hb⟩

end Go.Proofs.YtikmkimkhngihaaGreat
