import Derived.Test.YtmhepfehcakmjaaGreatKQz2
import Derived.Test.YtmhepfehcakmjaaGreatKQAwake2
import Derived.Test.YtmhepfehcakmjaaGreatKQz1
namespace Go.Proofs.YtmhepfehcakmjaaGreat.Vac
open Go.RowKit
theorem sameW_self (k : Wk) : sameW k k = true := by simp [sameW]
def fzK (K : Wk) : Int := if K.fr = [] ∧ K.off = [] then 0 else 10
def fzP (K : Wk) (p : Int) : Int := if K.fr = [] ∧ K.off = [] then 0 else p
def fzB (K : Wk) : Bool := if K.fr = [] ∧ K.off = [] then false else true
def clK (K : Wk) : Int := if K.gone = [] then 0 else 9
def clP (K : Wk) (p : Int) : Int := if K.gone = [] then 0 else p
def clB (K : Wk) : Bool := if K.gone = [] then false else true
theorem frz_one (p : Int) (K : Wk) (f : FuncId) (a : Array Value) (u : World) (h : Calls Tryz.prog f a u (if K.fr = [] ∧ K.off = [] then RecPost 0 0 false [] [] u else RecPost 10 p true K.fr K.off u)) : Calls Tryz.prog f a u (RecPost (fzK K) (fzP K p) (fzB K) K.fr K.off u) := by
 unfold fzK fzP fzB
 by_cases hE : K.fr = [] ∧ K.off = []
 ·simp only [if_pos hE] at h ⊢
  rw [hE.1, hE.2]; exact h
 ·simp only [if_neg hE] at h ⊢
  exact h
theorem cln_one (p : Int) (K : Wk) (f : FuncId) (a : Array Value) (u : World) (h : Calls Tryz.prog f a u (if K.gone = [] then RecPost 0 0 false [] [] u else RecPost 9 p true (slotsOf K) [] u)) : Calls Tryz.prog f a u (RecPost (clK K) (clP K p) (clB K) (slotsOf K) [] u) := by
 unfold clK clP clB
 by_cases hE : K.gone = []
 ·simp only [if_pos hE] at h ⊢
  have e : slotsOf K = [] := by unfold slotsOf; rw [hE]; rfl
  rw [e]; exact h
 ·simp only [if_neg hE] at h ⊢
  exact h
theorem frz_cases (K : Wk) (p : Int) : (fzB K = false ∧ K.fr = [] ∧ K.off = []) ∨ (fzB K = true ∧ fzK K = 10 ∧ fzP K p = p) := by
 unfold fzB fzK fzP
 split
 ·rename_i h; exact .inl ⟨rfl, h⟩
 ·exact .inr ⟨rfl, rfl, rfl⟩
theorem cln_cases (K : Wk) (p : Int) : (clB K = false ∧ K.gone = []) ∨ (clB K = true ∧ clK K = 9 ∧ clP K p = p) := by
 unfold clB clK clP
 split
 ·rename_i h; exact .inl ⟨rfl, h⟩
 ·exact .inr ⟨rfl, rfl, rfl⟩
theorem do_frozen (v : Vw) (h m : Int) (P : Pg) (hk : P.kind = 2) (hl : P.lsn = 1) (hS : PgS P) (K : Wk) (hK : sortS v h 7 P = K) : (doN m P 7 ⟨5, 0, 0, 10, 0, 7, 0, 0, 0, 0, [], K.fr, K.off, []⟩).2 = 0 →
  Quiet v h P (doN m P 7 ⟨5, 0, 0, 10, 0, 7, 0, 0, 0, 0, [], K.fr, K.off, []⟩).1 ∧ (doN m P 7 ⟨5, 0, 0, 10, 0, 7, 0, 0, 0, 0, [], K.fr, K.off, []⟩).1.lsn ≤ 5 ∧ PgS (doN m P 7 ⟨5, 0, 0, 10, 0, 7, 0, 0, 0, 0, [], K.fr, K.off, []⟩).1 := by
 intro h0
 have hg := (gd_do m P 7 ⟨5, 0, 0, 10, 0, 7, 0, 0, 0, 0, [], K.fr, K.off, []⟩ hS (fun x hx => (by cases hx)) (by dsimp only; decide)).2 h0
 refine ⟨?_, ?_, hg⟩
 ·have e : doN m P 7 ⟨5, 0, 0, 10, 0, 7, 0, 0, 0, 0, [], K.fr, K.off, []⟩ = if (freezeD P ⟨5, 0, 0, 10, 0, 7, 0, 0, 0, 0, [], K.fr, K.off, []⟩).2 ≠ 0 then (zeroP, (freezeD P ⟨5, 0, 0, 10, 0, 7, 0, 0, 0, 0, [], K.fr, K.off, []⟩).2) else ({ (freezeD P ⟨5, 0, 0, 10, 0, 7, 0, 0, 0, 0, [], K.fr, K.off, []⟩).1 with lsn := 5 }, 0) := by
   unfold doN
   dsimp only [List.find?_nil]
   rw [if_neg (by rw [hl]; decide)]
   rfl
  rw [e] at h0 ⊢
  by_cases c : (freezeD P ⟨5, 0, 0, 10, 0, 7, 0, 0, 0, 0, [], K.fr, K.off, []⟩).2 ≠ 0
  ·rw [if_pos c] at h0; exact absurd h0 c
  rw [if_neg c]
  exact quiet_lsn (quiet_frozen v h 7 P hk _ (by rw [hK]) (by rw [hK]) (Decidable.byContradiction c)) 5
 ·rcases do_lsn m P 7 ⟨5, 0, 0, 10, 0, 7, 0, 0, 0, 0, [], K.fr, K.off, []⟩ h0 with e | e
  ·rw [e, hl]; decide
  ·rw [e]; dsimp only; decide
theorem do_cleaned (v : Vw) (h m : Int) (P Q : Pg) (hk : P.kind = 2) (q : Quiet v h P Q) (hl : Q.lsn ≤ 5) (hS : PgS Q) (K : Wk) (hK : sortS v h 7 P = K) : (doN m Q 7 ⟨6, 0, 0, 9, 0, 7, 0, 0, 0, 0, [], slotsOf K, [], []⟩).2 = 0 →
  sortS v h 7 (doN m Q 7 ⟨6, 0, 0, 9, 0, 7, 0, 0, 0, 0, [], slotsOf K, [], []⟩).1 = ⟨[], [], []⟩ ∧ (doN m Q 7 ⟨6, 0, 0, 9, 0, 7, 0, 0, 0, 0, [], slotsOf K, [], []⟩).1.items.length = Q.items.length ∧ PgS (doN m Q 7 ⟨6, 0, 0, 9, 0, 7, 0, 0, 0, 0, [], slotsOf K, [], []⟩).1 := by
 intro h0
 have hg := (gd_do m Q 7 ⟨6, 0, 0, 9, 0, 7, 0, 0, 0, 0, [], slotsOf K, [], []⟩ hS (fun x hx => (by cases hx)) (by dsimp only; decide)).2 h0
 refine and_assoc.1 ⟨?_, hg⟩
 have e : doN m Q 7 ⟨6, 0, 0, 9, 0, 7, 0, 0, 0, 0, [], slotsOf K, [], []⟩ = if (cleanGo Q (slotsOf K)).2 ≠ 0 then (zeroP, (cleanGo Q (slotsOf K)).2) else ({ (cleanGo Q (slotsOf K)).1 with lsn := 6 }, 0) := by
  unfold doN
  dsimp only [List.find?_nil]
  rw [if_neg (by
   rintro (h1 | h1 | h1)
   ·exact absurd h1 (by decide)
   ·omega
   ·exact h1 rfl)]
  rfl
 rw [e] at h0 ⊢
 by_cases c : (cleanGo Q (slotsOf K)).2 ≠ 0
 ·rw [if_pos c] at h0; exact absurd h0 c
 rw [if_neg c]
 exact ⟨quiet_clean 7 hk q (slotsOf K) (by unfold slotsOf; rw [hK]) (Decidable.byContradiction c) 6, (clean_done _ _ (Decidable.byContradiction c)).2.1⟩
structure Tr (B u : World) (pb wb : Nat) (K : Wk) (fv ov gv : Value) (Q : Pg) (qv : Value) : Prop where
 grow : Grow B u
 wk : Blk u wb 72 [fv, ov, gv]
 fr : RowS u 3 fv K.fr.length (iCells K.fr)
 off : RowS u 3 ov K.off.length (iCells K.off)
 gone : RowS u 102 gv K.gone.length (gCells K.gone)
 pg : Blk u pb 24 (pgCells Q qv)
 it : Items B qv Q.items ∨ ItemsS u qv Q.items
 low : B.heap.size ≤ pb
theorem Tr.items {B u : World} {pb wb : Nat} {K : Wk} {fv ov gv : Value} {Q : Pg} {qv : Value} (h : Tr B u pb wb K fv ov gv Q qv) : Items u qv Q.items := by
 rcases h.it with k | k
 ·exact Row.fits k h.grow
 ·exact RowS.weak k
theorem Tr.fits {B u u' : World} {pb wb : Nat} {K : Wk} {fv ov gv : Value} {Q : Pg} {qv : Value} (h : Tr B u pb wb K fv ov gv Q qv) (g : Grow u u') : Tr B u' pb wb K fv ov gv Q qv :=
 ⟨Grow.trans h.grow g, h.wk.fits g, h.fr.fits g, h.off.fits g, h.gone.fits g, h.pg.fits g, h.it.elim .inl fun k => .inr (RowS.fits k g), h.low⟩
theorem Tr.record {B u u' : World} {pb wb b : Nat} {K : Wk} {fv ov gv : Value} {Q : Pg} {qv : Value} {cs : List Value} (h : Tr B u pb wb K fv ov gv Q qv) (hb : Blk u b 33 cs) (k : But b u u') (hB : B.heap.size ≤ b) : Tr B u' pb wb K fv ov gv Q qv := by
 have ne : ∀ {c t cs'}, Blk u c t cs' → t ≠ 33 → c ≠ b := by
  intro c t cs' hc ht e
  subst e
  unfold Blk at hb hc
  rw [hb] at hc
  simp at hc
  exact ht hc.2.symm
 exact ⟨But.below h.grow k hB h.grow.size, h.wk.but k (ne h.wk (by decide)), h.fr.but k (ne_blk hb (by decide)), h.off.but k (ne_blk hb (by decide)), h.gone.but k (ne_blk hb (by decide)), h.pg.but k (ne h.pg (by decide)), h.it.elim .inl fun k' => .inr (RowS.but k' k (ne_blk hb (by decide))), h.low⟩
theorem Tr.page {B u u' : World} {pb wb : Nat} {K : Wk} {fv ov gv : Value} {Q Q' : Pg} {qv qv' : Value} (h : Tr B u pb wb K fv ov gv Q qv) (k : But pb u u') (hb : Blk u' pb 24 (pgCells Q' qv')) (hi : ItemsS u qv' Q'.items) : Tr B u' pb wb K fv ov gv Q' qv' := by
 have ne : ∀ {c t cs'}, Blk u c t cs' → t ≠ 24 → c ≠ pb := by
  intro c t cs' hc ht e
  subst e
  have hb := h.pg
  unfold Blk at hb hc
  rw [hb] at hc
  simp at hc
  exact ht hc.2.symm
 exact ⟨But.below h.grow k h.low h.grow.size, h.wk.but k (ne h.wk (by decide)), h.fr.but k (ne_blk h.pg (by decide)), h.off.but k (ne_blk h.pg (by decide)), h.gone.but k (ne_blk h.pg (by decide)), hb, .inr (RowS.but hi k (ne_blk h.pg (by decide))), h.low⟩
theorem Tr.work {B u : World} {pb wb : Nat} {K : Wk} {fv ov gv : Value} {Q : Pg} {qv : Value} (h : Tr B u pb wb K fv ov gv Q qv) (h1 : (K.fr.length : Int) ≤ 8796093022208) (h2 : (K.off.length : Int) ≤ 8796093022208) (h3 : (K.gone.length : Int) ≤ 8796093022208) : WkIn u K fv ov gv :=
 ⟨h.fr.weak, h.off.weak, h.gone.weak, by omega, by omega, by omega⟩
theorem Tr.recBlk {u u' : World} {b c t : Nat} {cs cs' : List Value} (hb : Blk u b 33 cs) (hc : Blk u c t cs') (k : But c u u') (ht : t ≠ 33) : Blk u' b 33 cs := by
 refine hb.but k fun e => ?_
 subst e
 unfold Blk at hb hc
 rw [hb] at hc
 simp at hc
 exact ht hc.2.symm
end Go.Proofs.YtmhepfehcakmjaaGreat.Vac
namespace Go.Proofs.YtmhepfehcakmjaaGreat.Vac
open Go.RowKit
attribute [local go_sem] givesV lookV knAt givesF_none givesF_some evalF_tmp evalF_const evalF_global evalF_func lookL isB_bool isB_undef givesUpon_value givesUpon_skip givesUpon_enter
set_option maxRecDepth 100000 in
set_option maxHeartbeats 8000000 in
theorem ends_law (m fr : Int) (sv : Value) (sl : List (Int × Nat)) (v : Vw) (av rv iv lv : Value) (l : List Sl) (w : World) (hsv : Row w 98 sv sl.length (saidCells sl)) (hlen : (sl.length : Int) ≤ 70368744177664) (hs8 : ∀ x ∈ sl, x.2 < 256) (hv : VwIn w v av rv iv)
  (hl : Row w 100 lv l.length (slCells l)) (hll : (l.length : Int) ≤ 1759218604441) (hraw : ∀ x ∈ l, (x.raw.length : Int) ≤ 140737488355328) :
  Calls Tryz.prog 7 #[.agg #[.int .i64 m, .int .i64 fr, sv], vwV v av rv iv, lv] w fun e w' => e = .returned (.bool true) ∧ Below w.heap.size w w' := by
 obtain ⟨sa, sc, rfl, _⟩ := said_get hsv
 obtain ⟨la, lc, rfl, _⟩ := slots_get hl
 obtain ⟨iva, ivc, rfl⟩ := items_form hv.items
 obtain ⟨rva, rvc, rfl, _⟩ := ints_form hv.run
 obtain ⟨ava, avc, rfl, _⟩ := ints_form hv.act
 obtain ⟨w0, hw0⟩ : ∃ w0, w0 = (w.alloc (.cells #[.int .i64 m, .int .i64 fr, .slice sa sl.length sc] 61)).alloc (.cells (vwCells v (.slice ava v.active.length avc) (.slice rva v.running.length rvc) (.slice iva v.clog.items.length ivc)).toArray 65) := ⟨_, rfl⟩
 have hg0 : Grow w w0 := by subst hw0; exact ((Grow.refl w).alloc _).alloc _
 obtain ⟨b, hb⟩ : ∃ b, b = w.heap.size + 1 := ⟨_, rfl⟩
 have hM0 : Blk w0 w.heap.size 61 [.int .i64 m, .int .i64 fr, .slice sa sl.length sc] := by subst hw0; exact (Blk.new w _ _).alloc _
 have hV0 : Blk w0 b 65 (vwCells v (.slice ava v.active.length avc) (.slice rva v.running.length rvc) (.slice iva v.clog.items.length ivc)) := by
  have := Blk.new (w.alloc (.cells #[.int .i64 m, .int .i64 fr, .slice sa sl.length sc] 61)) 65 (vwCells v (.slice ava v.active.length avc) (.slice rva v.running.length rvc) (.slice iva v.clog.items.length ivc))
  have e : (w.alloc (.cells #[.int .i64 m, .int .i64 fr, .slice sa sl.length sc] 61)).heap.size = b := by rw [hb]; simp
  rw [e] at this
  subst hw0; exact this
 have hs0 := Row.fits hsv hg0
 have hl0 := Row.fits hl hg0
 have hv0 := hv.fits hg0
 have HLl := keep hll
 have HS8 := keep hs8
 have HLen := keep hlen
 have HL0 := keep hl0
 have HPs := keep (pageS_pgS l hraw hll)
 clear hsv hl hv hll hs8 hlen hl0 hraw
 obtain ⟨m0, m1, m2⟩ := three_cells hM0
 have hV0' := hV0
 unfold vwCells at hV0'
 obtain ⟨c0, c1, c2, c3, c4, c5, c6, c7, c8, c9, c10⟩ := vwres hV0'
 unfold vwV
 go_enter Tryz.func7, Tryz.ntmps7
 go_upto_region 1 with fail
 unfold vwCells at hw0
 rw [← hw0, ← hb]
 clear hw0 hV0'
 have HB := keep hb
 clear hb
 go_wp2_with fail
 refine (view_any m fr _ sl v _ _ _ w0 hs0 HLen.out HS8.out hv0).mono ?_
 rintro e w1 ⟨iv1, rfl, hi1, hb1⟩
 have hv1 := viewS_in hv0 hb1 hi1
 have hnx := keep (viewS_next m fr sl v)
 have hVb := hV0.fits hb1
 have hl1 := Row.fits HL0.out hb1
 generalize (viewS m fr sl v).1 = V at *
 generalize (viewS m fr sl v).2 = ok at *
 obtain ⟨ia1, ic1, rfl⟩ := items_form hi1
 obtain ⟨aa1, ac1, hae, _⟩ := ints_form hv1.act
 obtain ⟨ra1, rc1, hre, _⟩ := ints_form hv1.run
 have hg1 := Grow.trans hg0 hb1
 rw [hae, hre] at hv1 ⊢
 clear hs0 hv0 hi1 hb1 hg0 hae hre hM0 hV0 HL0 m0 m1 m2 c0 c1 c2 c3 c4 c5 c6 c7 c8 c9 c10
 unfold vwV
 go_upto_region 2 with fail
 obtain ⟨w2, hw2⟩ : ∃ w2, w2 = w1.alloc (.cells (vwCells V (.slice aa1 V.active.length ac1) (.slice ra1 V.running.length rc1) (.slice ia1 V.clog.items.length ic1)).toArray 65) := ⟨_, rfl⟩
 have hga : Grow w1 w2 := by subst hw2; exact (Grow.refl _).alloc _
 have hV2 : Blk w2 w1.heap.size 65 (vwCells V (.slice aa1 V.active.length ac1) (.slice ra1 V.running.length rc1) (.slice ia1 V.clog.items.length ic1)) := by subst hw2; exact Blk.new _ _ _
 have hv2 := hv1.fits hga
 have hVb2 := hVb.fits hga
 have hl2 := Row.fits hl1 hga
 have hg2 := Grow.trans hg1 hga
 unfold vwCells at hw2
 rw [← hw2]
 clear hw2 hga hv1 hg1 hVb hl1
 cases ok with
 | false =>
  go_wp2_with fail
  refine (awakeV_any _).mono ?_
  rintro y wz ⟨rfl, hbz⟩
  have HGz := keep (Grow.trans hg2 hbz)
  clear hbz
  go_wp2_with fail
  go_ret
  exact ⟨rfl, HGz.out⟩
 | true =>
  go_wp2_with fail
  refine (page_any _ l w2 hl2 HLl.out).mono ?_
  rintro e w3 ⟨iv3, rfl, hi3, hb3⟩
  have hpl := keep (pageS_len l)
  have hpk : Kept ((pageS l).kind = 2) := keep rfl
  have hpn : Kept ((pageS l).lsn = 1) := keep rfl
  generalize pageS l = P at *
  obtain ⟨ia3, ic3, rfl⟩ := items_form hi3
  have hV3 := hV2.fits hb3
  have hv3 := hv2.fits hb3
  have hVb3 := hVb2.fits hb3
  have hg3 := Grow.trans hg2 hb3
  have HV3 := keep hV3
  have HVI := keep hv3
  have HG3 := keep hg3
  have HI3 := keep hi3
  clear hV2 hv2 hg2 hVb2 hl2 hb3
  unfold pgV
  go_upto_region 5 with fail
  obtain ⟨w4, hw4⟩ : ∃ w4, w4 = w3.alloc (.cells (pgCells P (.slice ia3 P.items.length ic3)).toArray 24) := ⟨_, rfl⟩
  have hga : Grow w3 w4 := by subst hw4; exact (Grow.refl _).alloc _
  have hP4 : Blk w4 w3.heap.size 24 (pgCells P (.slice ia3 P.items.length ic3)) := by subst hw4; exact Blk.new _ _ _
  have hV4 := hV3.fits hga
  have hv4 := hv3.fits hga
  have hVb4 := hVb3.fits hga
  have hg4 := Grow.trans hg3 hga
  have hi4 := Row.fits hi3 hga
  have HG34 := keep hga
  unfold pgCells at hw4
  rw [← hw4]
  clear hw4 hga hv3 hV3 hg3 hi3 hVb3
  unfold vwCells at hV4 hVb4
  obtain ⟨c0, c1, c2, c3, c4, c5, c6, c7, c8, c9, c10⟩ := vwres hV4
  have d1 := hVb4.cell 1 (by simp)
  simp only [List.getElem_cons_zero, List.getElem_cons_succ] at d1
  have hP4' := hP4
  unfold pgCells at hP4'
  obtain ⟨p0, p1, p2, p3, p4, p5, _⟩ := pgres hP4'
  go_wp2_with fail
  refine (sort_anyT V _ _ _ v.next 7 P _ _ hv4 hi4 (by rw [hpl.out]; exact HLl.out) (fun x hx => by have := HPs.out.1 x hx; omega)).mono ?_
  rintro e w5 ⟨fv, ov, gv, rfl, h1, h2, h3, hb5⟩
  have hup := keep (sort_up V v.next 7 P)
  have hdf := keep (fun m hl hS => do_frozen V v.next m P hpk.out hl hS _ rfl)
  have hdc := keep (fun m Q q hl hS => do_cleaned V v.next m P Q hpk.out q hl hS _ rfl)
  have hqn := keep (quiet_none V v.next 7 P hpk.out)
  have hqs := keep (fun (Q : Pg) (q : Quiet V v.next P Q) => quiet_sort 7 hpk.out q)
  have hqb := keep (fun (Q : Pg) (q : Quiet V v.next P Q) => quiet_bare 7 hpk.out q)
  have hKl : Kept ((sortS V v.next 7 P).fr.length ≤ P.items.length ∧ (sortS V v.next 7 P).off.length ≤ P.items.length ∧ (sortS V v.next 7 P).gone.length ≤ P.items.length) := keep (sortS_len V v.next 7 P)
  generalize sortS V v.next 7 P = K at *
  obtain ⟨fa, fc, rfl⟩ := rows_slice h1
  obtain ⟨oa, oc, rfl⟩ := rows_slice h2
  obtain ⟨ga, gc, rfl⟩ := rows_slice h3
  have hP5 := hP4.fits hb5
  have hg5 := Grow.trans hg4 hb5
  have hg35 : Grow w3 w5 := Grow.trans HG34.out hb5
  clear hv4 hi4 hV4 hVb4 hP4 hP4' hg4 hb5 c0 c1 c2 c3 c4 c5 c6 c7 c8 c9 c10 d1 p0 p1 p2 p3 p4 p5
  go_upto_region 7 with fail
  obtain ⟨w6, hw6⟩ : ∃ w6, w6 = w5.alloc (.cells #[.slice fa K.fr.length fc, .slice oa K.off.length oc, .slice ga K.gone.length gc] 72) := ⟨_, rfl⟩
  have hga : Grow w5 w6 := by subst hw6; exact (Grow.refl _).alloc _
  have hW6 : Blk w6 w5.heap.size 72 [.slice fa K.fr.length fc, .slice oa K.off.length oc, .slice ga K.gone.length gc] := by subst hw6; exact Blk.new _ _ [_, _, _]
  rw [← hw6]
  have hP6 := hP5.fits hga
  obtain ⟨wb, hwb⟩ : ∃ b, b = w5.heap.size := ⟨_, rfl⟩
  obtain ⟨pb, hpb⟩ : ∃ b, b = w3.heap.size := ⟨_, rfl⟩
  rw [← hwb] at hW6 ⊢
  rw [← hpb] at hP6 ⊢
  have HT6 := keep (show Tr w3 w6 pb wb K (.slice fa K.fr.length fc) (.slice oa K.off.length oc) (.slice ga K.gone.length gc) P (.slice ia3 P.items.length ic3) from ⟨Grow.trans hg35 hga, hW6, h1.fits hga, h2.fits hga, h3.fits hga, hP6, .inl HI3.out, by omega⟩)
  have hfb : (K.fr.length : Int) ≤ 8796093022208 := by have := hKl.out; have := hpl.out; have := HLl.out; omega
  have hob : (K.off.length : Int) ≤ 8796093022208 := by have := hKl.out; have := hpl.out; have := HLl.out; omega
  have hgb : (K.gone.length : Int) ≤ 8796093022208 := by have := hKl.out; have := hpl.out; have := HLl.out; omega
  have HA := keep (fun (u : World) (fv ov gv : Value) (h : WkIn u K fv ov gv) => frz_one 7 K _ _ u (freeze_any 7 K fv ov gv u h hfb hob))
  have HC := keep (fun (u : World) (fv ov gv : Value) (h : WkIn u K fv ov gv) => cln_one 7 K _ _ u (clean_any 7 K fv ov gv u h hgb hup.out))
  have HWk := keep (fun (u : World) (Q : Pg) (qv : Value) (t : Tr w3 u pb wb K (.slice fa K.fr.length fc) (.slice oa K.off.length oc) (.slice ga K.gone.length gc) Q qv) => t.work hfb hob hgb)
  have HB3 := keep (And.intro hfb (And.intro hob hgb))
  clear hfb hob hgb hw6 hga hwb hpb hP6 hP5 hg5 hg35 h1 h2 h3
  obtain ⟨y0, y1, y2, _⟩ := wkres hW6
  clear hW6
  go_wp2_with fail
  refine (HA.out w6 _ _ _ (HWk.out _ _ _ HT6.out)).mono ?_
  rintro e z1 ⟨sv, mv, rfl, hs, hq, hb⟩
  obtain ⟨sa, sc, rfl⟩ := rows_slice hs
  obtain ⟨ma, mc, rfl⟩ := rows_slice hq
  have HT7 := keep (HT6.out.fits hb)
  have HS7 := keep hs
  have HQ7 := keep hq
  have HFz := keep (frz_cases K 7)
  generalize fzB K = bb at *
  generalize fzK K = kk at *
  generalize fzP K 7 = pp at *
  clear hs hq hb y0 y1 y2 HT6 HA
  unfold recR
  go_upto_region 8 with fail
  obtain ⟨w8, hw8⟩ : ∃ w8, w8 = z1.alloc (.cells #[.int .i64 0, .int .i64 0, .int .i64 0, .int .u8 kk, .int .i64 0, .int .i64 pp, .int .i64 0, .int .i64 0, .int .i64 0, .int .i64 0, .string ⟨#[]⟩, .slice sa K.fr.length sc, .slice ma K.off.length mc, .slice none 0 0, .slice none 0 0, .slice none 0 0] 33) := ⟨_, rfl⟩
  rw [← hw8]
  have hga : Grow z1 w8 := by subst hw8; exact (Grow.refl _).alloc _
  have hR8 : Blk w8 z1.heap.size 33 [.int .i64 0, .int .i64 0, .int .i64 0, .int .u8 kk, .int .i64 0, .int .i64 pp, .int .i64 0, .int .i64 0, .int .i64 0, .int .i64 0, .string ⟨#[]⟩, .slice sa K.fr.length sc, .slice ma K.off.length mc, .slice none 0 0, .slice none 0 0, .slice none 0 0] := by subst hw8; exact Blk.new z1 _ [_, _, _, _, _, _, _, _, _, _, _, _, _, _, _, _]
  have hnr := HT7.out.grow.size
  obtain ⟨rb, hrb⟩ : ∃ b, b = z1.heap.size := ⟨_, rfl⟩
  rw [← hrb] at hR8 hnr ⊢
  have HNr := keep hnr
  have HT8 := keep (HT7.out.fits hga)
  have HS8 := keep (HS7.out.fits hga)
  have HQ8 := keep (HQ7.out.fits hga)
  have HR8 := keep hR8
  clear hw8 hga hrb HT7 HS7 HQ7 hnr
  have r0 := hR8.cell 0 (by simp)
  have z0 := hR8.free 0
  simp only [List.getElem_cons_zero] at r0
  clear hR8
  go_upto_if 43 with fail
  obtain ⟨w9, hw9⟩ : ∃ w9, w9 = w8.setCell ⟨rb, 0, none⟩ (.int .i64 5) := ⟨_, rfl⟩
  rw [← hw9]
  have hk9 := (But.refl rb w8).setCell 0 (.int .i64 5)
  have hr9 := HR8.out.set 0 (.int .i64 5)
  rw [← hw9] at hk9 hr9
  have HR9 := keep (show Blk w9 rb 33 [.int .i64 5, .int .i64 0, .int .i64 0, .int .u8 kk, .int .i64 0, .int .i64 pp, .int .i64 0, .int .i64 0, .int .i64 0, .int .i64 0, .string ⟨#[]⟩, .slice sa K.fr.length sc, .slice ma K.off.length mc, .slice none 0 0, .slice none 0 0, .slice none 0 0] from hr9)
  have HT9 := keep (HT8.out.record HR8.out hk9 HNr.out)
  have HS9 := keep (HS8.out.but hk9 (ne_blk HR8.out (by decide)))
  have HQ9 := keep (HQ8.out.but hk9 (ne_blk HR8.out (by decide)))
  clear hw9 hk9 hr9 r0 z0 HR8 HT8 HS8 HQ8
  go_cut [14, 15] from 43 to 56 (fun _ _ wx => ∃ (Q : Pg) (qa : Option Addr) (qc : Nat), Kept (Quiet V v.next P Q) ∧ Kept (Q.lsn ≤ 5) ∧ Kept (PgS Q) ∧ Kept (Tr w3 wx pb wb K (.slice fa K.fr.length fc) (.slice oa K.off.length oc) (.slice ga K.gone.length gc) Q (.slice qa Q.items.length qc)) ∧ Kept (Blk wx rb 33 [.int .i64 5, .int .i64 0, .int .i64 0, .int .u8 kk, .int .i64 0, .int .i64 pp, .int .i64 0, .int .i64 0, .int .i64 0, .int .i64 0, .string ⟨#[]⟩, .slice sa K.fr.length sc, .slice ma K.off.length mc, .slice none 0 0, .slice none 0 0, .slice none 0 0]))
  case first =>
   rcases HFz.out with ⟨rfl, hf, ho⟩ | ⟨rfl, rfl, rfl⟩
   ·have HF := keep hf
    have HO := keep ho
    clear hf ho HFz
    go_wp2_with fail
    go_meet
    case rel => exact ⟨P, ia3, ic3, keep (hqn.out HF.out HO.out), keep (by rw [hpn.out]; decide), keep HPs.out, HT9, HR9⟩
   ·clear HFz
    have hV := HV3.out.fits HT9.out.grow
    unfold vwCells at hV
    have d0 := hV.cell 0 (by simp)
    simp only [List.getElem_cons_zero] at d0
    clear hV
    have hcall := do_any V.m P (.slice ia3 P.items.length ic3) 7 ⟨5, 0, 0, 10, 0, 7, 0, 0, 0, 0, [], K.fr, K.off, []⟩ ⟨sa, sc, ma, mc, none, 0, none, 0, 0, none, 0, 0⟩ w9 (pgS_in HT9.out.items HPs.out) HPs.out.2.2.1 ⟨HS9.out.weak, HQ9.out.weak, Row.nil _ _ _ _, fun m hm => (by cases hm), by dsimp only; decide, by have := HB3.out; dsimp only; omega, by have := HB3.out; dsimp only; omega, by dsimp only; decide, by dsimp only; decide, by dsimp only; decide⟩
    have hdo := hdf.out V.m hpn.out HPs.out
    have HRq := keep (show Blk w9 rb 33 (rcC ⟨5, 0, 0, 10, 0, 7, 0, 0, 0, 0, [], K.fr, K.off, []⟩ ⟨sa, sc, ma, mc, none, 0, none, 0, 0, none, 0, 0⟩) from HR9.out)
    generalize hA : doN V.m P 7 ⟨5, 0, 0, 10, 0, 7, 0, 0, 0, 0, [], K.fr, K.off, []⟩ = A at *
    obtain ⟨A1, A2⟩ := A
    unfold CpgPost pgV rcV at hcall
    dsimp only [List.length_nil] at hcall hdo
    have HCall := keep hcall
    have HDo := keep hdo
    have HPq := keep HT9.out.pg
    clear hcall hdo hA
    go_wp2_with (first | refine wpList_load_box sizePage underPg (by kernel_rfl) rfl _ rfl pb rfl HPq.out rfl ?_ | refine wpList_load_box sizeRecord underRec (by kernel_rfl) rfl _ rfl rb rfl HRq.out rfl ?_)
    refine HCall.out.mono ?_
    rintro y wx ⟨jv, rfl, hj, hbx⟩
    obtain ⟨ja, jc, rfl⟩ := itemsS_form hj
    have HTx := keep (HT9.out.fits hbx)
    have HRx := keep (HR9.out.fits hbx)
    have HJx := keep hj
    clear hj hbx HCall d0 HRq HPq
    go_upto_region 11 with fail
    obtain ⟨wy, hwy⟩ : ∃ wy, wy = wx.alloc (.cells #[.int .i64 A1.lsn, .int .i64 A1.kind, .int .i64 A1.level, .int .i64 A1.right, .string (str A1.high), .slice ja A1.items.length jc] 24) := ⟨_, rfl⟩
    rw [← hwy]
    have hgy : Grow wx wy := by subst hwy; exact (Grow.refl _).alloc _
    have hAy : Blk wy wx.heap.size 24 (pgCells A1 (.slice ja A1.items.length jc)) := by subst hwy; exact Blk.new wx _ [_, _, _, _, _, _]
    obtain ⟨ab, hab⟩ : ∃ b, b = wx.heap.size := ⟨_, rfl⟩
    rw [← hab] at hAy ⊢
    have HAy := keep hAy
    have HTy := keep (HTx.out.fits hgy)
    have HRy := keep (HRx.out.fits hgy)
    have HJy := keep (RowS.fits HJx.out hgy)
    clear hwy hgy hAy hab HTx HRx HJx
    by_cases hA2 : A2 = 0
    case neg =>
     have e1 : (A2 != 0) = true := by simp [hA2]
     clear hA2
     go_wp2_with fail
     refine (awakeV_any _).mono ?_
     rintro y wz ⟨rfl, hbz⟩
     have HGz := keep (Grow.trans HG3.out (Grow.trans HTy.out.grow hbz))
     clear hbz
     go_wp2_with fail
     go_ret
     exact ⟨rfl, HGz.out⟩
    subst hA2
    have HDn := keep (HDo.out rfl)
    clear HDo
    have HPy := keep HTy.out.pg
    go_wp2_with (first | refine wpList_load_box sizePage underPg (by kernel_rfl) rfl _ rfl ab rfl HAy.out rfl ?_ | ((refine wpList_store_box sizePage rfl _ _ rfl pb _ rfl rfl HPy.out rfl rfl rfl ?_); intro wv hset hbv; have Hset := keep hset; have Hbut := keep hbv; clear hset hbv))
    go_meet
    case rel => exact ⟨A1, ja, jc, keep HDn.out.1, keep HDn.out.2.1, keep HDn.out.2.2, keep (HTy.out.page Hbut.out Hset.out HJy.out), keep (Tr.recBlk HRy.out HPy.out Hbut.out (by decide))⟩
  case rest =>
  obtain ⟨Q, qa, qc, hq, hl, hS, hT, hR⟩ := hcut
  generalize wc = u1 at *
  have HQq := hq
  have HQs := keep (hqs.out Q hq.out)
  have hlen : Q.items.length = P.items.length := hq.out.len
  have HQl := keep (show (Q.items.length : Int) ≤ 1759218604441 by rw [hlen, hpl.out]; exact HLl.out)
  clear hq hlen HT9 HR9 HS9 HQ9 HFz
  have hV := HV3.out.fits hT.out.grow
  unfold vwCells at hV
  obtain ⟨c0, c1, c2, c3, c4, c5, c6, c7, c8, c9, c10⟩ := vwres hV
  have hpg := hT.out.pg
  unfold pgCells at hpg
  obtain ⟨p0, p1, p2, p3, p4, p5, _⟩ := pgres hpg
  clear hV hpg
  go_wp2_with fail
  refine (sort_anyT V _ _ _ v.next 7 Q _ u1 (HVI.out.fits hT.out.grow) hT.out.items HQl.out (fun x hx => by have := hS.out.1 x hx; omega)).mono ?_
  rintro e u2 ⟨f2, o2, g2, rfl, h1, h2, h3, hb⟩
  obtain ⟨e1, e2, e3⟩ := HQs.out
  obtain ⟨fb, fd, rfl⟩ := rows_slice h1
  obtain ⟨ob, od, rfl⟩ := rows_slice h2
  obtain ⟨gb, gd, rfl⟩ := rows_slice h3
  have hT2 := hT.out.fits hb
  have hR2 := hR.out.fits hb
  simp only [e1, e2, e3, List.length_nil]
  have HT2 := keep hT2
  have HR2 := keep hR2
  clear h1 h2 h3 hb e1 e2 e3 hT hR c0 c1 c2 c3 c4 c5 c6 c7 c8 c9 c10 p0 p1 p2 p3 p4 p5 hT2 hR2 HQs
  go_upto_region 15 with fail
  obtain ⟨u3, hu3⟩ : ∃ u3, u3 = u2.alloc (.cells #[.slice fb 0 fd, .slice ob 0 od, .slice gb K.gone.length gd] 72) := ⟨_, rfl⟩
  have hga : Grow u2 u3 := by subst hu3; exact (Grow.refl _).alloc _
  have hW3 : Blk u3 u2.heap.size 72 [.slice fb 0 fd, .slice ob 0 od, .slice gb K.gone.length gd] := by subst hu3; exact Blk.new _ _ [_, _, _]
  rw [← hu3]
  have HT3 := keep (HT2.out.fits hga)
  have HR3 := keep (HR2.out.fits hga)
  clear hu3 hga HT2 HR2
  obtain ⟨x0, x1, x2, _⟩ := wkres hW3
  obtain ⟨y0, y1, y2, _⟩ := wkres HT3.out.wk
  have q1 : ((K.gone.length : Int) != (K.gone.length : Int)) = false := bne_self_eq_false _
  clear hW3
  go_upto_region 17 with fail
  clear x0 x1 x2 q1
  go_wp2_with fail
  refine (HC.out u3 _ _ _ (HWk.out _ _ _ HT3.out)).mono ?_
  rintro e z2 ⟨sv, mv, rfl, hs, hq, hb⟩
  obtain ⟨sb, sd, rfl⟩ := rows_slice hs
  obtain ⟨mb, md, rfl⟩ := rows_slice hq
  have HT4 := keep (HT3.out.fits hb)
  have HR4 := keep (HR3.out.fits hb)
  have HS4 := keep hs
  have HQ4 := keep hq
  have HCz := keep (cln_cases K 7)
  generalize clB K = bb2 at *
  generalize clK K = kk2 at *
  generalize clP K 7 = pp2 at *
  clear hs hq hb y0 y1 y2 HT3 HR3 HC
  unfold recR
  go_upto_region 18 with ((refine wpList_store_box sizeRecord rfl _ _ rfl rb _ rfl rfl HR4.out rfl rfl rfl ?_); intro wv hset hbv; have Hset := keep hset; have Hbut := keep hbv; clear hset hbv)
  have HR5 := keep Hset.out
  have HT5 := keep (HT4.out.record HR4.out Hbut.out HNr.out)
  have HS5 := keep (HS4.out.but Hbut.out (ne_blk HR4.out (by decide)))
  have HQ5 := keep (HQ4.out.but Hbut.out (ne_blk HR4.out (by decide)))
  have r0 := HR5.out.cell 0 (by simp)
  have z0 := HR5.out.free 0
  simp only [List.getElem_cons_zero] at r0
  clear Hset Hbut HR4 HT4 HS4 HQ4
  generalize hwv : wv = wv' at *
  go_upto_if 85 with fail
  obtain ⟨w9, hw9⟩ : ∃ w9, w9 = wv'.setCell ⟨rb, 0, none⟩ (.int .i64 6) := ⟨_, rfl⟩
  rw [← hw9]
  have hk9 := (But.refl rb wv').setCell 0 (.int .i64 6)
  have hr9 := HR5.out.set 0 (.int .i64 6)
  rw [← hw9] at hk9 hr9
  have HR9 := keep (show Blk w9 rb 33 [.int .i64 6, .int .i64 0, .int .i64 0, .int .u8 kk2, .int .i64 0, .int .i64 pp2, .int .i64 0, .int .i64 0, .int .i64 0, .int .i64 0, .string ⟨#[]⟩, .slice sb (slotsOf K).length sd, .slice mb 0 md, .slice none 0 0, .slice none 0 0, .slice none 0 0] from hr9)
  have HT9 := keep (HT5.out.record HR5.out hk9 HNr.out)
  have HS9 := keep (HS5.out.but hk9 (ne_blk HR5.out (by decide)))
  have HQ9 := keep (HQ5.out.but hk9 (ne_blk HR5.out (by decide)))
  clear hw9 hk9 hr9 r0 z0 HR5 HT5 HS5 HQ5
  go_cut [17, 18] from 85 to 97 (fun _ _ wx => ∃ (Q' : Pg) (qa : Option Addr) (qc : Nat), Kept (sortS V v.next 7 Q' = ⟨[], [], []⟩) ∧ Kept (PgS Q') ∧ Kept ((Q'.items.length : Int) ≤ 1759218604441) ∧ Kept (Tr w3 wx pb wb K (.slice fa K.fr.length fc) (.slice oa K.off.length oc) (.slice ga K.gone.length gc) Q' (.slice qa Q'.items.length qc)))
  case first =>
   rcases HCz.out with ⟨rfl, hf⟩ | ⟨rfl, rfl, rfl⟩
   ·have HF := keep hf
    clear hf HCz
    go_wp2_with fail
    go_meet
    case rel => exact ⟨Q, qa, qc, keep (hqb.out Q HQq.out HF.out), hS, HQl, HT9⟩
   ·clear HCz
    have hV := HV3.out.fits HT9.out.grow
    unfold vwCells at hV
    have d0 := hV.cell 0 (by simp)
    simp only [List.getElem_cons_zero] at d0
    clear hV
    have hcall := do_any V.m Q (.slice qa Q.items.length qc) 7 ⟨6, 0, 0, 9, 0, 7, 0, 0, 0, 0, [], slotsOf K, [], []⟩ ⟨sb, sd, mb, md, none, 0, none, 0, 0, none, 0, 0⟩ w9 (pgS_in HT9.out.items hS.out) hS.out.2.2.1 ⟨HS9.out.weak, HQ9.out.weak, Row.nil _ _ _ _, fun m hm => (by cases hm), by dsimp only; decide, by have := HB3.out; dsimp only [slotsOf]; rw [List.length_map]; omega, by have := HB3.out; dsimp only [List.length_nil]; decide, by dsimp only; decide, by dsimp only; decide, by dsimp only; decide⟩
    have hdo := hdc.out V.m Q HQq.out hl.out hS.out
    have HRq := keep (show Blk w9 rb 33 (rcC ⟨6, 0, 0, 9, 0, 7, 0, 0, 0, 0, [], slotsOf K, [], []⟩ ⟨sb, sd, mb, md, none, 0, none, 0, 0, none, 0, 0⟩) from HR9.out)
    generalize hA : doN V.m Q 7 ⟨6, 0, 0, 9, 0, 7, 0, 0, 0, 0, [], slotsOf K, [], []⟩ = A at *
    obtain ⟨A1, A2⟩ := A
    unfold CpgPost pgV rcV at hcall
    dsimp only [List.length_nil] at hcall hdo
    have HCall := keep hcall
    have HDo := keep hdo
    have HPq := keep HT9.out.pg
    clear hcall hdo hA
    go_wp2_with (first | refine wpList_load_box sizePage underPg (by kernel_rfl) rfl _ rfl pb rfl HPq.out rfl ?_ | refine wpList_load_box sizeRecord underRec (by kernel_rfl) rfl _ rfl rb rfl HRq.out rfl ?_)
    refine HCall.out.mono ?_
    rintro y wx ⟨jv, rfl, hj, hbx⟩
    obtain ⟨ja, jc, rfl⟩ := itemsS_form hj
    have HTx := keep (HT9.out.fits hbx)
    have HRx := keep (HR9.out.fits hbx)
    have HJx := keep hj
    clear hj hbx HCall d0 HRq HPq
    go_upto_region 21 with fail
    obtain ⟨wy, hwy⟩ : ∃ wy, wy = wx.alloc (.cells #[.int .i64 A1.lsn, .int .i64 A1.kind, .int .i64 A1.level, .int .i64 A1.right, .string (str A1.high), .slice ja A1.items.length jc] 24) := ⟨_, rfl⟩
    rw [← hwy]
    have hgy : Grow wx wy := by subst hwy; exact (Grow.refl _).alloc _
    have hAy : Blk wy wx.heap.size 24 (pgCells A1 (.slice ja A1.items.length jc)) := by subst hwy; exact Blk.new wx _ [_, _, _, _, _, _]
    obtain ⟨ab, hab⟩ : ∃ b, b = wx.heap.size := ⟨_, rfl⟩
    rw [← hab] at hAy ⊢
    have HAy := keep hAy
    have HTy := keep (HTx.out.fits hgy)
    have HRy := keep (HRx.out.fits hgy)
    have HJy := keep (RowS.fits HJx.out hgy)
    clear hwy hgy hAy hab HTx HRx HJx
    by_cases hA2 : A2 = 0
    case neg =>
     have e1 : (A2 != 0) = true := by simp [hA2]
     clear hA2
     go_wp2_with fail
     refine (awakeV_any _).mono ?_
     rintro y wz ⟨rfl, hbz⟩
     have HGz := keep (Grow.trans HG3.out (Grow.trans HTy.out.grow hbz))
     clear hbz
     go_wp2_with fail
     go_ret
     exact ⟨rfl, HGz.out⟩
    subst hA2
    have HDn := keep (HDo.out rfl)
    have HLA := keep (show (A1.items.length : Int) ≤ 1759218604441 by rw [HDn.out.2.1]; exact HQl.out)
    clear HDo
    have HPy := keep HTy.out.pg
    go_wp2_with (first | refine wpList_load_box sizePage underPg (by kernel_rfl) rfl _ rfl ab rfl HAy.out rfl ?_ | ((refine wpList_store_box sizePage rfl _ _ rfl pb _ rfl rfl HPy.out rfl rfl rfl ?_); intro wv hset hbv; have Hset := keep hset; have Hbut := keep hbv; clear hset hbv))
    go_meet
    case rel => exact ⟨A1, ja, jc, keep HDn.out.1, keep HDn.out.2.2, keep HLA.out, keep (HTy.out.page Hbut.out Hset.out HJy.out)⟩
  case rest =>
  obtain ⟨Q', qa', qc', hq, hS', hl', hT⟩ := hcut
  generalize wc = u4 at *
  clear HT9 HR9 HS9 HQ9 HCz
  have hV := HV3.out.fits hT.out.grow
  unfold vwCells at hV
  obtain ⟨c0, c1, c2, c3, c4, c5, c6, c7, c8, c9, c10⟩ := vwres hV
  have hpg := hT.out.pg
  unfold pgCells at hpg
  obtain ⟨p0, p1, p2, p3, p4, p5, _⟩ := pgres hpg
  clear hV hpg
  have HS' := hS'
  have HT' := hT
  have HQ' := hq
  clear hq hS' hT
  go_wp2_with fail
  refine (sort_anyT V _ _ _ v.next 7 Q' _ u4 (HVI.out.fits HT'.out.grow) HT'.out.items hl'.out (fun x hx => by have := HS'.out.1 x hx; omega)).mono ?_
  rintro e u5 ⟨f2, o2, g2, rfl, h1, h2, h3, hb⟩
  have e1 := HQ'.out
  have hk5 := sort_in hl'.out h1.weak h2.weak h3.weak
  rw [e1] at h1 h2 h3 hk5
  obtain ⟨fx, fy, rfl⟩ := rows_slice h1
  obtain ⟨ox, oy, rfl⟩ := rows_slice h2
  obtain ⟨gx, gy, rfl⟩ := rows_slice h3
  have hwk : WkIn u5 ⟨[], [], []⟩ (.slice none 0 0) (.slice none 0 0) (.slice none 0 0) := ⟨Row.nil _ _ _ _, Row.nil _ _ _ _, Row.nil _ _ _ _, by decide, by decide, by decide⟩
  have HWk5 := keep hk5
  have HW0 := keep hwk
  have HG5 := keep (Grow.trans HG3.out (Grow.trans HT'.out.grow hb))
  clear h1 h2 h3 hk5 hwk e1 hb c0 c1 c2 c3 c4 c5 c6 c7 c8 c9 c10 p0 p1 p2 p3 p4 p5
  go_wp2_with fail
  refine (same_any ⟨[], [], []⟩ ⟨[], [], []⟩ _ _ _ _ _ _ u5 HWk5.out HW0.out).mono ?_
  rintro e u6' ⟨rfl, hb⟩
  rw [sameW_self]
  have HG6 := keep (Grow.trans HG5.out hb)
  clear hb
  go_wp2_with fail
  refine (awakeV_any _).mono ?_
  rintro y wz ⟨rfl, hbz⟩
  have HGz := keep (Grow.trans HG6.out hbz)
  clear hbz
  go_wp2_with fail
  go_ret
  exact ⟨rfl, HGz.out⟩
end Go.Proofs.YtmhepfehcakmjaaGreat.Vac
