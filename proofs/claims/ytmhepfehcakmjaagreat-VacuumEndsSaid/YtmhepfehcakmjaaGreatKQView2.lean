import Derived.Test.YtmhepfehcakmjaaGreatKQSame1
import Derived.Test.YtmhepfehcakmjaaGreatKRelk
import Derived.Deep.Cut
namespace Go.Proofs.YtmhepfehcakmjaaGreat.Vac
open Go.RowKit
attribute [local go_sem] gives givesUpon_value givesUpon_skip givesUpon_enter
def Good (Q : Pg) (cs : List Value) (w : World) : Prop := ∃ iv, cs = pgCells Q iv ∧ ItemsS w iv Q.items
theorem good_stays (Q : Pg) : Lasts 24 (Good Q) := by
 rintro cs u v h ⟨iv, h1, h2⟩
 exact ⟨iv, h1, h2.move fun c blk f hb => h c blk _ f (by decide) hb⟩
theorem good_lasts {N b : Nat} {Q : Pg} {u v : World} {iv : Value} (h : Fill N 24 (Good Q) u v) (hb : Blk u b 24 (pgCells Q iv)) (hi : ItemsS u iv Q.items) :
  ∃ iv', Blk v b 24 (pgCells Q iv') ∧ ItemsS v iv' Q.items := by
 rcases h.page b _ hb with hw | ⟨cs', _, ⟨iv', rfl, hi'⟩, hw⟩
 ·exact ⟨iv, hw, h.row hi (by decide)⟩
 ·exact ⟨iv', hw, hi'⟩
theorem some_len {N t b n : Nat} {G : List Value → World → Prop} {cs : List Value} {u w : World} (h : Fill N t G u w) (hb : Blk u b t cs) (hl : cs.length = n) : ∃ cs', cs'.length = n ∧ Blk w b t cs' := by
 obtain ⟨cs', h1, h2⟩ := h.some hb
 exact ⟨cs', h1.trans hl, h2⟩
theorem six_cells {cs : List Value} (h : cs.length = pg0.length) : ∃ a0 a1 a2 a3 a4 a5, cs = [a0, a1, a2, a3, a4, a5] := by
 match cs, h with
 | [a0, a1, a2, a3, a4, a5], _ => exact ⟨_, _, _, _, _, _, rfl⟩
def vw0 : List Value := [.int .i64 0, .int .i64 0, .slice none 0 0, .int .i64 0, .slice none 0 0, .int .i64 0, .int .i64 0, .int .i64 0, .int .i64 0, .string ⟨#[]⟩, .slice none 0 0]
theorem cell_on {B : Nat} {w w' : World} {p : Addr} {v : Value} (h : Below B w w') (hB : w.heap.size ≤ B) (hc : w.cell? p = some v) : w'.cell? p = some v :=
 (h.cell (Nat.lt_of_lt_of_le (World.block_lt_of_cell? w p hc) hB)).trans hc
theorem three_cells {w : World} {b t : Nat} {v0 v1 v2 : Value} (h : Blk w b t [v0, v1, v2]) : w.cell? ⟨b, 0, none⟩ = some v0 ∧ w.cell? ⟨b, 1, none⟩ = some v1 ∧ w.cell? ⟨b, 2, none⟩ = some v2 := ⟨h.cell 0 (by simp), h.cell 1 (by simp), h.cell 2 (by simp)⟩
theorem blankS_fine (m fr : Int) : ∀ x ∈ (blankS m fr).1.items, (x.length : Int) ≤ 9223372036854775807 := by
 unfold blankS
 split
 ·rename_i h
  obtain ⟨hm, _, _⟩ := idsB_one h
  obtain ⟨_, hm2, _⟩ := modB_bd hm
  intro x hx
  simp only [madeP, List.mem_cons, List.not_mem_nil, or_false] at hx
  rcases hx with rfl | rfl
  ·have := sev_length fr.toNat; omega
  ·simp; omega
 ·simp [noPg]
theorem setS_fine (m : Int) (p : Pg) (x : Int) (s : Nat) (h : (setS m p x s).2 = 0) : ∀ y ∈ (setS m p x s).1.items, (y.length : Int) ≤ 9223372036854775807 := by
 unfold setS at *
 split at h
 ·rename_i h0
  rw [if_pos h0]
  split at h
  ·rename_i h1
   rw [if_pos h1]
   obtain ⟨_, hm2, _⟩ := modB_bd (openE_zero h0).1
   have hl := (openE_len h0).2.1
   intro y hy
   simp only [madeP, List.mem_cons, List.not_mem_nil, or_false] at hy
   rcases hy with rfl | rfl
   ·have := sev_length (openNum m p).1.toNat; omega
   ·simp only [putS, List.length_set]; omega
  ·simp at h
 ·rename_i h0
  exact absurd h h0
theorem vwset {w : World} {b t : Nat} {a0 a1 a2 a3 a4 a5 a6 a7 a8 a9 a10 : Value} (h : Blk w b t [a0, a1, a2, a3, a4, a5, a6, a7, a8, a9, a10]) (v0 v1 v2 v3 v4 v5 v6 v7 v8 v9 v10 : Value) :
  Blk (((((((((((w.setCell ⟨b, 0, none⟩ v0).setCell ⟨b, 1, none⟩ v1).setCell ⟨b, 2, none⟩ v2).setCell ⟨b, 3, none⟩ v3).setCell ⟨b, 4, none⟩ v4).setCell ⟨b, 5, none⟩ v5).setCell ⟨b, 6, none⟩ v6).setCell ⟨b, 7, none⟩ v7).setCell ⟨b, 8, none⟩ v8).setCell ⟨b, 9, none⟩ v9).setCell ⟨b, 10, none⟩ v10) b t [v0, v1, v2, v3, v4, v5, v6, v7, v8, v9, v10] :=
 ((((((((((h.set 0 v0).set 1 v1).set 2 v2).set 3 v3).set 4 v4).set 5 v5).set 6 v6).set 7 v7).set 8 v8).set 9 v9).set 10 v10
theorem vwbut (w : World) (b : Nat) (v0 v1 v2 v3 v4 v5 v6 v7 v8 v9 v10 : Value) :
  But b w (((((((((((w.setCell ⟨b, 0, none⟩ v0).setCell ⟨b, 1, none⟩ v1).setCell ⟨b, 2, none⟩ v2).setCell ⟨b, 3, none⟩ v3).setCell ⟨b, 4, none⟩ v4).setCell ⟨b, 5, none⟩ v5).setCell ⟨b, 6, none⟩ v6).setCell ⟨b, 7, none⟩ v7).setCell ⟨b, 8, none⟩ v8).setCell ⟨b, 9, none⟩ v9).setCell ⟨b, 10, none⟩ v10) :=
 (((((((((((But.refl b w).setCell 0 v0).setCell 1 v1).setCell 2 v2).setCell 3 v3).setCell 4 v4).setCell 5 v5).setCell 6 v6).setCell 7 v7).setCell 8 v8).setCell 9 v9).setCell 10 v10
theorem clset {w : World} {b t : Nat} {a0 a1 a2 a3 a4 a5 a6 a7 a8 a9 a10 : Value} (h : Blk w b t [a0, a1, a2, a3, a4, a5, a6, a7, a8, a9, a10]) (v5 v6 v7 v8 v9 v10 : Value) :
  Blk ((((((w.setCell ⟨b, 5, none⟩ v5).setCell ⟨b, 6, none⟩ v6).setCell ⟨b, 7, none⟩ v7).setCell ⟨b, 8, none⟩ v8).setCell ⟨b, 9, none⟩ v9).setCell ⟨b, 10, none⟩ v10) b t [a0, a1, a2, a3, a4, v5, v6, v7, v8, v9, v10] :=
 (((((h.set 5 v5).set 6 v6).set 7 v7).set 8 v8).set 9 v9).set 10 v10
theorem clbut (w : World) (b : Nat) (v5 v6 v7 v8 v9 v10 : Value) :
  But b w ((((((w.setCell ⟨b, 5, none⟩ v5).setCell ⟨b, 6, none⟩ v6).setCell ⟨b, 7, none⟩ v7).setCell ⟨b, 8, none⟩ v8).setCell ⟨b, 9, none⟩ v9).setCell ⟨b, 10, none⟩ v10) :=
 ((((((But.refl b w).setCell 5 v5).setCell 6 v6).setCell 7 v7).setCell 8 v8).setCell 9 v9).setCell 10 v10
def lk20 (j : Nat) : Nat := if j = 20 then 19 else j
def saidCells (l : List (Int × Nat)) : List Value := l.flatMap fun x => [.int .i64 x.1, .int .u8 x.2]
def viewK (m : Int) (P : Pg) (l : List (Int × Nat)) : Nat → Pg
 | 0 => P
 | k + 1 => if (setS m (viewK m P l k) (l.getD k (0, 0)).1 (l.getD k (0, 0)).2).2 = 0 then (setS m (viewK m P l k) (l.getD k (0, 0)).1 (l.getD k (0, 0)).2).1 else viewK m P l k
def viewS (m fr : Int) (l : List (Int × Nat)) (v : Vw) : Vw × Bool :=
 if (blankS m fr).2 = 0 then ({ v with m := m, clog := viewK m (blankS m fr).1 l l.length }, true) else (v, false)
theorem viewK_fine (m : Int) (P : Pg) (l : List (Int × Nat)) (hP : ∀ y ∈ P.items, (y.length : Int) ≤ 9223372036854775807) (k : Nat) : ∀ y ∈ (viewK m P l k).items, (y.length : Int) ≤ 9223372036854775807 := by
 induction k with
 | zero => exact hP
 | succ k ih =>
  rw [viewK]
  split
  ·rename_i h; exact setS_fine _ _ _ _ h
  ·exact ih
theorem said_get {w : World} {sv : Value} {l : List (Int × Nat)} (h : Row w 98 sv l.length (saidCells l)) :
  ∃ a cap, sv = .slice a l.length cap ∧ ∀ j, j < l.length → ∃ c off, a = some ⟨c, off, none⟩ ∧ w.cell? ⟨c, off + j * 2, none⟩ = some (.int .i64 (l.getD j (0, 0)).1) ∧ w.cell? ⟨c, off + j * 2 + 1, none⟩ = some (.int .u8 (l.getD j (0, 0)).2) := by
 have hlen : ∀ l : List (Int × Nat), (saidCells l).length = l.length * 2 := by
  intro l; induction l with
  | nil => rfl
  | cons x l ih => simp only [saidCells, List.flatMap_cons, List.length_append, List.length_cons] at ih ⊢; rw [ih]; simp; omega
 have hget : ∀ (l : List (Int × Nat)) (j : Nat), j < l.length → (saidCells l)[j * 2]? = some (.int .i64 (l.getD j (0, 0)).1) ∧ (saidCells l)[j * 2 + 1]? = some (.int .u8 (l.getD j (0, 0)).2) := by
  intro l; induction l with
  | nil => intro j hj; simp at hj
  | cons x l ih =>
   intro j hj
   cases j with
   | zero => simp [saidCells]
   | succ j =>
    have := ih j (by simpa using hj)
    have e : (j + 1) * 2 = j * 2 + 1 + 1 := by omega
    simp only [saidCells, List.flatMap_cons, List.cons_append, List.nil_append, e, List.getElem?_cons_succ, List.getD_cons_succ] at this ⊢
    exact this
 rcases h with ⟨h1, _, a, cap, h2⟩ | ⟨c, off, cap, h1, h3⟩
 ·exact ⟨a, cap, by rw [h2, h1], fun j hj => by omega⟩
 ·refine ⟨_, _, h1, fun j hj => ⟨c, off, rfl, ?_, ?_⟩⟩
  ·have hb : j * 2 < (saidCells l).length := by rw [hlen]; omega
   have e := (hget l j hj).1
   rw [List.getElem?_eq_getElem hb] at e
   exact (h3 (j * 2) hb).trans e
  ·have hb : j * 2 + 1 < (saidCells l).length := by rw [hlen]; omega
   have e := (hget l j hj).2
   rw [List.getElem?_eq_getElem hb] at e
   rw [Nat.add_assoc]
   exact (h3 (j * 2 + 1) hb).trans e
set_option maxRecDepth 100000 in
set_option maxHeartbeats 2000000 in
theorem view_ok (m fr : Int) (sv : Value) (l : List (Int × Nat)) (v : Vw) (av rv iv : Value) (w_ : World) (hsv : Row w_ 98 sv l.length (saidCells l)) (hlen : (l.length : Int) ≤ 70368744177664) (hs8 : ∀ x ∈ l, x.2 < 256) (hv : VwIn w_ v av rv iv) (hok : (blankS m fr).2 = 0) :
  Calls Tryz.prog 17 #[.agg #[.int .i64 m, .int .i64 fr, sv], vwV v av rv iv] w_ fun e w' => ∃ iv', e = .returned (.tuple #[vwV (viewS m fr l v).1 av rv iv', .bool (viewS m fr l v).2]) ∧ Items w' iv' (viewS m fr l v).1.clog.items ∧ Below w_.heap.size w_ w' := by
 obtain ⟨sa, sc, rfl, hsaid⟩ := said_get hsv
 obtain ⟨iva, ivc, rfl⟩ := items_form hv.items
 obtain ⟨rva, rvc, rfl, _⟩ := ints_form hv.run
 obtain ⟨ava, avc, rfl, _⟩ := ints_form hv.act
 obtain ⟨w0, hw0⟩ : ∃ w0, w0 = ((w_.alloc (.cells #[.int .i64 m, .int .i64 fr, .slice sa l.length sc] 61)).alloc (.cells (vwCells v (.slice ava v.active.length avc) (.slice rva v.running.length rvc) (.slice iva v.clog.items.length ivc)).toArray 65)).alloc (.cells vw0.toArray 65) := ⟨_, rfl⟩
 have hg0 : Grow w_ w0 := by subst hw0; exact (((Grow.refl w_).alloc _).alloc _).alloc _
 have hM0 : Blk w0 w_.heap.size 61 [.int .i64 m, .int .i64 fr, .slice sa l.length sc] := by subst hw0; exact ((Blk.new w_ _ _).alloc _).alloc _
 have hV0 : Blk w0 (w_.heap.size + 1) 65 (vwCells v (.slice ava v.active.length avc) (.slice rva v.running.length rvc) (.slice iva v.clog.items.length ivc)) := by
  have := (Blk.new (w_.alloc (.cells #[.int .i64 m, .int .i64 fr, .slice sa l.length sc] 61)) 65 (vwCells v (.slice ava v.active.length avc) (.slice rva v.running.length rvc) (.slice iva v.clog.items.length ivc))).alloc (.cells vw0.toArray 65)
  have e : (w_.alloc (.cells #[.int .i64 m, .int .i64 fr, .slice sa l.length sc] 61)).heap.size = w_.heap.size + 1 := by simp
  rw [e] at this
  subst hw0; exact this
 have hR0 : Blk w0 (w_.heap.size + 2) 65 vw0 := by
  have := Blk.new ((w_.alloc (.cells #[.int .i64 m, .int .i64 fr, .slice sa l.length sc] 61)).alloc (.cells (vwCells v (.slice ava v.active.length avc) (.slice rva v.running.length rvc) (.slice iva v.clog.items.length ivc)).toArray 65)) 65 vw0
  have e : ((w_.alloc (.cells #[.int .i64 m, .int .i64 fr, .slice sa l.length sc] 61)).alloc (.cells (vwCells v (.slice ava v.active.length avc) (.slice rva v.running.length rvc) (.slice iva v.clog.items.length ivc)).toArray 65)).heap.size = w_.heap.size + 2 := by simp
  rw [e] at this
  subst hw0; exact this
 have HV := keep hv
 have Hsaid := keep hsaid
 have HS8 := keep hs8
 have Hlen := keep hlen
 have hbk := blank_any m fr w0
 have hPf := blankS_fine m fr
 have hVS : viewS m fr l v = ({ v with m := m, clog := viewK m (blankS m fr).1 l l.length }, true) := by unfold viewS; rw [if_pos hok]
 rw [hok] at hbk
 generalize (blankS m fr).1 = P0 at *
 have HVS := keep hVS
 have Hbk := keep hbk
 have HPf := keep hPf
 clear hv hsaid hs8 hsv hbk hVS hok hPf
 unfold vwCells vw0 at hw0
 unfold vwV
 go_enter Tryz.func17, Tryz.ntmps17
 go_wp2_with fail
 rw [← hw0]
 have e2 : w_.heap.size + 1 + 1 = w_.heap.size + 2 := by omega
 rw [e2]
 refine Hbk.out.mono ?_
 rintro e w1 ⟨bv, rfl, hbit, hb1⟩
 obtain ⟨ba, bc, rfl⟩ := items_form hbit.weak
 have hltM : w_.heap.size + 2 < w1.heap.size := by have := hR0.lt; have := hb1.size; omega
 have hg1 := Grow.trans hg0 hb1
 have hM1 := hM0.fits hb1
 have hV1 := hV0.fits hb1
 have hR1 := hR0.fits hb1
 obtain ⟨w2, hw2⟩ : ∃ w2, w2 = w1.alloc (.cells (pgCells P0 (.slice ba P0.items.length bc)).toArray 24) := ⟨_, rfl⟩
 have hga : Grow w1 w2 := by subst hw2; exact (Grow.refl _).alloc _
 have hP2 : Blk w2 w1.heap.size 24 (pgCells P0 (.slice ba P0.items.length bc)) := by subst hw2; exact Blk.new _ _ _
 have hg2 := Grow.trans hg1 hga
 have hM2 := hM1.fits hga
 have hV2 := hV1.fits hga
 have hR2 := hR1.fits hga
 have hbit2 := RowS.fits hbit hga
 have hM2' := hM2
 obtain ⟨k0, k1, k2⟩ := three_cells hM2'
 clear hw0 hbit hb1 hga hM1 hV1 hR1 hM0 hV0 hR0 hg0 hg1 Hbk hM2'
 unfold pgCells at hw2
 unfold pgV
 go_wp2_with fail
 rw [← hw2]
 clear hw2
 go_loopw [8] (fun i wr => ∃ k : Nat, k ≤ l.length ∧ i = .int .i64 k ∧ (∃ pv, Blk wr w1.heap.size 24 (pgCells (viewK m P0 l k) pv) ∧ ItemsS wr pv (viewK m P0 l k).items) ∧ Below w1.heap.size w2 wr) (fun i _ => l.length - (intOf i).toNat)
 case atStart => exact ⟨0, Nat.zero_le _, rfl, ⟨_, hP2, hbit2⟩, Below.refl _ _⟩
 case round =>
  obtain ⟨k, hk, rfl, ⟨pv, hP, hit⟩, hbw⟩ := hrel
  by_cases hlt : k < l.length
  ·obtain ⟨c, off, rfl, hx, hs⟩ := Hsaid.out k hlt
   have hs8 := HS8.out (l.getD k (0, 0)) (by simp [hlt])
   have hfine := viewK_fine m P0 l HPf.out k
   have hstep : viewK m P0 l (k + 1) = if (setS m (viewK m P0 l k) (l.getD k (0, 0)).1 (l.getD k (0, 0)).2).2 = 0 then (setS m (viewK m P0 l k) (l.getD k (0, 0)).1 (l.getD k (0, 0)).2).1 else viewK m P0 l k := rfl
   generalize viewK m P0 l k = PK at *
   generalize (l.getD k (0, 0)).1 = x at *
   generalize (l.getD k (0, 0)).2 = s at *
   obtain ⟨pa, pc, rfl⟩ := items_form hit.weak
   have hset := fun (u : World) (hu : Fill wr.heap.size 24 (Good (setS m PK x s).1) wr.drew u) => set_any m PK (.slice pa PK.items.length pc) x s u (hu.row hit (by decide)).weak hfine hs8
   unfold CpgPost at hset
   generalize setS m PK x s = R at *
   obtain ⟨Q, E⟩ := R
   have hMr := hM2.below hbw (by omega)
   have hPl := hP.lt
   have Hm := keep (fun (u : World) (hu : Fill wr.heap.size 24 (Good Q) wr.drew u) => (three_cells (hMr.drew.below hu.below hMr.lt)).1)
   have Hsv := keep (fun (u : World) (hu : Fill wr.heap.size 24 (Good Q) wr.drew u) => (three_cells (hMr.drew.below hu.below hMr.lt)).2.2)
   have HP := keep (fun (u : World) (hu : Fill wr.heap.size 24 (Good Q) wr.drew u) => hP.drew.below hu.below hP.lt)
   have hgr : Grow w_ wr.drew := Below.trans hg2 (hbw.drew.mono (by omega))
   have Hx := keep (fun (u : World) (hu : Fill wr.heap.size 24 (Good Q) wr.drew u) => cell_on hu.below (Nat.le_refl _) (cell_on hgr (Nat.le_refl _) hx))
   have Hs := keep (fun (u : World) (hu : Fill wr.heap.size 24 (Good Q) wr.drew u) => cell_on hu.below (Nat.le_refl _) (cell_on hgr (Nat.le_refl _) hs))
   clear hgr
   have HSet := keep hset
   have HStep := keep hstep
   have HPK := keep hP
   have HitK := keep hit
   have Hbw := keep hbw
   obtain ⟨m0, m1, m2⟩ := three_cells hMr
   unfold pgCells at HP
   go_wp2_with fail
   refine wp_region_link (by kernel_rfl) 21 lk20 (Fill wr.heap.size 24 (Good Q)) (Fill.refl _) (fun _ _ _ => Fill.trans (good_stays Q)) (by kernel_rfl) (by kernel_rfl) [(30, 0), (31, 1), (32, 2), (33, 3), (34, 4), (35, 5), (36, 6), (37, 7), (38, 8), (39, 9), (40, 10), (41, 11), (42, 12), (43, 13), (44, 14), (45, 15), (29, 16), (46, 17), (47, 18), (9, 19)] (by kernel_rfl) [(0, true), (1, true), (2, true), (3, true), (4, true), (5, true), (6, true), (7, true), (8, true), (9, true), (10, true), (11, true), (12, true), (13, true), (14, true), (15, true), (16, true), (17, true), (18, true), (19, true), (20, true)] (by kernel_rfl) rfl rfl ?_
   apply lexk_eq [] [(32, 2), (33, 3), (34, 4), (35, 5), (36, 6), (37, 7), (38, 8), (39, 9), (40, 10), (41, 11), (42, 12), (43, 13), (44, 14), (45, 15), (29, 16), (46, 17), (47, 18), (9, 19)] (by kernel_rfl) (by kernel_rfl) rfl rfl
   ·intro xs w hw hp K hK
    simp only [putAll]
    go_simp
    exact hK _ (Fill.refl _)
   apply lexk_eq [(0, true)] [(30, 0), (32, 2), (33, 3), (34, 4), (35, 5), (36, 6), (37, 7), (38, 8), (39, 9), (40, 10), (41, 11), (42, 12), (43, 13), (44, 14), (29, 16), (46, 17), (47, 18), (9, 19)] (by kernel_rfl) (by kernel_rfl) rfl rfl
   ·intro xs w hw hp K hK
    simp only [holdsK, reduceIte, Nat.reduceEqDiff, lk20, List.nil_append, List.getD_cons_zero, if_true, and_true] at hp
    simp only [putAll]
    have hc := Hm.out w hw
    go_simp
    exact hK _ (Fill.refl _)
   apply lexk_eq [] [(30, 0), (31, 1), (33, 3), (34, 4), (35, 5), (36, 6), (37, 7), (38, 8), (39, 9), (40, 10), (41, 11), (42, 12), (43, 13), (44, 14), (29, 16), (46, 17), (47, 18), (9, 19)] (by kernel_rfl) (by kernel_rfl) rfl rfl
   ·intro xs w hw hp K hK
    simp only [putAll]
    have h2 := pgres (HP.out w hw)
    have c0 := h2.1
    have c1 := h2.2.1
    have c2 := h2.2.2.1
    have c3 := h2.2.2.2.1
    have c4 := h2.2.2.2.2.1
    have c5 := h2.2.2.2.2.2.1
    clear h2
    go_simp
    exact hK _ (Fill.refl _)
   apply lexk_eq [] [(30, 0), (31, 1), (32, 2), (35, 5), (36, 6), (37, 7), (38, 8), (39, 9), (40, 10), (41, 11), (42, 12), (43, 13), (44, 14), (45, 15), (29, 16), (46, 17), (47, 18), (9, 19)] (by kernel_rfl) (by kernel_rfl) rfl rfl
   ·intro xs w hw hp K hK
    simp only [putAll]
    go_simp
    exact hK _ (Fill.refl _)
   apply lexk_eq [(3, true)] [(30, 0), (31, 1), (32, 2), (33, 3), (35, 5), (37, 7), (38, 8), (39, 9), (40, 10), (41, 11), (42, 12), (43, 13), (44, 14), (45, 15), (29, 16), (46, 17), (47, 18), (9, 19)] (by kernel_rfl) (by kernel_rfl) rfl rfl
   ·intro xs w hw hp K hK
    simp only [holdsK, reduceIte, Nat.reduceEqDiff, lk20, List.nil_append, List.cons_append, List.getD_cons_succ, List.getD_cons_zero, if_true, and_true] at hp
    simp only [putAll]
    have hc := Hsv.out w hw
    go_simp
    exact hK _ (Fill.refl _)
   apply lexk_eq [] [(30, 0), (31, 1), (32, 2), (33, 3), (34, 4), (37, 7), (38, 8), (39, 9), (40, 10), (41, 11), (42, 12), (43, 13), (44, 14), (45, 15), (29, 16), (46, 17), (47, 18), (9, 19)] (by kernel_rfl) (by kernel_rfl) rfl rfl
   ·intro xs w hw hp K hK
    simp only [putAll]
    go_simp
    exact hK _ (Fill.refl _)
   apply lexk_eq [(4, true), (5, true)] [(30, 0), (31, 1), (32, 2), (33, 3), (34, 4), (35, 5), (38, 8), (39, 9), (40, 10), (41, 11), (42, 12), (43, 13), (44, 14), (45, 15), (29, 16), (46, 17), (47, 18), (9, 19)] (by kernel_rfl) (by kernel_rfl) rfl rfl
   ·intro xs w hw hp K hK
    simp only [holdsK, reduceIte, Nat.reduceEqDiff, lk20, List.nil_append, List.cons_append, List.getD_cons_succ, List.getD_cons_zero, if_true, and_true] at hp
    simp only [putAll]
    go_simp
    exact hK _ (Fill.refl _)
   apply lexk_eq [(6, true)] [(30, 0), (31, 1), (32, 2), (33, 3), (34, 4), (35, 5), (36, 6), (39, 9), (40, 10), (41, 11), (42, 12), (43, 13), (44, 14), (45, 15), (29, 16), (46, 17), (47, 18), (9, 19)] (by kernel_rfl) (by kernel_rfl) rfl rfl
   ·intro xs w hw hp K hK
    simp only [holdsK, reduceIte, Nat.reduceEqDiff, lk20, List.nil_append, List.cons_append, List.getD_cons_succ, List.getD_cons_zero, if_true, and_true] at hp
    simp only [putAll]
    go_simp
    exact hK _ (Fill.refl _)
   apply lexk_eq [(7, true)] [(30, 0), (31, 1), (32, 2), (33, 3), (34, 4), (35, 5), (36, 6), (37, 7), (39, 9), (40, 10), (41, 11), (42, 12), (43, 13), (44, 14), (29, 16), (46, 17), (47, 18), (9, 19)] (by kernel_rfl) (by kernel_rfl) rfl rfl
   ·intro xs w hw hp K hK
    simp only [holdsK, reduceIte, Nat.reduceEqDiff, lk20, List.nil_append, List.cons_append, List.getD_cons_succ, List.getD_cons_zero, if_true, and_true] at hp
    simp only [putAll]
    have hc := Hx.out w hw
    go_simp
    exact hK _ (Fill.refl _)
   apply lexk_eq [] [(30, 0), (31, 1), (32, 2), (33, 3), (34, 4), (35, 5), (36, 6), (37, 7), (38, 8), (41, 11), (42, 12), (43, 13), (44, 14), (45, 15), (29, 16), (46, 17), (47, 18), (9, 19)] (by kernel_rfl) (by kernel_rfl) rfl rfl
   ·intro xs w hw hp K hK
    simp only [putAll]
    go_simp
    exact hK _ (Fill.refl _)
   apply lexk_eq [(9, true)] [(30, 0), (31, 1), (32, 2), (33, 3), (34, 4), (35, 5), (36, 6), (37, 7), (38, 8), (39, 9), (41, 11), (43, 13), (44, 14), (45, 15), (29, 16), (46, 17), (47, 18), (9, 19)] (by kernel_rfl) (by kernel_rfl) rfl rfl
   ·intro xs w hw hp K hK
    simp only [holdsK, reduceIte, Nat.reduceEqDiff, lk20, List.nil_append, List.cons_append, List.getD_cons_succ, List.getD_cons_zero, if_true, and_true] at hp
    simp only [putAll]
    have hc := Hsv.out w hw
    go_simp
    exact hK _ (Fill.refl _)
   apply lexk_eq [] [(30, 0), (31, 1), (32, 2), (33, 3), (34, 4), (35, 5), (36, 6), (37, 7), (38, 8), (39, 9), (40, 10), (43, 13), (44, 14), (45, 15), (29, 16), (46, 17), (47, 18), (9, 19)] (by kernel_rfl) (by kernel_rfl) rfl rfl
   ·intro xs w hw hp K hK
    simp only [putAll]
    go_simp
    exact hK _ (Fill.refl _)
   apply lexk_eq [(10, true), (11, true)] [(30, 0), (31, 1), (32, 2), (33, 3), (34, 4), (35, 5), (36, 6), (37, 7), (38, 8), (39, 9), (40, 10), (41, 11), (44, 14), (45, 15), (29, 16), (46, 17), (47, 18), (9, 19)] (by kernel_rfl) (by kernel_rfl) rfl rfl
   ·intro xs w hw hp K hK
    simp only [holdsK, reduceIte, Nat.reduceEqDiff, lk20, List.nil_append, List.cons_append, List.getD_cons_succ, List.getD_cons_zero, if_true, and_true] at hp
    simp only [putAll]
    go_simp
    exact hK _ (Fill.refl _)
   apply lexk_eq [(12, true)] [(30, 0), (31, 1), (32, 2), (33, 3), (34, 4), (35, 5), (36, 6), (37, 7), (38, 8), (39, 9), (40, 10), (41, 11), (42, 12), (45, 15), (29, 16), (46, 17), (47, 18), (9, 19)] (by kernel_rfl) (by kernel_rfl) rfl rfl
   ·intro xs w hw hp K hK
    simp only [holdsK, reduceIte, Nat.reduceEqDiff, lk20, List.nil_append, List.cons_append, List.getD_cons_succ, List.getD_cons_zero, if_true, and_true] at hp
    simp only [putAll]
    go_simp
    exact hK _ (Fill.refl _)
   apply lexk_eq [(13, true)] [(30, 0), (31, 1), (32, 2), (33, 3), (34, 4), (35, 5), (36, 6), (37, 7), (38, 8), (39, 9), (40, 10), (41, 11), (42, 12), (43, 13), (29, 16), (46, 17), (47, 18), (9, 19)] (by kernel_rfl) (by kernel_rfl) rfl rfl
   ·intro xs w hw hp K hK
    simp only [holdsK, reduceIte, Nat.reduceEqDiff, lk20, List.nil_append, List.cons_append, List.getD_cons_succ, List.getD_cons_zero, if_true, and_true] at hp
    simp only [putAll]
    have hc := Hs.out w hw
    go_simp
    exact hK _ (Fill.refl _)
   refine lexk_says (fun v u => ∃ iv', v = .tuple #[pgV Q iv', .int .i64 E] ∧ ItemsS u iv' Q.items) (fun v u u' hg ⟨iv', h1, h2⟩ => ⟨iv', h1, hg.row h2 (by decide)⟩) [(1, true), (2, true), (8, true), (14, true)] [(30, 0), (31, 1), (32, 2), (33, 3), (34, 4), (35, 5), (36, 6), (37, 7), (38, 8), (39, 9), (40, 10), (41, 11), (42, 12), (43, 13), (44, 14), (46, 17), (47, 18), (9, 19)] (by kernel_rfl) (by kernel_rfl) rfl rfl ?_ ?_
   ·intro xs w hw hp K hK
    simp only [holdsK, reduceIte, Nat.reduceEqDiff, lk20, List.nil_append, List.cons_append, List.getD_cons_succ, List.getD_cons_zero, if_true, and_true] at hp
    simp only [putAll]
    go_simp
    exact (HSet.out w hw).mono fun e w' h => h.elim fun iv' h => ⟨_, h.1, hK _ _ ⟨iv', rfl, h.2.1⟩ (Fill.of_grow h.2.2 hw.below.size)⟩
   refine lexk_says (fun v u => ∃ iv', v = .tuple #[pgV Q iv', .int .i64 E] ∧ ItemsS u iv' Q.items) (fun v u u' hg ⟨iv', h1, h2⟩ => ⟨iv', h1, hg.row h2 (by decide)⟩) [(15, true)] [(30, 0), (31, 1), (32, 2), (33, 3), (34, 4), (35, 5), (36, 6), (37, 7), (38, 8), (39, 9), (40, 10), (41, 11), (42, 12), (43, 13), (44, 14), (45, 15), (9, 19)] (by kernel_rfl) (by kernel_rfl) rfl rfl ?_ ?_
   ·intro xs w hw hp K hK
    simp only [holdsK, reduceIte, Nat.reduceEqDiff, lk20, List.nil_append, List.cons_append, List.getD_cons_succ, List.getD_cons_zero, if_true, and_true] at hp
    generalize hA : putAll xs _ _ = A
    obtain ⟨iv', hpv, hit⟩ := hp
    subst hA
    simp only [putAll, hpv]
    go_simp
    exact hK _ _ ⟨iv', rfl, hit⟩ (Fill.refl _)
   refine lexk_says (fun v u => ∃ iv', v = pgV Q iv' ∧ ItemsS u iv' Q.items) (fun v u u' hg ⟨iv', h1, h2⟩ => ⟨iv', h1, hg.row h2 (by decide)⟩) [(16, true)] [(30, 0), (31, 1), (32, 2), (33, 3), (34, 4), (35, 5), (36, 6), (37, 7), (38, 8), (39, 9), (40, 10), (41, 11), (42, 12), (43, 13), (44, 14), (45, 15), (29, 16), (47, 18), (9, 19)] (by kernel_rfl) (by kernel_rfl) rfl rfl ?_ ?_
   ·intro xs w hw hp K hK
    simp only [holdsK, reduceIte, Nat.reduceEqDiff, lk20, List.nil_append, List.cons_append, List.getD_cons_succ, List.getD_cons_zero, if_true, and_true] at hp
    generalize hA : putAll xs _ _ = A
    obtain ⟨iv', hpv, hit⟩ := hp
    subst hA
    simp only [putAll, hpv]
    go_simp
    exact hK _ _ ⟨iv', rfl, hit⟩ (Fill.refl _)
   apply lexk_eq [(16, true)] [(30, 0), (31, 1), (32, 2), (33, 3), (34, 4), (35, 5), (36, 6), (37, 7), (38, 8), (39, 9), (40, 10), (41, 11), (42, 12), (43, 13), (44, 14), (45, 15), (29, 16), (46, 17), (9, 19)] (by kernel_rfl) (by kernel_rfl) rfl rfl
   ·intro xs w hw hp K hK
    simp only [holdsK, reduceIte, Nat.reduceEqDiff, lk20, List.nil_append, List.cons_append, List.getD_cons_succ, List.getD_cons_zero, if_true, and_true] at hp
    generalize hA : putAll xs _ _ = A
    obtain ⟨iv', hpv, hit⟩ := hp
    subst hA
    simp only [putAll, hpv]
    go_simp
    exact hK _ (Fill.refl _)
   refine lexk_says (fun v u => ∃ b, v = .pointer (some ⟨b, 0, none⟩) ∧ wr.heap.size ≤ b ∧ ∃ cs, cs.length = pg0.length ∧ Blk u b 24 cs) (fun v u u' hg ⟨b, h1, h2, cs, h3, h4⟩ => ⟨b, h1, h2, some_len hg h4 h3⟩) [] [(30, 0), (31, 1), (32, 2), (33, 3), (34, 4), (35, 5), (36, 6), (37, 7), (38, 8), (39, 9), (40, 10), (41, 11), (42, 12), (43, 13), (44, 14), (45, 15), (29, 16), (46, 17), (47, 18)] (by kernel_rfl) (by kernel_rfl) rfl rfl ?_ ?_
   ·intro xs w hw hp K hK
    simp only [putAll]
    go_simp
    exact hK _ _ ⟨_, rfl, hw.below.size, pg0, rfl, Blk.new w _ pg0⟩ (Fill.of_grow ((Grow.refl w).alloc _) hw.below.size)
   refine lexk_link (fun v u => ∃ b, v = .pointer (some ⟨b, 0, none⟩) ∧ wr.heap.size ≤ b ∧ ∃ iv', Blk u b 24 (pgCells Q iv') ∧ ItemsS u iv' Q.items) (fun v u u' hg ⟨b, h1, h2, iv', h3, h4⟩ => ⟨b, h1, h2, good_lasts hg h3 h4⟩) [(17, true), (19, true)] [(30, 0), (31, 1), (32, 2), (33, 3), (34, 4), (35, 5), (36, 6), (37, 7), (38, 8), (39, 9), (40, 10), (41, 11), (42, 12), (43, 13), (44, 14), (45, 15), (29, 16), (46, 17), (47, 18), (9, 19)] (by kernel_rfl) (by kernel_rfl) (by kernel_rfl) (by decide) ?_ ?_
   ·intro xs w hw hp K hK
    simp only [holdsK, List.nil_append, List.cons_append, List.getD_cons_succ, List.getD_cons_zero, if_true, and_true] at hp
    generalize hA : putAll xs _ _ = A
    obtain ⟨⟨iv', h17, hit⟩, b, h19, hbN, cs, hcl, hB⟩ := hp
    change xs 17 = _ at h17
    change xs 19 = _ at h19
    obtain ⟨a0, a1, a2, a3, a4, a5, rfl⟩ := six_cells hcl
    obtain ⟨c0, c1, c2, c3, c4, c5, f0, f1, f2, f3, f4, f5⟩ := pgres hB
    obtain ⟨iva', ivc', rfl⟩ := items_form hit.weak
    subst hA
    simp only [putAll, h17, h19]
    unfold pgV
    go_simp
    have hset := pgset hB (.int .i64 Q.lsn) (.int .i64 Q.kind) (.int .i64 Q.level) (.int .i64 Q.right) (.string (str Q.high)) (.slice iva' Q.items.length ivc')
    have hbut := pgbut w b (.int .i64 Q.lsn) (.int .i64 Q.kind) (.int .i64 Q.level) (.int .i64 Q.right) (.string (str Q.high)) (.slice iva' Q.items.length ivc')
    have hit2 := items_but hit hbut hB (by decide)
    exact hK _ _ ⟨b, h19, hbN, _, hset, hit2⟩ (Fill.but (cs' := pgCells Q (.slice iva' Q.items.length ivc')) hbut hbN hw.below.size hB rfl hset ⟨_, rfl, hit2⟩)
   intro xs w hw hp
   generalize hA : putAll xs _ _ = A
   simp only [holdsK, reduceIte, Nat.reduceEqDiff, lk20, List.nil_append, List.cons_append, List.getD_cons_succ, List.getD_cons_zero, if_true, and_true] at hp
   obtain ⟨_, _, _, _, _, _, _, _, _, _, _, _, _, _, _, _, _, _, h18, _, b, h19, hbN, ivQ, hQ, hiQ⟩ := hp
   subst hA
   simp only [putAll, h18, h19]
   have hwU := hw.undrew
   have hPw : Blk w w1.heap.size 24 (pgCells PK (.slice pa PK.items.length pc)) := Blk.below HPK.out hwU.below hPl
   have hiw : ItemsS w (.slice pa PK.items.length pc) PK.items := hwU.row HitK.out (by decide)
   have hbww : Below w1.heap.size w2 w := Below.trans Hbw.out (hwU.below.mono (Nat.le_of_lt hPl))
   obtain ⟨qa, qc, rfl⟩ := items_form hiQ.weak
   have hlenI := Hlen.out
   clear hw hwU Hx Hs HSet Hm Hsv HP hM2 hMr m0 m1 m2 h18 h19 hx hs hset hit hP hbw
   have hbP : w1.heap.size < w.heap.size := hPw.lt
   by_cases hE : E = 0
   ·subst hE
    have hst := HStep.out
    rw [if_pos rfl] at hst
    have HStep := keep hst
    clear hst hstep
    obtain ⟨c0, c1, c2, c3, c4, c5, f0, f1, f2, f3, f4, f5⟩ := pgres hPw
    obtain ⟨d0, d1, d2, d3, d4, d5, _⟩ := pgres hQ
    go_wp2_with fail
    have hset := pgset hPw (.int .i64 Q.lsn) (.int .i64 Q.kind) (.int .i64 Q.level) (.int .i64 Q.right) (.string (str Q.high)) (.slice qa Q.items.length qc)
    have hbut := pgbut w w1.heap.size (.int .i64 Q.lsn) (.int .i64 Q.kind) (.int .i64 Q.level) (.int .i64 Q.right) (.string (str Q.high)) (.slice qa Q.items.length qc)
    have hit2 := items_but hiQ hbut hPw (by decide)
    have hb2 := But.below hbww hbut (Nat.le_refl _) (Nat.le_of_lt hbP)
    have HG := keep (And.intro hset (And.intro hit2 hb2))
    clear hset hbut hit2 hb2
    go_roundw
    case rel =>
     refine ⟨k + 1, by omega, by go_num, ?_, HG.out.2.2⟩
     rw [HStep.out]
     exact ⟨_, HG.out.1, HG.out.2.1⟩
    case measure => simp [intOf]; omega
   ·have hst := HStep.out
    rw [if_neg hE] at hst
    have HStep := keep hst
    have qE : (E == 0) = false := by simp [hE]
    clear hst hstep hE
    go_wp2_with fail
    go_roundw
    case rel =>
     refine ⟨k + 1, by omega, by go_num, ?_, hbww⟩
     rw [HStep.out]
     exact ⟨_, hPw, hiw⟩
    case measure => simp [intOf]; omega
  ·have hkl : l.length = k := by omega
   obtain ⟨pa, pc, rfl⟩ := items_form hit.weak
   have hV := hV2.below hbw (by omega)
   have hR := hR2.below hbw (by omega)
   have hM := hM2.below hbw (by omega)
   unfold vwCells at hV
   unfold vw0 at hR
   have hvs := HVS.out
   rw [hkl] at hvs
   generalize viewK m P0 l k = PK at *
   have HVS' := keep hvs
   unfold pgCells at hP
   have f0 := hV.free 0
   have c0 := hV.cell 0 (by simp)
   obtain ⟨m0, m1, m2⟩ := three_cells hM
   have hltW := hM.lt
   have hltV := hV.lt
   have hltR := hR.lt
   have hltP := hP.lt
   have hgr : Grow w_ wr := Below.trans hg2 (hbw.mono (by omega))
   clear hvs HVS hV2 hR2 hM2 hP2 hbit2 Hsaid hg2
   go_upto_region 11 with fail
   obtain ⟨x1, hx1⟩ : ∃ x1, x1 = wr.setCell ⟨w_.heap.size + 1, 0, none⟩ (.int .i64 m) := ⟨_, rfl⟩
   rw [← hx1]
   have hB1 : But (w_.heap.size + 1) wr x1 := by subst hx1; exact (But.refl _ _).setCell _ _
   have hV1 : Blk x1 (w_.heap.size + 1) 65 [.int .i64 m, .int .i64 v.next, .slice ava v.active.length avc, .int .i64 v.own, .slice rva v.running.length rvc, .int .i64 v.clog.lsn, .int .i64 v.clog.kind, .int .i64 v.clog.level, .int .i64 v.clog.right, .string (str v.clog.high), .slice iva v.clog.items.length ivc] := by subst hx1; exact hV.set 0 _
   have hR1 := hR.but hB1 (by omega)
   have hP1 := hP.but hB1 (by omega)
   have hi1 := items_but hit hB1 hV (by decide)
   have hg1 := But.below hgr hB1 (by omega) (by omega)
   clear hx1 hV hR hM hP hit hbw f0 c0 m0 m1 m2 hgr
   obtain ⟨_, _, _, _, _, c5, c6, c7, c8, c9, c10⟩ := vwres hV1
   obtain ⟨p0, p1, p2, p3, p4, p5, _⟩ := pgres hP1
   have f5 := hV1.free 5
   have f6 := hV1.free 6
   have f7 := hV1.free 7
   have f8 := hV1.free 8
   have f9 := hV1.free 9
   have f10 := hV1.free 10
   go_upto_region 12 with fail
   obtain ⟨x2, hx2⟩ : ∃ x2, x2 = (((((x1.setCell ⟨w_.heap.size + 1, 5, none⟩ (.int .i64 PK.lsn)).setCell ⟨w_.heap.size + 1, 6, none⟩ (.int .i64 PK.kind)).setCell ⟨w_.heap.size + 1, 7, none⟩ (.int .i64 PK.level)).setCell ⟨w_.heap.size + 1, 8, none⟩ (.int .i64 PK.right)).setCell ⟨w_.heap.size + 1, 9, none⟩ (.string (str PK.high))).setCell ⟨w_.heap.size + 1, 10, none⟩ (.slice pa PK.items.length pc) := ⟨_, rfl⟩
   rw [← hx2]
   have hB2 : But (w_.heap.size + 1) x1 x2 := by subst hx2; exact clbut _ _ _ _ _ _ _ _
   have hV2 : Blk x2 (w_.heap.size + 1) 65 [.int .i64 m, .int .i64 v.next, .slice ava v.active.length avc, .int .i64 v.own, .slice rva v.running.length rvc, .int .i64 PK.lsn, .int .i64 PK.kind, .int .i64 PK.level, .int .i64 PK.right, .string (str PK.high), .slice pa PK.items.length pc] := by subst hx2; exact clset hV1 _ _ _ _ _ _
   have hR2 := hR1.but hB2 (by omega)
   have hi2 := items_but hi1 hB2 hV1 (by decide)
   have hltR1 := hR1.lt
   have hg2 := But.below hg1 hB2 (by omega) (by omega)
   clear hx2 hV1 hR1 hP1 hi1 p0 p1 p2 p3 p4 p5 f5 f6 f7 f8 f9 f10 c5 c6 c7 c8 c9 c10 hg1
   obtain ⟨q0, q1, q2, q3, q4, q5, q6, q7, q8, q9, q10⟩ := vwres hR2
   obtain ⟨c0, c1, c2, c3, c4, c5, c6, c7, c8, c9, c10⟩ := vwres hV2
   have r0 := hR2.free 0
   have r1 := hR2.free 1
   have r2 := hR2.free 2
   have r3 := hR2.free 3
   have r4 := hR2.free 4
   have r5 := hR2.free 5
   have r6 := hR2.free 6
   have r7 := hR2.free 7
   have r8 := hR2.free 8
   have r9 := hR2.free 9
   have r10 := hR2.free 10
   have hset := vwset hR2 (.int .i64 m) (.int .i64 v.next) (.slice ava v.active.length avc) (.int .i64 v.own) (.slice rva v.running.length rvc) (.int .i64 PK.lsn) (.int .i64 PK.kind) (.int .i64 PK.level) (.int .i64 PK.right) (.string (str PK.high)) (.slice pa PK.items.length pc)
   have hbut := vwbut x2 (w_.heap.size + 2) (.int .i64 m) (.int .i64 v.next) (.slice ava v.active.length avc) (.int .i64 v.own) (.slice rva v.running.length rvc) (.int .i64 PK.lsn) (.int .i64 PK.kind) (.int .i64 PK.level) (.int .i64 PK.right) (.string (str PK.high)) (.slice pa PK.items.length pc)
   have hi3 := items_but hi2 hbut hR2 (by decide)
   have hg3 := But.below hg2 hbut (by omega) (by have := hR2.lt; omega)
   have HF := keep (And.intro hset (And.intro hi3 hg3))
   clear hset hbut hi3 hg3 hi2 hg2 hV2 hR2
   go_wp2_with fail
   rw [HVS'.out]
   refine bodyPost_ret (v := .tuple #[vwV { v with m := m, clog := PK } (.slice ava v.active.length avc) (.slice rva v.running.length rvc) (.slice pa PK.items.length pc), .bool true]) ?_ rfl ⟨_, rfl, HF.out.2.1.weak, HF.out.2.2⟩
   obtain ⟨s0, s1, s2, s3, s4, s5, s6, s7, s8, s9, s10⟩ := vwres HF.out.1
   simp [results, Tryz.results17, go_sem, s0, s1, s2, s3, s4, s5, s6, s7, s8, s9, s10, vwV]
end Go.Proofs.YtmhepfehcakmjaaGreat.Vac
namespace Go.Proofs.YtmhepfehcakmjaaGreat.Vac
open Go.RowKit
attribute [local go_sem] gives givesUpon_value givesUpon_skip givesUpon_enter
set_option maxRecDepth 100000 in
set_option maxHeartbeats 1000000 in
theorem view_bad (m fr : Int) (sv : Value) (l : List (Int × Nat)) (v : Vw) (av rv iv : Value) (w_ : World) (hsv : Row w_ 98 sv l.length (saidCells l)) (hv : VwIn w_ v av rv iv) (hok : (blankS m fr).2 ≠ 0) :
  Calls Tryz.prog 17 #[.agg #[.int .i64 m, .int .i64 fr, sv], vwV v av rv iv] w_ fun e w' => ∃ iv', e = .returned (.tuple #[vwV (viewS m fr l v).1 av rv iv', .bool (viewS m fr l v).2]) ∧ Items w' iv' (viewS m fr l v).1.clog.items ∧ Below w_.heap.size w_ w' := by
 obtain ⟨sa, sc, rfl, hsaid⟩ := said_get hsv
 obtain ⟨iva, ivc, rfl⟩ := items_form hv.items
 obtain ⟨rva, rvc, rfl, _⟩ := ints_form hv.run
 obtain ⟨ava, avc, rfl, _⟩ := ints_form hv.act
 obtain ⟨w0, hw0⟩ : ∃ w0, w0 = ((w_.alloc (.cells #[.int .i64 m, .int .i64 fr, .slice sa l.length sc] 61)).alloc (.cells (vwCells v (.slice ava v.active.length avc) (.slice rva v.running.length rvc) (.slice iva v.clog.items.length ivc)).toArray 65)).alloc (.cells vw0.toArray 65) := ⟨_, rfl⟩
 have hg0 : Grow w_ w0 := by subst hw0; exact (((Grow.refl w_).alloc _).alloc _).alloc _
 have hM0 : Blk w0 w_.heap.size 61 [.int .i64 m, .int .i64 fr, .slice sa l.length sc] := by subst hw0; exact ((Blk.new w_ _ _).alloc _).alloc _
 have hV0 : Blk w0 (w_.heap.size + 1) 65 (vwCells v (.slice ava v.active.length avc) (.slice rva v.running.length rvc) (.slice iva v.clog.items.length ivc)) := by
  have := (Blk.new (w_.alloc (.cells #[.int .i64 m, .int .i64 fr, .slice sa l.length sc] 61)) 65 (vwCells v (.slice ava v.active.length avc) (.slice rva v.running.length rvc) (.slice iva v.clog.items.length ivc))).alloc (.cells vw0.toArray 65)
  have e : (w_.alloc (.cells #[.int .i64 m, .int .i64 fr, .slice sa l.length sc] 61)).heap.size = w_.heap.size + 1 := by simp
  rw [e] at this
  subst hw0; exact this
 have hR0 : Blk w0 (w_.heap.size + 2) 65 vw0 := by
  have := Blk.new ((w_.alloc (.cells #[.int .i64 m, .int .i64 fr, .slice sa l.length sc] 61)).alloc (.cells (vwCells v (.slice ava v.active.length avc) (.slice rva v.running.length rvc) (.slice iva v.clog.items.length ivc)).toArray 65)) 65 vw0
  have e : ((w_.alloc (.cells #[.int .i64 m, .int .i64 fr, .slice sa l.length sc] 61)).alloc (.cells (vwCells v (.slice ava v.active.length avc) (.slice rva v.running.length rvc) (.slice iva v.clog.items.length ivc)).toArray 65)).heap.size = w_.heap.size + 2 := by simp
  rw [e] at this
  subst hw0; exact this
 have HV := keep hv
 have hbk := blank_any m fr w0
 have hVS : viewS m fr l v = (v, false) := by unfold viewS; rw [if_neg hok]
 have hbe : blankS m fr = (noPg, 1) := by
  unfold blankS at *
  split
  ·rename_i h; rw [if_pos h] at hok; exact absurd rfl hok
  ·rfl
 rw [hbe] at hbk
 have HVS := keep hVS
 have Hbk := keep hbk
 clear hv hsaid hsv hbk hVS hok hbe
 unfold vwCells vw0 at hw0
 unfold vwV
 go_enter Tryz.func17, Tryz.ntmps17
 go_wp2_with fail
 rw [← hw0]
 have e2 : w_.heap.size + 1 + 1 = w_.heap.size + 2 := by omega
 rw [e2]
 refine Hbk.out.mono ?_
 rintro e w1 ⟨bv, rfl, hbit, hb1⟩
 obtain ⟨ba, bc, rfl⟩ := items_form hbit.weak
 have hltM : w_.heap.size + 2 < w1.heap.size := by have := hR0.lt; have := hb1.size; omega
 have hg1 := Grow.trans hg0 hb1
 have hV1 := hV0.fits hb1
 have hR1 := hR0.fits hb1
 obtain ⟨w2, hw2⟩ : ∃ w2, w2 = w1.alloc (.cells (pgCells noPg (.slice ba 0 bc)).toArray 24) := ⟨_, rfl⟩
 have hga : Grow w1 w2 := by subst hw2; exact (Grow.refl _).alloc _
 have hg2 := Grow.trans hg1 hga
 have hV2 := hV1.fits hga
 have hR2 := hR1.fits hga
 unfold vwCells at hV2
 unfold vw0 at hR2
 clear hw0 hbit hb1 hga hV1 hR1 hM0 hV0 hR0 hg0 hg1 Hbk
 obtain ⟨c0, c1, c2, c3, c4, c5, c6, c7, c8, c9, c10⟩ := vwres hV2
 obtain ⟨q0, q1, q2, q3, q4, q5, q6, q7, q8, q9, q10⟩ := vwres hR2
 have r0 := hR2.free 0
 have r1 := hR2.free 1
 have r2 := hR2.free 2
 have r3 := hR2.free 3
 have r4 := hR2.free 4
 have r5 := hR2.free 5
 have r6 := hR2.free 6
 have r7 := hR2.free 7
 have r8 := hR2.free 8
 have r9 := hR2.free 9
 have r10 := hR2.free 10
 have hset := vwset hR2 (.int .i64 v.m) (.int .i64 v.next) (.slice ava v.active.length avc) (.int .i64 v.own) (.slice rva v.running.length rvc) (.int .i64 v.clog.lsn) (.int .i64 v.clog.kind) (.int .i64 v.clog.level) (.int .i64 v.clog.right) (.string (str v.clog.high)) (.slice iva v.clog.items.length ivc)
 have hbut := vwbut w2 (w_.heap.size + 2) (.int .i64 v.m) (.int .i64 v.next) (.slice ava v.active.length avc) (.int .i64 v.own) (.slice rva v.running.length rvc) (.int .i64 v.clog.lsn) (.int .i64 v.clog.kind) (.int .i64 v.clog.level) (.int .i64 v.clog.right) (.string (str v.clog.high)) (.slice iva v.clog.items.length ivc)
 have hg3 := But.below hg2 hbut (by omega) (by have := hR2.lt; omega)
 have hi3 := Row.fits HV.out.items hg3
 have HF := keep (And.intro hset (And.intro hi3 hg3))
 clear hset hbut hi3 hg3 hg2 hV2 hR2
 unfold pgCells noPg at hw2
 unfold pgV noPg
 go_upto_region 3 with fail
 rw [← hw2]
 clear hw2
 go_wp2_with fail
 rw [HVS.out]
 refine bodyPost_ret (v := .tuple #[vwV v (.slice ava v.active.length avc) (.slice rva v.running.length rvc) (.slice iva v.clog.items.length ivc), .bool false]) ?_ rfl ⟨_, rfl, HF.out.2.1, HF.out.2.2⟩
 obtain ⟨s0, s1, s2, s3, s4, s5, s6, s7, s8, s9, s10⟩ := vwres HF.out.1
 simp [results, Tryz.results17, go_sem, s0, s1, s2, s3, s4, s5, s6, s7, s8, s9, s10, vwV]
theorem view_any (m fr : Int) (sv : Value) (l : List (Int × Nat)) (v : Vw) (av rv iv : Value) (w_ : World) (hsv : Row w_ 98 sv l.length (saidCells l)) (hlen : (l.length : Int) ≤ 70368744177664) (hs8 : ∀ x ∈ l, x.2 < 256) (hv : VwIn w_ v av rv iv) :
  Calls Tryz.prog 17 #[.agg #[.int .i64 m, .int .i64 fr, sv], vwV v av rv iv] w_ fun e w' => ∃ iv', e = .returned (.tuple #[vwV (viewS m fr l v).1 av rv iv', .bool (viewS m fr l v).2]) ∧ Items w' iv' (viewS m fr l v).1.clog.items ∧ Below w_.heap.size w_ w' := by
 by_cases hok : (blankS m fr).2 = 0
 ·exact view_ok m fr sv l v av rv iv w_ hsv hlen hs8 hv hok
 ·exact view_bad m fr sv l v av rv iv w_ hsv hv hok
end Go.Proofs.YtmhepfehcakmjaaGreat.Vac
