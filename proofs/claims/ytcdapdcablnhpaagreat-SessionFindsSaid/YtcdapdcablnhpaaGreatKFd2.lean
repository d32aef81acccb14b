import Derived.Test.YtcdapdcablnhpaaGreatKFp1
import Derived.Test.YtcdapdcablnhpaaGreatKLexn
import Derived.Test.YtcdapdcablnhpaaGreatKBe9
import Derived.Test.YtcdapdcablnhpaaGreatKWc6
import Derived.Test.YtcdapdcablnhpaaGreatKCg9
import Derived.Laws.StructEq
import Derived.BigQuiet
import Derived.Test.YtcdapdcablnhpaaGreatKHl1
import Derived.Test.YtcdapdcablnhpaaGreatKWp1
import Derived.Test.YtcdapdcablnhpaaGreatKInv1
import Derived.Test.YtcdapdcablnhpaaGreatKRd3
namespace Go.Proofs.YtcdapdcablnhpaaGreat
open Go.RowKit
attribute [local go_sem] hgs
theorem plpage_res (tm : Array Value) (w : World) (b : Nat) (g : Bool) (R : Rcd) (iv : Value) (h8 : tm.getD 8 undef = .pointer (some ⟨b, 0, none⟩)) (h9 : tm.getD 9 undef = .bool g) (hB : Blk w b 71 (rdC R iv)) :
  (results Tryz.f20 tm).run Tryz.prog w = .ok (.tuple #[rdV R iv, .bool g]) w := by
 unfold rdC at hB;obtain ⟨⟨s0_, s1_, s2_, s3_, s4_, s5_, s6_, s7_, s8_, s9_, s10_, s11_, s12_, s13_, s14_, s15_⟩, _⟩ := recres hB;simp only [Array.getD_eq_getD_getElem?] at h8 h9;simp [results, Tryz.results20, go_sem, h8, h9, s0_, s1_, s2_, s3_, s4_, s5_, s6_, s7_, s8_, s9_, s10_, s11_, s12_, s13_, s14_, s15_, rdV]
def SelF (bs pb : Nat) (u v : World) : Prop := u.heap.size <= v.heap.size /\ (bs <= u.heap.size -> Sel bs pb u v)
theorem SelF.refl (bs pb : Nat) (u : World) : SelF bs pb u u := ⟨Nat.le_refl _, fun _ => Sel.refl _ _ _⟩
theorem SelF.grow {bs pb : Nat} {u v : World} (h : Grow u v) : SelF bs pb u v := ⟨h.size, fun hb => Sel.of_grow hb h⟩
theorem SelF.trans {bs pb : Nat} {u v w : World} (h : SelF bs pb u v) (k : SelF bs pb v w) : SelF bs pb u w := ⟨Nat.le_trans h.1 k.1, fun hb => (h.2 hb).trans (k.2 (Nat.le_trans hb h.1))⟩
theorem SelF.undrew {bs pb : Nat} {u v : World} (h : SelF bs pb u.drew v) : SelF bs pb u v := ⟨h.1, fun hb => (Sel.of_grow hb (Grow.undrew (Grow.refl u.drew))).trans (h.2 hb)⟩
theorem cfdescend (args : Array Value) (u : World) : (callFunc 92 args).run Tryz.prog u = .ok (.enter 92 args) u := by
 have h1 : (Tryz.f92.name == "runtime.NumGoroutine") = false := by kernel_rfl
 have h2 : Tryz.f92.body.isNone = false := by kernel_rfl
 unfold callFunc;simp [go_sem];rw [if_neg (by simpa using h1), if_neg (by intro h; rw [h] at h2; cases h2)]
theorem cfgather (args : Array Value) (u : World) : (callFunc 143 args).run Tryz.prog u = .ok (.enter 143 args) u := by
 have h1 : (Tryz.f143.name == "runtime.NumGoroutine") = false := by kernel_rfl
 have h2 : Tryz.f143.body.isNone = false := by kernel_rfl
 unfold callFunc;simp [go_sem];rw [if_neg (by simpa using h1), if_neg (by intro h; rw [h] at h2; cases h2)]
theorem cfinspect (args : Array Value) (u : World) : (callFunc 222 args).run Tryz.prog u = .ok (.enter 222 args) u := by
 have h1 : (Tryz.f222.name == "runtime.NumGoroutine") = false := by kernel_rfl
 have h2 : Tryz.f222.body.isNone = false := by kernel_rfl
 unfold callFunc;simp [go_sem];rw [if_neg (by simpa using h1), if_neg (by intro h; rw [h] at h2; cases h2)]
theorem cffinish (args : Array Value) (u : World) : (callFunc 223 args).run Tryz.prog u = .ok (.enter 223 args) u := by
 have h1 : (Tryz.f223.name == "runtime.NumGoroutine") = false := by kernel_rfl
 have h2 : Tryz.f223.body.isNone = false := by kernel_rfl
 unfold callFunc;simp [go_sem];rw [if_neg (by simpa using h1), if_neg (by intro h; rw [h] at h2; cases h2)]
theorem stage_low (bs pb : Nat) (S : Pl) (v : Vw) (av rv iv : Value) (P : Pg) (jv fv : Value) (fr : List Int) (w_ : World) (ok : PlOk S) (hs : S.st ≠ 0) (h4 : S.st <= 4) (hvk : VwK bs pb w_ v av rv iv) (hpk : PgK bs pb w_ jv P) (_hcap : Capd jv) (_hfk : ∀ w', Sel bs pb w_ w' -> Ints w' fv fr) (_hfl : (fr.length : Int) <= 4611686018427387904) (hil : P.items.length <= 8796093021980) :
  ∃ fk, stageV pb S.st = .func (.func fk) #[.pointer (some ⟨pb, 0, none⟩)] #[] /\ (∀ (args : Array Value) (u : World), (callFunc fk args).run Tryz.prog u = .ok (.enter fk args) u) /\ ∀ u, Sel bs pb w_ u -> PlT bs pb u S -> Calls Tryz.prog fk #[.pointer (some ⟨pb, 0, none⟩), vwV v av rv iv, pgV P jv, fv] u (StPost bs pb (S.page v P fr).1 (S.page v P fr).2.1 (S.page v P fr).2.2 u) := by
 have hc := ok.c hs;have hrr := hc.rr;have hro : S.rows.length <= 100 := by
  by_cases h5 : S.call = 5
  ·have := hc.rown h5; have := hc.num h5; omega
  ·rw [hc.rows h5]; simp
 have hseen := hc.seen;have hitem : (S.item.length : Int) <= 140737488355328 := by have := hc.item; omega
 have h : S.st = 1 \/ S.st = 2 \/ S.st = 3 \/ S.st = 4 := by omega
 unfold Pl.page;rcases h with h | h | h | h
 ·rw [h];exact ⟨_, rfl, cfdescend, fun u hu hT => descend_any bs pb S v av rv iv P jv fv u hT (hvk.sel hu) (hpk.sel hu) hc.key hseen⟩
 ·rw [h];exact ⟨_, rfl, cfgather, fun u hu hT => gather_any bs pb S v av rv iv P jv fv u hT (hvk u hu) (hpk u hu) hc.key⟩
 ·obtain ⟨e, l, hl⟩ : ∃ e l, S.left = e :: l := by
   have := ok.left h;cases hq : S.left with
   | nil => exact absurd hq this
   | cons e l => exact ⟨e, l, rfl⟩
  rw [h];exact ⟨_, rfl, cfinspect, fun u hu hT => inspect_any bs pb S v av rv iv P jv fv e l u hT (hvk.sel hu) (hpk.sel hu) hl hrr hro⟩
 ·rw [h];exact ⟨_, rfl, cffinish, fun u hu hT => finish_any bs pb S v av rv iv P jv fv u hT (hvk u hu) (hpk u hu) hil⟩
theorem page_none {S : Pl} (v : Vw) (P : Pg) (fr : List Int) (h : S.st = 0) : S.page v P fr = (S, noRd, false) := by unfold Pl.page; rw [h]; rfl
set_option maxRecDepth 100000 in
set_option maxHeartbeats 4000000 in
theorem plpage_core (bs pb : Nat) (S : Pl) (v : Vw) (av rv iv : Value) (P : Pg) (jv fv : Value) (fr : List Int) (w_ : World) (h : PlT bs pb w_ S) (hv : VwIn w_ v av rv iv) (hin : PgIn w_ jv P) (hsa : S.st ≠ 0 -> ∃ fk, stageV pb S.st = .func (.func fk) #[.pointer (some ⟨pb, 0, none⟩)] #[] /\ (∀ (args : Array Value) (u : World), (callFunc fk args).run Tryz.prog u = .ok (.enter fk args) u) /\ ∀ u, Sel bs pb w_ u -> PlT bs pb u S -> Calls Tryz.prog fk #[.pointer (some ⟨pb, 0, none⟩), vwV v av rv iv, pgV P jv, fv] u (StPost bs pb (S.page v P fr).1 (S.page v P fr).2.1 (S.page v P fr).2.2 u)) :
  Calls Tryz.prog 20 #[.pointer (some ⟨pb, 0, none⟩), vwV v av rv iv, pgV P jv, fv] w_ (StPost bs pb (S.page v P fr).1 (S.page v P fr).2.1 (S.page v P fr).2.2 w_) := by
 obtain ⟨w0, hw0⟩ : ∃ w0, w0 = ((w_.alloc (.cells (vwCells v av rv iv).toArray 40)).alloc (.cells (pgCells P jv).toArray 28)).alloc (.cells zC.toArray 71) := ⟨_, rfl⟩;obtain ⟨hg0, hV0, hP0, hR0⟩ := vpr_new v av rv iv P jv w_ w0 hw0;obtain ⟨iva, ivc, rfl⟩ := items_form hv.items;obtain ⟨rva, rvc, rfl, _⟩ := ints_form hv.run;obtain ⟨ava, avc, rfl, _⟩ := ints_form hv.act;obtain ⟨jva, jvc, rfl⟩ := items_form hin.1;have HT := keep h;have HG0 := keep hg0;have HV0 := keep hV0;have HP0 := keep hP0;have HR0 := keep hR0;have HIn := keep hin;have HVw := keep hv;obtain ⟨rv0, ov0, lv0, hB, -⟩ := (h.fits hg0).tab;have HPn := keep (fun h => @page_none S v P fr h);have hlow := h.low
 by_cases h0 : S.st = 0
 ·rw [HPn.out h0];have c10 := hB.cell 10 (by simp [plCells]);simp only [plCells, List.getElem_cons_zero, List.getElem_cons_succ, h0, stageV] at c10;have hnf : ∀ w : World, (binOp .eql 108 .nilFunc .nilFunc).run Tryz.prog w = .ok (.bool true) w := fun _ => rfl
  clear h hg0 hV0 hP0 hR0 hB hv hin hsa h0 HPn;unfold vwCells pgCells zC at hw0;unfold vwV pgV;go_enter Tryz.func20, Tryz.ntmps20;go_upto_region 1 with fail;rw [<- hw0];clear hw0;have HRx := keep HR0.out;unfold zC at HRx;go_wp2_with ((refine wpList_store_rec rfl _ _ rfl (w_.heap.size + 2) _ rfl rfl HRx.out rfl rfl rfl ?_); intro wz hset hbz; have Hset := keep hset; have Hbut := keep hbz; clear hset hbz);refine bodyPost_ret (v := .tuple #[rdV noRd (.slice none 0 0), .bool false]) ?_ rfl ?_
  ·exact plpage_res _ _ _ _ noRd _ rfl rfl Hset.out
  ·exact st_zero (HT.out.fits HG0.out) (Sel.of_grow HT.out.low HG0.out) Hbut.out (by omega) HRx.out HT.out.low
 ·obtain ⟨fk, hfk2, hcf, hst⟩ := hsa h0;generalize S.page v P fr = R at *;obtain ⟨Q1, Q2, Q3⟩ := R;have hst0 := fun (u : World) (hu : Grow w0 u) => hst u (Sel.of_grow h.low (Grow.trans hg0 hu)) ((h.fits hg0).fits hu)
  unfold StPost vwV pgV at hst0;dsimp only at hst0 ⊢;have HSt := keep hst0;have c10 := hB.cell 10 (by simp [plCells]);simp only [plCells, List.getElem_cons_zero, List.getElem_cons_succ, hfk2] at c10;have HCx := keep (fun (u : World) (hu : Grow w0 u) => (show u.cell? ⟨pb, 10, none⟩ = some (.func (.func fk) #[.pointer (some ⟨pb, 0, none⟩)] #[]) from hfk2 ▸ (hB.fits hu).cell 10 (by simp [plCells])));have HL0 := keep (Nat.le_trans h.low hg0.size);have hnf : ∀ w : World, (binOp .eql 108 (.func (.func fk) #[.pointer (some ⟨pb, 0, none⟩)] #[]) .nilFunc).run Tryz.prog w = .ok (.bool false) w := fun _ => rfl
  clear h hg0 hV0 hP0 hR0 hB hv hin hsa h0 HPn hst hst0 hfk2;unfold vwCells at hw0 HV0;unfold pgCells at hw0 HP0;unfold zC at hw0;unfold vwV pgV;go_enter Tryz.func20, Tryz.ntmps20;go_upto_region 1 with fail;rw [<- hw0];clear hw0;go_upto_region 3 with fail;clear c10;refine wp_region_n_named (by kernel_rfl) 10 7 (fun j => decide (7 <= j)) (SelF bs pb) (SelF.refl _ _ _) (fun _ _ => SelF.grow) (fun _ _ _ => SelF.trans) (by kernel_rfl)  (by kernel_rfl) [(20, 0), (21, 1), (22, 2), (23, 3), (24, 4), (25, 5), (26, 6), (27, 7), (28, 8), (29, 9)] (by kernel_rfl) [(0, true), (1, true), (2, true), (3, true), (4, true), (5, true), (6, true), (7, true), (8, true), (9, true)] (by kernel_rfl) rfl rfl ?_;intro a0 ha0;have hsz : a0.tmps.size = 30 := (size_at ha0).trans rfl;have s0 := slot_at ha0 0 rfl;have s3 := slot_at ha0 3 rfl;have s5 := slot_at ha0 5 rfl;have s6 := slot_at ha0 6 rfl;have HA0 := keep ha0;clear ha0;apply lexn_eq hsz [] [(22, 2), (23, 3), (24, 4), (25, 5), (26, 6), (27, 7), (28, 8), (29, 9)] none (by kernel_rfl) (by kernel_rfl) (by kernel_rfl) (by kernel_rfl) rfl (by decide)
  ·intro xs w hw hp K hK;go_simp;exact hK _ (Grow.refl _)
  apply lexn_eq hsz [(0, true)] [(20, 0), (23, 3), (24, 4), (25, 5), (26, 6), (27, 7), (28, 8), (29, 9)] none (by kernel_rfl) (by kernel_rfl) (by kernel_rfl) (by kernel_rfl) rfl (by decide)
  ·intro xs w hw hp K hK;simp only [hz] at hp;go_simp;exact hK _ (Grow.refl _)
  apply lexn_eq hsz [(1, true)] [(20, 0), (21, 1), (24, 4), (25, 5), (26, 6), (27, 7), (28, 8), (29, 9)] none (by kernel_rfl) (by kernel_rfl) (by kernel_rfl) (by kernel_rfl) rfl (by decide)
  ·intro xs w hw hp K hK;simp only [hz] at hp;go_simp;exact hK _ (Grow.refl _)
  refine lexn_ere hsz (fun x _ => x = .func (.func fk) #[.pointer (some ⟨pb, 0, none⟩)] #[]) (fun _ _ _ _ h => h) [(2, true)] [(20, 0), (21, 1), (22, 2), (24, 4), (25, 5), (26, 6), (28, 8), (29, 9)] none (by kernel_rfl) (by kernel_rfl) (by kernel_rfl) (by kernel_rfl) rfl (by decide) (by kernel_rfl) ?_ ?_
  ·intro xs w hw hp hgr K hK;simp only [hz] at hp;have c10 := HCx.out w hgr.undrew;go_simp;exact hK _ _ rfl (Grow.refl _)
  apply lexn_eq hsz [] [(20, 0), (21, 1), (22, 2), (23, 3), (25, 5), (26, 6), (28, 8), (29, 9)] none (by kernel_rfl) (by kernel_rfl) (by kernel_rfl) (by kernel_rfl) rfl (by decide)
  ·intro xs w hw hp K hK;obtain ⟨q0, q1, q2, q3, q4, q5, q6, q7, q8, q9, q10⟩ := vwres (HV0.out.sel (hw.undrew.2 HL0.out) (by decide) (by decide));go_simp;exact hK _ (Grow.refl _)
  apply lexn_eq hsz [] [(20, 0), (21, 1), (22, 2), (23, 3), (24, 4), (26, 6), (28, 8), (29, 9)] none (by kernel_rfl) (by kernel_rfl) (by kernel_rfl) (by kernel_rfl) rfl (by decide)
  ·intro xs w hw hp K hK;obtain ⟨p0, p1, p2, p3, p4, p5, _⟩ := pgres (HP0.out.sel (hw.undrew.2 HL0.out) (by decide) (by decide));go_simp;exact hK _ (Grow.refl _)
  apply lexn_eq hsz [] [(20, 0), (21, 1), (22, 2), (23, 3), (24, 4), (25, 5), (28, 8), (29, 9)] none (by kernel_rfl) (by kernel_rfl) (by kernel_rfl) (by kernel_rfl) rfl (by decide)
  ·intro xs w hw hp K hK;go_simp;exact hK _ (Grow.refl _)
  refine lexn_it rfl hsz (fun x u => ∃ iv, x = .tuple #[rdV Q2 iv, .bool Q3] /\ IvOk Q2.imgs u iv /\ PlT bs pb u Q1) (fun _ _ _ g ⟨iv, h1, h2, h3⟩ => ⟨iv, h1, h2.fits g, h3.fits g⟩) [(3, true), (4, true), (5, true), (6, true)] [(20, 0), (21, 1), (22, 2), (23, 3), (24, 4), (25, 5), (26, 6)] none (by kernel_rfl) (by kernel_rfl) (by kernel_rfl) (by kernel_rfl) rfl ?_ ?_
  ·intro xs w hw hp hgr K hK;simp only [hz] at hp;go_simp;exact (HSt.out w hgr.undrew).mono fun e w' ⟨iv, T, h1, h2, h3, h4, h5, h6⟩ => ⟨_, h1, hK _ _ ⟨iv, rfl, ⟨T, h2, h3, h4⟩, h5⟩ ⟨h6.size, fun _ => h6⟩⟩
  refine lexn_late rfl hsz (fun x u => ∃ iv, x = rdV Q2 iv /\ IvOk Q2.imgs u iv) (fun _ _ _ g ⟨iv, h1, h2⟩ => ⟨iv, h1, h2.fits g⟩) [(7, true)] [(20, 0), (21, 1), (22, 2), (23, 3), (24, 4), (25, 5), (26, 6), (27, 7), (29, 9)] none (by kernel_rfl) (by kernel_rfl) (by kernel_rfl) (by kernel_rfl) rfl (by decide) ?_ ?_
  ·intro xs w hw hp K hK;simp only [hz] at hp;obtain ⟨iv8, h8, h9, h10⟩ := hp;unfold rdV at h8;go_simp;exact hK _ _ ⟨iv8, rfl, h9⟩ (Grow.refl _)
  refine lexn_late rfl hsz (fun x _ => x = .bool Q3) (fun _ _ _ _ h => h) [(7, true)] [(20, 0), (21, 1), (22, 2), (23, 3), (24, 4), (25, 5), (26, 6), (27, 7), (28, 8)] none (by kernel_rfl) (by kernel_rfl) (by kernel_rfl) (by kernel_rfl) rfl (by decide) ?_ ?_
  ·intro xs w hw hp K hK;simp only [hz] at hp;obtain ⟨iv8, h8, h9, h10⟩ := hp;unfold rdV at h8;go_simp;exact hK _ _ rfl (Grow.refl _)
  intro xs w hw hp;have ha0 := HA0.out;clear HA0 hsz s0 s3 s5 s6;simp only [hz] at hp;have h27 := hp.2.2.2.2.2.2.2.1;have h28 := hp.2.2.2.2.2.2.2.2.1;have h29 := hp.2.2.2.2.2.2.2.2.2;clear hp;subst ha0;simp only [putAll, h29];obtain ⟨iv8, h28, hI⟩ := h28;obtain ⟨ja, jn, jc, rfl⟩ := hI.form;simp only [h28];obtain ⟨iv7, -, -, hT7⟩ := h27;have HSw := keep (hw.undrew.2 HL0.out);have HRx := keep (HR0.out.sel HSw.out (by decide) (by decide));have HI := keep hI;have HT7 := keep hT7;clear hw h28 h29 hI hT7 HCx HSt;unfold zC at HRx;unfold rdV;simp only [List.drop_succ_cons, List.drop_zero];go_frame;go_wp2_with ((refine wpList_store_rec rfl _ _ rfl (w_.heap.size + 2) _ rfl rfl HRx.out rfl rfl rfl ?_); intro wz hset hbz; have Hset := keep hset; have Hbut := keep hbz; clear hset hbz);refine bodyPost_ret (v := .tuple #[rdV Q2 (.slice ja jn jc), .bool Q3]) ?_ rfl ?_
  ·exact plpage_res _ _ _ _ Q2 _ rfl rfl Hset.out
  ·exact st_img HT7.out ((Sel.of_grow HT.out.low HG0.out).trans HSw.out) Hbut.out (by omega) HRx.out HT.out.low HI.out
theorem plpage_low (bs pb : Nat) (S : Pl) (v : Vw) (av rv iv : Value) (P : Pg) (jv fv : Value) (fr : List Int) (w_ : World) (h : PlT bs pb w_ S) (ok : PlOk S) (h4 : S.st <= 4) (hvk : VwK bs pb w_ v av rv iv) (hpk : PgK bs pb w_ jv P) (hcap : Capd jv) (hfk : ∀ w', Sel bs pb w_ w' -> Ints w' fv fr) (hfl : (fr.length : Int) <= 4611686018427387904) (hil : P.items.length <= 8796093021980) :
  Calls Tryz.prog 20 #[.pointer (some ⟨pb, 0, none⟩), vwV v av rv iv, pgV P jv, fv] w_ (StPost bs pb (S.page v P fr).1 (S.page v P fr).2.1 (S.page v P fr).2.2 w_) :=
 plpage_core bs pb S v av rv iv P jv fv fr w_ h (hvk w_ (Sel.refl _ _ _)) (hpk w_ (Sel.refl _ _ _)) fun hs => stage_low bs pb S v av rv iv P jv fv fr w_ ok hs h4 hvk hpk hcap hfk hfl hil
end Go.Proofs.YtcdapdcablnhpaaGreat
namespace Go.Proofs.YtcdapdcablnhpaaGreat
open Go.RowKit
attribute [local go_sem] givesV lookV knAt hgs
def leafA : Pg := ⟨0, 3, 0, 0, [], [[1, 97, 2, 0]]⟩
def verA : List UInt8 := [1, 0, 1, 0, 0, 1, 97, 1, 120]
def heapA : Pg := ⟨0, 2, 0, 0, [], [verA]⟩
def clogA : Pg := ⟨0, 1, 0, 0, [], [[1], [0, 0, 0, 0]]⟩
def clogB : Pg := ⟨0, 1, 0, 0, [], [[1], [2, 0, 0, 0]]⟩
def viewA : Vw := ⟨16, 5, [], 5, [5], clogB⟩
theorem za_ins : insN leafP ([97], 2, 0) = (leafA, 0) := by kernel_rfl
theorem za_enc : encTI 1 0 false [97] [120] = (verA, 0) := by kernel_rfl
theorem za_blank : blankS 16 1 = (clogA, 0) := by kernel_rfl
theorem za_set : setS 16 clogA 1 2 = (clogB, 0) := by kernel_rfl
def SmPost (w : World) (x : Ending) (w' : World) : Prop :=
 ∃ lv hv rv iv, x = .returned (.tuple #[pgV leafA lv, pgV heapA hv, vwV viewA (.slice none 0 0) rv iv, .bool true]) /\ ItemsC w' lv leafA.items /\ ItemsC w' hv heapA.items /\ IntsS w' rv [5] /\ ItemsS w' iv clogB.items /\ Below w.heap.size w w'
def heapC (hv : Nat) : List Value := [.int .i64 0, .int .i64 2, .int .i64 0, .int .i64 0, .string ⟨#[]⟩, .slice (some ⟨hv, 0, none⟩) 1 1]
def ZG (N : Nat) (CA CV : List Value) (k : Nat) (cs : List Value) (w : World) : Prop :=
 (k = N /\ cs = CA) \/ (k = N + 1 /\ ∃ hv, N + 2 < hv /\ cs = heapC hv /\ Blk w hv 9 [.string (str verA)]) \/ (k = N + 2 /\ cs = CV)
structure Zx (N : Nat) (CA CV : List Value) (u v : World) : Prop where
 below : Below N u v
 same : ∀ k, k < u.heap.size -> k ≠ N -> k ≠ N + 1 -> k ≠ N + 2 -> v.heap[k]? = u.heap[k]?
 some : ∀ k t cs, k = N \/ k = N + 1 \/ k = N + 2 -> Blk u k t cs -> Blk v k t cs \/ ∃ cs', cs'.length = cs.length /\ ZG N CA CV k cs' v /\ Blk v k t cs'
theorem ZG.move {N : Nat} {CA CV : List Value} {k : Nat} {cs : List Value} {u v : World} (h : ZG N CA CV k cs u) (hk : ∀ j, j < u.heap.size -> j ≠ N -> j ≠ N + 1 -> j ≠ N + 2 -> v.heap[j]? = u.heap[j]?) : ZG N CA CV k cs v := by
 rcases h with h | ⟨h, hv, h1, h2, h3⟩ | h
 ·exact .inl h
 ·refine .inr (.inl ⟨h, hv, h1, h2, ?_⟩);unfold Blk at h3 ⊢;rw [hk hv (lt_of_block h3) (by omega) (by omega) (by omega)];exact h3
 ·exact .inr (.inr h)
theorem Zx.refl (N : Nat) (CA CV : List Value) (u : World) : Zx N CA CV u u := ⟨Below.refl _ _, fun _ _ _ _ _ => rfl, fun _ _ _ _ h => .inl h⟩
theorem Zx.grow {N : Nat} {CA CV : List Value} {u v : World} (h : Grow u v) (hN : N <= u.heap.size) : Zx N CA CV u v := ⟨h.mono hN, fun k hk _ _ _ => h.block k hk, fun _ _ _ _ hb => .inl (hb.fits h)⟩
theorem Zx.trans {N : Nat} {CA CV : List Value} {u v w : World} (h : Zx N CA CV u v) (k : Zx N CA CV v w) : Zx N CA CV u w := by
 refine ⟨h.below.trans k.below, fun i hi a b c => (k.same i (Nat.lt_of_lt_of_le hi h.below.size) a b c).trans (h.same i hi a b c), fun i t cs hi hb => ?_⟩;rcases h.some i t cs hi hb with hv | ⟨cs', hl, hg, hv⟩
 ·exact k.some i t cs hi hv
 ·rcases k.some i t cs' hi hv with hw | ⟨cs'', hl', hg', hw⟩
  ·exact .inr ⟨cs', hl, hg.move k.same, hw⟩
  ·exact .inr ⟨cs'', hl'.trans hl, hg', hw⟩
theorem Zx.undrew {N : Nat} {CA CV : List Value} {u v : World} (h : Zx N CA CV u.drew v) : Zx N CA CV u v := ⟨⟨h.below.os, h.below.tape, h.below.output, h.below.size, h.below.block⟩, h.same, h.some⟩
theorem Zx.but {N b t : Nat} {CA CV : List Value} {cs cs' : List Value} {u w : World} (k : But b u w) (hN : b = N \/ b = N + 1 \/ b = N + 2) (hs : N <= u.heap.size) (hb : Blk u b t cs) (hl : cs'.length = cs.length) (hw : Blk w b t cs') (hg : ZG N CA CV b cs' w) : Zx N CA CV u w := by
 refine ⟨⟨k.os, k.tape, k.output, k.size, fun i hi => k.block i (by omega) (by omega)⟩, fun i hi a b' c => k.block i hi (by omega), fun i t' cs'' hi hb' => ?_⟩
 by_cases e : i = b
 ·subst e;unfold Blk at hb hb';rw [hb] at hb';simp at hb';obtain ⟨h1, h2⟩ := hb';have h1 : cs = cs'' := by simpa using h1
  subst h1 h2;exact .inr ⟨cs', hl, hg, hw⟩
 ·exact .inl (hb'.but k e)
theorem Zx.other {N b t : Nat} {CA CV : List Value} {cs : List Value} {u v : World} (h : Zx N CA CV u v) (hb : Blk u b t cs) (hN : N + 2 < b) : Blk v b t cs := by
 unfold Blk at hb ⊢;rw [h.same b (lt_of_block hb) (by omega) (by omega) (by omega)];exact hb
theorem Zx.len {N k t : Nat} {CA CV : List Value} {cs : List Value} {u v : World} (h : Zx N CA CV u v) (hb : Blk u k t cs) (hk : k = N \/ k = N + 1 \/ k = N + 2) : ∃ cs', cs'.length = cs.length /\ Blk v k t cs' := by
 rcases h.some k t cs hk hb with h1 | ⟨cs', h1, _, h2⟩
 ·exact ⟨cs, rfl, h1⟩
 ·exact ⟨cs', h1, h2⟩
theorem Zx.stayA {N t : Nat} {CA CV : List Value} {u v : World} (h : Zx N CA CV u v) (hb : Blk u N t CA) : Blk v N t CA := by
 rcases h.some N t CA (.inl rfl) hb with h1 | ⟨cs', _, h2, h3⟩
 ·exact h1
 ·rcases h2 with ⟨_, rfl⟩ | ⟨e, _⟩ | ⟨e, _⟩
  ·exact h3
  ·omega
  ·omega
theorem Zx.stayV {N t : Nat} {CA CV : List Value} {u v : World} (h : Zx N CA CV u v) (hb : Blk u (N + 2) t CV) : Blk v (N + 2) t CV := by
 rcases h.some (N + 2) t CV (.inr (.inr rfl)) hb with h1 | ⟨cs', _, h2, h3⟩
 ·exact h1
 ·rcases h2 with ⟨e, _⟩ | ⟨e, _⟩ | ⟨_, rfl⟩
  ·omega
  ·omega
  ·exact h3
theorem Zx.stayB {N t : Nat} {CA CV : List Value} {u v : World} (h : Zx N CA CV u v) (hb : ∃ hv, N + 2 < hv /\ Blk u (N + 1) t (heapC hv) /\ Blk u hv 9 [.string (str verA)]) : ∃ hv, N + 2 < hv /\ Blk v (N + 1) t (heapC hv) /\ Blk v hv 9 [.string (str verA)] := by
 obtain ⟨hv, h1, h2, h3⟩ := hb;rcases h.some (N + 1) t _ (.inr (.inl rfl)) h2 with h4 | ⟨cs', _, h5, h6⟩
 ·exact ⟨hv, h1, h4, h.other h3 h1⟩
 ·rcases h5 with ⟨e, _⟩ | ⟨_, hv', a, rfl, b⟩ | ⟨e, _⟩
  ·omega
  ·exact ⟨hv', a, h6, b⟩
  ·omega
theorem Zx.rowS {N tA tC e n : Nat} {CA CV csA csB csC cs : List Value} {u v : World} {x : Value} (h : Zx N CA CV u v) (hA : Blk u N tA csA) (hB : Blk u (N + 1) tA csB) (hC : Blk u (N + 2) tC csC) (hr : RowS u e x n cs) (h1 : e ≠ tA) (h2 : e ≠ tC) : RowS v e x n cs := by
 refine hr.move fun c blk f hc => ?_
 have hne : ∀ k t cs', Blk u k t cs' -> e ≠ t -> c ≠ k := by
  rintro k t cs' hb hn rfl;unfold Blk at hb;rw [hb] at hc;simp at hc;exact hn hc.2.1.symm
 rw [h.same c (lt_of_block hc) (hne _ _ _ hA h1) (hne _ _ _ hB h1) (hne _ _ _ hC h2)];exact hc
theorem len6z {l : List Value} (h : l.length = 6) : ∃ a0 a1 a2 a3 a4 a5, l = [a0, a1, a2, a3, a4, a5] := by
 match l, h with
 | [a0, a1, a2, a3, a4, a5], _ => exact ⟨a0, a1, a2, a3, a4, a5, rfl⟩
theorem len11 {l : List Value} (h : l.length = 11) : ∃ a0 a1 a2 a3 a4 a5 a6 a7 a8 a9 a10, l = [a0, a1, a2, a3, a4, a5, a6, a7, a8, a9, a10] := by
 match l, h with
 | [a0, a1, a2, a3, a4, a5, a6, a7, a8, a9, a10], _ => exact ⟨a0, a1, a2, a3, a4, a5, a6, a7, a8, a9, a10, rfl⟩
theorem pvp_new (w_ w0 : World) (h : w0 = ((w_.alloc (.cells #[.int .i64 0, .int .i64 0, .int .i64 0, .int .i64 0, .string ⟨#[]⟩, .slice none 0 0] 28)).alloc (.cells #[.int .i64 0, .int .i64 0, .int .i64 0, .int .i64 0, .string ⟨#[]⟩, .slice none 0 0] 28)).alloc (.cells #[.int .i64 0, .int .i64 0, .slice none 0 0, .int .i64 0, .slice none 0 0, .int .i64 0, .int .i64 0, .int .i64 0, .int .i64 0, .string ⟨#[]⟩, .slice none 0 0] 40)) :
  Grow w_ w0 /\ Blk w0 w_.heap.size 28 [.int .i64 0, .int .i64 0, .int .i64 0, .int .i64 0, .string ⟨#[]⟩, .slice none 0 0] /\ Blk w0 (w_.heap.size + 1) 28 [.int .i64 0, .int .i64 0, .int .i64 0, .int .i64 0, .string ⟨#[]⟩, .slice none 0 0] /\ Blk w0 (w_.heap.size + 2) 40 [.int .i64 0, .int .i64 0, .slice none 0 0, .int .i64 0, .slice none 0 0, .int .i64 0, .int .i64 0, .int .i64 0, .int .i64 0, .string ⟨#[]⟩, .slice none 0 0] := by
 have g1 := Blk.new w_ 28 [.int .i64 0, .int .i64 0, .int .i64 0, .int .i64 0, .string ⟨#[]⟩, .slice none 0 0];obtain ⟨u1, hu1⟩ : ∃ u1, u1 = w_.alloc (.cells #[.int .i64 0, .int .i64 0, .int .i64 0, .int .i64 0, .string ⟨#[]⟩, .slice none 0 0] 28) := ⟨_, rfl⟩;have s1 : u1.heap.size = w_.heap.size + 1 := by subst hu1; simp
 have g2 := Blk.new u1 28 [.int .i64 0, .int .i64 0, .int .i64 0, .int .i64 0, .string ⟨#[]⟩, .slice none 0 0];obtain ⟨u2, hu2⟩ : ∃ u2, u2 = u1.alloc (.cells #[.int .i64 0, .int .i64 0, .int .i64 0, .int .i64 0, .string ⟨#[]⟩, .slice none 0 0] 28) := ⟨_, rfl⟩;have s2 : u2.heap.size = w_.heap.size + 2 := by subst hu2; simp [s1]
 have g3 := Blk.new u2 40 [.int .i64 0, .int .i64 0, .slice none 0 0, .int .i64 0, .slice none 0 0, .int .i64 0, .int .i64 0, .int .i64 0, .int .i64 0, .string ⟨#[]⟩, .slice none 0 0];rw [s2] at g3;rw [s1] at g2;subst h;refine ⟨(((Grow.refl w_).alloc _).alloc _).alloc _, (g1.alloc _).alloc _, ?_, ?_⟩
 ·have g2' := g2.alloc (.cells #[.int .i64 0, .int .i64 0, .slice none 0 0, .int .i64 0, .slice none 0 0, .int .i64 0, .int .i64 0, .int .i64 0, .int .i64 0, .string ⟨#[]⟩, .slice none 0 0] 40);subst hu1; exact g2'
 ·subst hu1 hu2; exact g3
set_option maxRecDepth 100000 in
set_option maxHeartbeats 4000000 in
theorem small19_any (w_ : World) : Calls Tryz.prog 43 #[] w_ (SmPost w_) := by
 obtain ⟨w0, hw0⟩ : ∃ w0, w0 = ((w_.alloc (.cells #[.int .i64 0, .int .i64 0, .int .i64 0, .int .i64 0, .string ⟨#[]⟩, .slice none 0 0] 28)).alloc (.cells #[.int .i64 0, .int .i64 0, .int .i64 0, .int .i64 0, .string ⟨#[]⟩, .slice none 0 0] 28)).alloc (.cells #[.int .i64 0, .int .i64 0, .slice none 0 0, .int .i64 0, .slice none 0 0, .int .i64 0, .int .i64 0, .int .i64 0, .int .i64 0, .string ⟨#[]⟩, .slice none 0 0] 40) := ⟨_, rfl⟩;obtain ⟨hg0, hA0, hB0, hC0⟩ := pvp_new w_ w0 hw0;have HG0 := keep hg0;have HA0 := keep hA0;have HB0 := keep hB0;have HC0 := keep hC0;have h1 := fun (u : World) => insert_any leafP (.slice none 0 0) ([97], 2, 0) u (pgIn_of (ItemsC.nil u) rfl (by decide) (by decide) (by decide))
 rw [za_ins] at h1;have h2 := fun (u : World) => tencode_any 1 0 false [97] [120] u
 rw [za_enc] at h2;have h3 := fun (u : World) => blank_any 16 1 u
 rw [za_blank] at h3;have h4 := fun (u : World) (iv : Value) (hi : Items u iv clogA.items) => set_any 16 clogA iv 1 2 u hi (by decide) (by decide)
 rw [za_set] at h4;unfold PgPost pgV enV leafP at h1;unfold CpgPost pgV at h3 h4;dsimp only at h1 h2 h3 h4;rw [show str [97] = ⟨#[97]⟩ from rfl] at h1 h2;rw [show str [120] = ⟨#[120]⟩ from rfl] at h2;rw [str_nilS] at h1;have H1 := keep h1;have H2 := keep h2;have H3 := keep h3;have H4 := keep h4;clear h1 h2 h3 h4 hg0 hA0 hB0 hC0;go_enter Tryz.func43, Tryz.ntmps43;go_upto_region 1 with fail;rw [<- hw0];clear hw0;go_wp2_with fail;refine (leaf_any w0).mono ?_;rintro x w1 ⟨rfl, hb1⟩;unfold pgV leafP;rw [str_nilS];have HG1 := keep hb1;clear hb1;go_wp2_with fail;refine (H1.out w1).mono ?_;rintro x w2 ⟨lv, rfl, hl, hb2⟩;obtain ⟨la, lc, rfl⟩ := itemsS_form hl.1;have HL2 := keep hl;have HG2 := keep (Grow.trans HG1.out hb2);clear hb2 hl H1;go_upto_region 2 with fail;obtain ⟨w3, hw3⟩ : ∃ w3, w3 = w2.alloc (.cells #[.int .i64 leafA.lsn, .int .i64 leafA.kind, .int .i64 leafA.level, .int .i64 leafA.right, .string (str leafA.high), .slice la leafA.items.length lc] 28) := ⟨_, rfl⟩;rw [<- hw3];have HL3 := keep (show Blk w3 w2.heap.size 28 (pgCells leafA (.slice la leafA.items.length lc)) by subst hw3; exact Blk.new w2 _ [_, _, _, _, _, _]);have HG3 := keep (show Grow w0 w3 by subst hw3; exact Grow.trans HG2.out ((Grow.refl _).alloc _));have HI3 := keep (show ItemsC w3 (.slice la leafA.items.length lc) leafA.items by subst hw3; exact HL2.out.fits ((Grow.refl _).alloc _));have hn1 : w_.heap.size + 2 < w2.heap.size := Nat.lt_of_lt_of_le HC0.out.lt HG2.out.size
 have hn0 : w0.heap.size <= w2.heap.size := HG2.out.size;generalize w2.heap.size = b1 at *;clear hw3 HL2 HG2 HG1;go_wp2_with fail;refine (H2.out w3).mono ?_;rintro x w4 ⟨rfl, hb4⟩;have HG4 := keep hb4;clear hb4 H2;go_wp2_with fail;refine (H3.out w4).mono ?_;rintro x w5 ⟨cv, rfl, hc, hb5⟩;obtain ⟨ca, cc, rfl⟩ := itemsS_form hc;have HC5 := keep hc;have HG5 := keep (Grow.trans HG4.out hb5);clear hb5 hc H3 HG4;go_upto_region 4 with fail;obtain ⟨w6, hw6⟩ : ∃ w6, w6 = w5.alloc (.cells #[.int .i64 clogA.lsn, .int .i64 clogA.kind, .int .i64 clogA.level, .int .i64 clogA.right, .string (str clogA.high), .slice ca clogA.items.length cc] 28) := ⟨_, rfl⟩;rw [<- hw6];have hB6 : Blk w6 w5.heap.size 28 (pgCells clogA (.slice ca clogA.items.length cc)) := by subst hw6; exact Blk.new w5 _ [_, _, _, _, _, _]
 have HG6 := keep (show Grow w3 w6 by subst hw6; exact Grow.trans HG5.out ((Grow.refl _).alloc _));have hI6 : ItemsS w6 (.slice ca clogA.items.length cc) clogA.items := by subst hw6; exact RowS.fits HC5.out ((Grow.refl _).alloc _)
 have hn2 : b1 < w5.heap.size := Nat.lt_of_lt_of_le HL3.out.lt HG5.out.size;have HH4 := keep (H4.out w6 _ hI6.weak);have HB6 := keep hB6;unfold pgCells at hB6;obtain ⟨p0, p1, p2, p3, p4, p5, _⟩ := pgres hB6;generalize w5.heap.size = b2 at *;clear hw6 hI6 hB6 HC5 HG5 H4;go_wp2_with fail;refine HH4.out.mono ?_;rintro x w7 ⟨dv, rfl, hd, hb7⟩;obtain ⟨da, dc, rfl⟩ := itemsS_form hd;have HD7 := keep hd;have HG7 := keep (Grow.trans HG6.out hb7);have hB7 := HB6.out.fits hb7;have HB7 := keep hB7;unfold pgCells at hB7;clear p0 p1 p2 p3 p4 p5 hb7 hd HH4 HB6 HG6;obtain ⟨p0, p1, p2, p3, p4, p5, z0, z1, z2, z3, z4, z5⟩ := pgres hB7;clear hB7;go_upto_region 5 with fail;obtain ⟨w8, hw8⟩ : ∃ w8, w8 = (((((w7.setCell ⟨b2, 0, none⟩ (.int .i64 clogB.lsn)).setCell ⟨b2, 1, none⟩ (.int .i64 clogB.kind)).setCell ⟨b2, 2, none⟩ (.int .i64 clogB.level)).setCell ⟨b2, 3, none⟩ (.int .i64 clogB.right)).setCell ⟨b2, 4, none⟩ (.string (str clogB.high))).setCell ⟨b2, 5, none⟩ (.slice da clogB.items.length dc) := ⟨_, rfl⟩;rw [<- hw8];have hk8 : But b2 w7 w8 := by subst hw8; exact pgbut w7 b2 _ _ _ _ _ _
 have hB8 : Blk w8 b2 28 (pgCells clogB (.slice da clogB.items.length dc)) := by subst hw8; exact pgset HB7.out _ _ _ _ _ _
 have hlt3 := HL3.out.lt;have HG8 := keep (show Below (b1 + 1) w3 w8 from But.below (HG7.out.mono (by omega)) hk8 (by omega) (by have := HG7.out.size; omega));have HI8 := keep (itemsC_but (HI3.out.fits HG7.out) hk8 HB7.out (by decide));have HD8 := keep (rowS_typ HD7.out hk8 HB7.out (by decide));have HB8 := keep hB8;have hl8 := hB8.lt;unfold pgCells at hB8;clear p0 p1 p2 p3 p4 p5 z0 z1 z2 z3 z4 z5 hw8 hk8 HB7 HD7 HG7 HI3 hlt3;obtain ⟨p0, p1, p2, p3, p4, p5, _⟩ := pgres hB8;clear hB8;go_upto_region 6 with fail;obtain ⟨w10, hw10⟩ : ∃ w10, w10 = (w8.alloc (.cells #[.int .i64 5] 3)).alloc (.cells #[.int .i64 16, .int .i64 5, .slice none 0 0, .int .i64 5, .slice (some ⟨w8.heap.size, 0, none⟩) 1 1, .int .i64 clogB.lsn, .int .i64 clogB.kind, .int .i64 clogB.level, .int .i64 clogB.right, .string (str clogB.high), .slice da clogB.items.length dc] 40) := ⟨_, rfl⟩;rw [<- hw10];have hg10 : Grow w8 w10 := by subst hw10; exact ((Grow.refl _).alloc _).alloc _
 have hI10 : IntsS w10 (.slice (some ⟨w8.heap.size, 0, none⟩) 1 1) [5] := by
  have := RowS.fits (one_ints w8 5) ((Grow.refl _).alloc (.cells #[.int .i64 16, .int .i64 5, .slice none 0 0, .int .i64 5, .slice (some ⟨w8.heap.size, 0, none⟩) 1 1, .int .i64 clogB.lsn, .int .i64 clogB.kind, .int .i64 clogB.level, .int .i64 clogB.right, .string (str clogB.high), .slice da clogB.items.length dc] 40));subst hw10; exact this
 have hV10 : Blk w10 (w8.heap.size + 1) 40 [.int .i64 16, .int .i64 5, .slice none 0 0, .int .i64 5, .slice (some ⟨w8.heap.size, 0, none⟩) 1 1, .int .i64 clogB.lsn, .int .i64 clogB.kind, .int .i64 clogB.level, .int .i64 clogB.right, .string (str clogB.high), .slice da clogB.items.length dc] := by
  have := Blk.new (w8.alloc (.cells #[.int .i64 5] 3)) 40 [.int .i64 16, .int .i64 5, .slice none 0 0, .int .i64 5, .slice (some ⟨w8.heap.size, 0, none⟩) 1 1, .int .i64 clogB.lsn, .int .i64 clogB.kind, .int .i64 clogB.level, .int .i64 clogB.right, .string (str clogB.high), .slice da clogB.items.length dc];have e : (w8.alloc (.cells #[.int .i64 5] 3)).heap.size = w8.heap.size + 1 := by simp
  rw [e] at this;subst hw10; exact this
 have hG : Below w0.heap.size w0 w10 := Below.trans HG3.out ((HG8.out.mono (by have := HC0.out.lt; have := HL3.out.lt; omega)).trans (hg10.mono (by have := hl8; have := HC0.out.lt; omega)));have HI10 := keep (HI8.out.fits hg10);have HD10 := keep (RowS.fits HD8.out hg10);have HN10 := keep hI10;have HG10 := keep hG;have hL10 : Blk w10 b1 28 (pgCells leafA (.slice la leafA.items.length lc)) := (HL3.out.below HG8.out (by omega)).fits hg10;have hA := HA0.out.below hG HA0.out.lt;have hB := HB0.out.below hG HB0.out.lt;have hC := HC0.out.below hG HC0.out.lt;have HA := keep hA;have HB := keep hB;have HC := keep hC;unfold pgCells at hL10;clear p0 p1 p2 p3 p4 p5;have l1 := hC.lt;have l2 := hV10.lt;have n1 : b1 ≠ w_.heap.size := by omega
 have n2 : b1 ≠ w_.heap.size + 1 := by omega
 have n3 : b1 ≠ w_.heap.size + 2 := by omega
 have n4 : w8.heap.size + 1 ≠ w_.heap.size := by omega
 have n5 : w8.heap.size + 1 ≠ w_.heap.size + 1 := by omega
 have n6 : w8.heap.size + 1 ≠ w_.heap.size + 2 := by omega
 generalize w8.heap.size = b3 at *;obtain ⟨CA, hCA⟩ : ∃ CA : List Value, CA = [.int .i64 leafA.lsn, .int .i64 leafA.kind, .int .i64 leafA.level, .int .i64 leafA.right, .string (str leafA.high), .slice la leafA.items.length lc] := ⟨_, rfl⟩;obtain ⟨CV, hCV⟩ : ∃ CV : List Value, CV = [.int .i64 16, .int .i64 5, .slice none 0 0, .int .i64 5, .slice (some ⟨b3, 0, none⟩) 1 1, .int .i64 clogB.lsn, .int .i64 clogB.kind, .int .i64 clogB.level, .int .i64 clogB.right, .string (str clogB.high), .slice da clogB.items.length dc] := ⟨_, rfl⟩;have HCA := keep hCA;have HCV := keep hCV;have HL10 := keep hL10;have HV10 := keep hV10;have HSz := keep hC.lt;have HN1 := keep (show w_.heap.size + 2 < b1 by omega);have HN3 := keep (show w_.heap.size + 2 < b3 + 1 by omega);clear hw10 hg10 hI10 hV10 hG hL10 hA hB hC HG8 HI8 HD8 HB8 HL3 HG3 hCA hCV;refine rgx (N := 22) (by kernel_rfl) (Zx w_.heap.size CA CV) (Zx.refl _ _ _ _) (fun _ _ _ => Zx.trans) (by kernel_rfl) rfl rfl ?_;intro a0 ha0;have hsz : a0.tmps.size = 55 := (size_at ha0).trans rfl;have s0 := slot_at ha0 0 rfl;have s1 := slot_at ha0 1 rfl;have s2 := slot_at ha0 2 rfl;have s4 := slot_at ha0 4 rfl;have s5 := slot_at ha0 5 rfl;have s6 := slot_at ha0 6 rfl;have s7 := slot_at ha0 7 rfl;have s9 := slot_at ha0 9 rfl;have s10 := slot_at ha0 10 rfl;have s11 := slot_at ha0 11 rfl;have HA0 := keep ha0;clear ha0;apply lxv hsz (Zx.refl _ _ _) (by kernel_rfl) rfl
 ·intro xs w hw K hK;obtain ⟨p0, p1, p2, p3, p4, p5, _⟩ := pgres (hw.undrew.other HL10.out HN1.out);go_simp;exact hK
 apply lxv hsz (Zx.refl _ _ _) (by kernel_rfl) rfl
 ·intro xs w hw K hK;go_simp;exact hK
 refine lxs hsz (fun v u => ∃ hv, v = .slice (some ⟨hv, 0, none⟩) 1 1 /\ w_.heap.size + 2 < hv /\ Blk u hv 9 [.string (str verA)]) (fun _ _ _ g ⟨hv, h1, h2, h3⟩ => ⟨hv, h1, h2, g.other h3 h2⟩) [] (by kernel_rfl) rfl ?_ ?_
 ·intro xs w hw hp K hK;go_simp;exact hK _ _ ⟨_, rfl, Nat.lt_of_lt_of_le HSz.out hw.undrew.below.size, Blk.new w _ [_]⟩ (Zx.grow ((Grow.refl _).alloc _) (by have := HSz.out; have := hw.undrew.below.size; omega))
 refine lxs hsz (fun v u => ∃ hv, v = .agg #[.int .i64 0, .int .i64 2, .int .i64 0, .int .i64 0, .string ⟨#[]⟩, .slice (some ⟨hv, 0, none⟩) 1 1] /\ w_.heap.size + 2 < hv /\ Blk u hv 9 [.string (str verA)]) (fun _ _ _ g ⟨hv, h1, h2, h3⟩ => ⟨hv, h1, h2, g.other h3 h2⟩) [(2, true)] (by kernel_rfl) rfl ?_ ?_
 ·intro xs w hw hp K hK;simp only [hzv] at hp;obtain ⟨hv, h2, hvB⟩ := hp;go_simp;exact hK _ _ ⟨hv, rfl, hvB⟩ (Zx.refl _ _ _ _)
 apply lxv hsz (Zx.refl _ _ _) (by kernel_rfl) rfl
 ·intro xs w hw K hK;obtain ⟨q0, q1, q2, q3, q4, q5, q6, q7, q8, q9, q10⟩ := vwres (hw.undrew.other HV10.out HN3.out);go_simp;exact hK
 iterate 14
  apply lxv hsz (Zx.refl _ _ _) (by kernel_rfl) rfl
  ·intro xs w hw K hK;go_simp;exact hK
 refine lxn hsz (fun u => Blk u w_.heap.size 28 CA) (fun _ _ g h => g.stayA h) [] (by kernel_rfl) rfl ?_ ?_
 ·intro xs w hw hp K hK;obtain ⟨cs, hl, hB⟩ := hw.undrew.len HA.out (.inl rfl);obtain ⟨a0_, a1_, a2_, a3_, a4_, a5_, rfl⟩ := len6z hl;obtain ⟨r0, r1, r2, r3, r4, r5, y0, y1, y2, y3, y4, y5⟩ := pgres hB;have Hset := keep (pgset hB (.int .i64 leafA.lsn) (.int .i64 leafA.kind) (.int .i64 leafA.level) (.int .i64 leafA.right) (.string (str leafA.high)) (.slice la leafA.items.length lc));have Hbut := keep (pgbut w w_.heap.size (.int .i64 leafA.lsn) (.int .i64 leafA.kind) (.int .i64 leafA.level) (.int .i64 leafA.right) (.string (str leafA.high)) (.slice la leafA.items.length lc));have HBk := keep hB;clear hB hl;go_simp;exact hK _ _ (HCA.out ▸ Hset.out) (Zx.but (cs' := CA) Hbut.out (.inl rfl) (by have := HSz.out; have := hw.undrew.below.size; omega) HBk.out (by rw [HCA.out]; rfl) (HCA.out ▸ Hset.out) (.inl ⟨rfl, rfl⟩))
 refine lxn hsz (fun u => ∃ hv, w_.heap.size + 2 < hv /\ Blk u (w_.heap.size + 1) 28 (heapC hv) /\ Blk u hv 9 [.string (str verA)]) (fun _ _ g h => g.stayB h) [(3, true), (19, false)] (by kernel_rfl) rfl ?_ ?_
 ·intro xs w hw hp K hK;simp only [hzv] at hp;obtain ⟨⟨hv, h2, hvl, hvB⟩, -⟩ := hp;obtain ⟨cs, hl, hB⟩ := hw.undrew.len HB.out (.inr (.inl rfl));obtain ⟨a0_, a1_, a2_, a3_, a4_, a5_, rfl⟩ := len6z hl;obtain ⟨r0, r1, r2, r3, r4, r5, y0, y1, y2, y3, y4, y5⟩ := pgres hB;have Hset := keep (pgset hB (.int .i64 0) (.int .i64 2) (.int .i64 0) (.int .i64 0) (.string ⟨#[]⟩) (.slice (some ⟨hv, 0, none⟩) 1 1));have Hbut := keep (pgbut w (w_.heap.size + 1) (.int .i64 0) (.int .i64 2) (.int .i64 0) (.int .i64 0) (.string ⟨#[]⟩) (.slice (some ⟨hv, 0, none⟩) 1 1));have HBk := keep hB;have HvB := keep hvB;have Hvl := keep hvl;clear hB hl hvB hvl;go_simp;exact hK _ _ ⟨hv, Hvl.out, Hset.out, HvB.out.but Hbut.out (by have := Hvl.out; omega)⟩ (Zx.but (cs' := heapC hv) Hbut.out (.inr (.inl rfl)) (by have := HSz.out; have := hw.undrew.below.size; omega) HBk.out rfl Hset.out (.inr (.inl ⟨rfl, hv, Hvl.out, rfl, HvB.out.but Hbut.out (by have := Hvl.out; omega)⟩)))
 refine lxn hsz (fun u => Blk u (w_.heap.size + 2) 40 CV) (fun _ _ g h => g.stayV h) [(4, true), (19, false), (20, false)] (by kernel_rfl) rfl ?_ ?_
 ·intro xs w hw hp K hK;simp only [hzv] at hp;obtain ⟨h40, -⟩ := hp;obtain ⟨cs, hl, hB⟩ := hw.undrew.len HC.out (.inr (.inr rfl));obtain ⟨a0_, a1_, a2_, a3_, a4_, a5_, a6_, a7_, a8_, a9_, a10_, rfl⟩ := len11 hl;obtain ⟨r0, r1, r2, r3, r4, r5, r6, r7, r8, r9, r10⟩ := vwres hB;have z0 := hB.free 0;have z1 := hB.free 1;have z2 := hB.free 2;have z3 := hB.free 3;have z4 := hB.free 4;have z5 := hB.free 5;have z6 := hB.free 6;have z7 := hB.free 7;have z8 := hB.free 8;have z9 := hB.free 9;have z10 := hB.free 10;have Hset := keep (((((((((((hB.set 0 (.int .i64 16)).set 1 (.int .i64 5)).set 2 (.slice none 0 0)).set 3 (.int .i64 5)).set 4 (.slice (some ⟨b3, 0, none⟩) 1 1)).set 5 (.int .i64 clogB.lsn)).set 6 (.int .i64 clogB.kind)).set 7 (.int .i64 clogB.level)).set 8 (.int .i64 clogB.right)).set 9 (.string (str clogB.high))).set 10 (.slice da clogB.items.length dc));have Hbut := keep ((((((((((((But.refl (w_.heap.size + 2) w).setCell 0 (.int .i64 16)).setCell 1 (.int .i64 5)).setCell 2 (.slice none 0 0)).setCell 3 (.int .i64 5)).setCell 4 (.slice (some ⟨b3, 0, none⟩) 1 1)).setCell 5 (.int .i64 clogB.lsn)).setCell 6 (.int .i64 clogB.kind)).setCell 7 (.int .i64 clogB.level)).setCell 8 (.int .i64 clogB.right)).setCell 9 (.string (str clogB.high))).setCell 10 (.slice da clogB.items.length dc));have HBk := keep hB;clear hB hl;go_simp
  exact hK _ _ (HCV.out ▸ Hset.out) (Zx.but (cs' := CV) Hbut.out (.inr (.inr rfl)) (by have := HSz.out; have := hw.undrew.below.size; omega) HBk.out (by rw [HCV.out]; rfl) (HCV.out ▸ Hset.out) (.inr (.inr ⟨rfl, rfl⟩)))
 refine rgd [(19, false), (20, false), (21, false)] (by kernel_rfl) rfl ?_;intro xs w hw hp;have ha0 := HA0.out;clear HA0 hsz s0 s1 s2 s4 s5 s6 s7 s9 s10 s11;simp only [hzv] at hp;obtain ⟨h19, h20, h21⟩ := hp;subst ha0;simp only [putV];obtain ⟨hv, hvl, hB', hvB⟩ := h20;have hA' := h19;have hC' := h21;rw [HCA.out] at hA';rw [HCV.out] at hC';have HA' := keep hA';have HB' := keep hB';have HC' := keep hC';have HvB := keep hvB;have HIw := keep (⟨hw.undrew.rowS HA.out HB.out HC.out HI10.out.1 (by decide) (by decide), HI10.out.2⟩ : ItemsC w (.slice la leafA.items.length lc) leafA.items);have HDw := keep (hw.undrew.rowS HA.out HB.out HC.out HD10.out (by decide) (by decide));have HNw := keep (hw.undrew.rowS HA.out HB.out HC.out HN10.out (by decide) (by decide));have HGw := keep (show Below w_.heap.size w_ w from Below.trans HG0.out ((HG10.out.mono HG0.out.size).trans hw.undrew.below));clear hw h19 h21 hA' hB' hC' hvB hn1 hn0 hn2 hl8 l1 l2 n1 n2 n3 n4 n5 n6 HI10 HD10 HN10 HG10 HL10 HV10;simp only [List.drop_succ_cons, List.drop_zero];go_frame;go_wp2_with fail;refine bodyPost_ret (v := .tuple #[pgV leafA (.slice la leafA.items.length lc), pgV heapA (.slice (some ⟨hv, 0, none⟩) 1 1), vwV viewA (.slice none 0 0) (.slice (some ⟨b3, 0, none⟩) 1 1) (.slice da clogB.items.length dc), .bool true]) ?_ rfl ?_
 ·unfold heapC at HB';obtain ⟨r0, r1, r2, r3, r4, r5, _⟩ := pgres HA'.out;obtain ⟨s0, s1, s2, s3, s4, s5, _⟩ := pgres HB'.out;obtain ⟨v0, v1, v2, v3, v4, v5, v6, v7, v8, v9, v10⟩ := vwres HC'.out;simp [results, Tryz.results43, go_sem, r0, r1, r2, r3, r4, r5, s0, s1, s2, s3, s4, s5, v0, v1, v2, v3, v4, v5, v6, v7, v8, v9, v10, pgV, vwV, heapA, viewA, str_nilS]
 ·exact ⟨_, _, _, _, rfl, HIw.out, ⟨RowS.blk HvB.out _ _ _ 0 (by intro j _; rw [Nat.zero_add]; rfl), Nat.le_refl _⟩, HNw.out, HDw.out, HGw.out⟩
end Go.Proofs.YtcdapdcablnhpaaGreat
namespace Go.Proofs.YtcdapdcablnhpaaGreat
open Go.RowKit
theorem rowS_sel {bs pb e n : Nat} {w w' : World} {v : Value} {cs : List Value} (h : RowS w e v n cs) (k : Sel bs pb w w') (h1 : e ≠ 111) (h2 : e ≠ 46) : RowS w' e v n cs := h.move fun c blk f hc => k.typ c blk _ f hc h1 h2
theorem itemsC_sel {bs pb : Nat} {w w' : World} {v : Value} {l : List (List UInt8)} (h : ItemsC w v l) (k : Sel bs pb w w') : ItemsC w' v l := ⟨rowS_sel h.1 k (by decide) (by decide), h.2⟩
theorem PlT.apart {bs pb bs' pb' : Nat} {w w' : World} {S : Pl} (h : PlT bs pb w S) (k : Sel bs' pb' w w') (hne : pb ≠ pb') (hr : S.rows = []) (hrr : S.rr = []) : PlT bs pb w' S := by
 obtain ⟨rv, ov, lv, hB, hP⟩ := h.tab;refine ⟨Nat.le_trans h.low k.size, rv, ov, lv, k.plans _ _ _ hB hne, ?_, ?_, ⟨rowS_sel hP.left.1 k (by decide) (by decide), hP.left.2⟩, hP.none⟩
 ·have := hP.rr;rw [hrr] at this ⊢;exact rowS_none this
 ·rw [hr, hP.none hr];exact World.ownsRow_nil _ _ _ _
theorem pgK_of {bs pb : Nat} {w : World} {iv : Value} {P : Pg} (h : ItemsC w iv P.items) (h1 : ∀ x ∈ P.items, (x.length : Int) <= 140737488355328) (h2 : (P.high.length : Int) <= 140737488355328) (h3 : (P.items.length : Int) <= 140737488355328) (h4 : P.lsn <= 9223372036854775807) : PgK bs pb w iv P :=
 fun _ k => ⟨(itemsC_sel h k).1.weak, h1, h2, h3, h4⟩
theorem vwK_of {bs pb : Nat} {w : World} {v : Vw} {rv iv : Value} (ha : v.active = []) (hr : IntsS w rv v.running) (hi : ItemsS w iv v.clog.items) (h1 : (v.running.length : Int) <= 70368744177664) (h2 : (v.clog.items.length : Int) <= 70368744177664) (h3 : ∀ x ∈ v.clog.items, (x.length : Int) <= 9223372036854775807) : VwK bs pb w v (.slice none 0 0) rv iv :=
 fun w' k => ⟨by rw [ha]; exact (none_ints w').weak, (rowS_sel hr k (by decide) (by decide)).weak, (rowS_sel hi k (by decide) (by decide)).weak, by rw [ha]; simp, h1, h2, h3⟩
def awX0 : Pl := startS 2 [97] [] [] 0 0
def awY0 : Pl := startS 4 [97] [] [] 0 5
def awX1 : Pl := (awX0.page viewA leafA []).1
def awX2 : Pl := (awX1.page viewA heapA []).1
def awY1 : Pl := awY0.lock true 0
def awY2 : Pl := (awY1.page viewA leafA []).1
def awY3 : Pl := (awY2.page viewA heapA []).1
def awY4 : Pl := (awY3.page viewA heapA []).1
theorem aw_r1 : rightB 2 [97] [] [] 0 0 = true := by kernel_rfl
theorem aw_r2 : rightB 4 [97] [] [] 0 5 = true := by kernel_rfl
theorem aw_x0 : awX0.wpg = 1 := by kernel_rfl
theorem aw_y0 : awY0.wk = 1 := by kernel_rfl
theorem aw_x2 : awX2.rep = (0, true, [120], []) := by kernel_rfl
theorem aw_y4 : awY4.rep = (0, true, [], []) := by kernel_rfl
theorem aw_y4k : awY4.wk = 4 := by kernel_rfl
theorem aw_rec : (awY3.page viewA heapA []).2 = (⟨2, 5, 2, 0, 0, 5, [], []⟩, true) := by kernel_rfl
theorem aw_x2r : awX2.rows = [] /\ awX2.rr = [] := by
 constructor <;> kernel_rfl
theorem aw_y0r : awY0.rows = [] /\ awY0.rr = [] := by
 constructor <;> kernel_rfl
theorem aw_x0o : PlOk awX0 := PlOk.start aw_r1
theorem aw_x1o : PlOk awX1 := aw_x0o.page _ _ _
theorem aw_x2o : PlOk awX2 := aw_x1o.page _ _ _
theorem aw_y0o : PlOk awY0 := PlOk.start aw_r2
theorem aw_y1o : PlOk awY1 := aw_y0o.locked _ _
theorem aw_y2o : PlOk awY2 := aw_y1o.page _ _ _
theorem aw_y3o : PlOk awY3 := aw_y2o.page _ _ _
theorem aw_y4o : PlOk awY4 := aw_y3o.page _ _ _
attribute [local go_sem] hgs
theorem want_f0 (k s p : Int) (key : ByteArray) (u : World) : (Instr.field 61 (.agg #[.int .i64 k, .string key, .int .i64 s, .int .i64 p]) 0).run Tryz.prog u = .ok (.int .i64 k) u := by kernel_rfl
theorem want_f3 (k s p : Int) (key : ByteArray) (u : World) : (Instr.field 61 (.agg #[.int .i64 k, .string key, .int .i64 s, .int .i64 p]) 3).run Tryz.prog u = .ok (.int .i64 p) u := by kernel_rfl
theorem rep_f1 (e : Int) (f : Bool) (v : ByteArray) (r : Value) (u : World) : (Instr.field 56 (.agg #[.int .i64 e, .bool f, .string v, r]) 1).run Tryz.prog u = .ok (.bool f) u := by kernel_rfl
theorem rep_f2 (e : Int) (f : Bool) (v : ByteArray) (a : Option Addr) (n c : Nat) (u : World) : (Instr.field 56 (.agg #[.int .i64 e, .bool f, .string v, .slice a n c]) 2).run Tryz.prog u = .ok (.string v) u := by kernel_rfl
attribute [local go_sem] want_f0 want_f3 rep_f1 rep_f2
theorem PlOk.rrl {S : Pl} (h : PlOk S) : S.rr.length <= 1000 := by
 by_cases h4 : S.wk = 4
 ·rcases (h.over h4).2 with ⟨_, h⟩ | ⟨_, h, h2⟩
  ·rw [h]; simp
  ·omega
 ·rw [(h.going h4).rr]; simp
set_option maxRecDepth 100000 in
set_option maxHeartbeats 16000000 in
theorem awake19_any (w_ : World) : Calls Tryz.prog 12 #[] w_ fun x w' => x = .returned (.bool true) /\ Below w_.heap.size w_ w' := by
 go_enter Tryz.func12, Tryz.ntmps12;go_wp2_with fail;refine (small19_any w_).mono ?_;rintro x w1 ⟨lv, hv, rv, iv, rfl, hl, hh, hr, hi, hb1⟩;obtain ⟨la, lc, rfl⟩ := itemsS_form hl.1;obtain ⟨ha, hc, rfl⟩ := itemsS_form hh.1;obtain ⟨ra, rc, rfl⟩ := row_slice hr.weak;have hr : IntsS w1 (.slice ra 1 rc) [5] := hr;obtain ⟨ia, ic, rfl⟩ := itemsS_form hi;unfold pgV vwV;go_upto_region 2 with fail;obtain ⟨w2, hw2⟩ : ∃ w2, w2 = ((w1.alloc (.cells (pgCells leafA (.slice la leafA.items.length lc)).toArray 28)).alloc (.cells (pgCells heapA (.slice ha heapA.items.length hc)).toArray 28)).alloc (.cells (vwCells viewA (.slice none 0 0) (.slice ra 1 rc) (.slice ia clogB.items.length ic)).toArray 40) := ⟨_, rfl⟩;have hg2 : Grow w1 w2 := by subst hw2; exact (((Grow.refl _).alloc _).alloc _).alloc _
 have hA2 : Blk w2 w1.heap.size 28 (pgCells leafA (.slice la leafA.items.length lc)) := by subst hw2; exact ((Blk.new w1 _ _).alloc _).alloc _
 have hB2 : Blk w2 (w1.heap.size + 1) 28 (pgCells heapA (.slice ha heapA.items.length hc)) := by
  have := (Blk.new (w1.alloc (.cells (pgCells leafA (.slice la leafA.items.length lc)).toArray 28)) 28 (pgCells heapA (.slice ha heapA.items.length hc))).alloc (.cells (vwCells viewA (.slice none 0 0) (.slice ra 1 rc) (.slice ia clogB.items.length ic)).toArray 40);have e : (w1.alloc (.cells (pgCells leafA (.slice la leafA.items.length lc)).toArray 28)).heap.size = w1.heap.size + 1 := by simp
  rw [e] at this;subst hw2; exact this
 have hV2 : Blk w2 (w1.heap.size + 2) 40 (vwCells viewA (.slice none 0 0) (.slice ra 1 rc) (.slice ia clogB.items.length ic)) := by
  have := Blk.new ((w1.alloc (.cells (pgCells leafA (.slice la leafA.items.length lc)).toArray 28)).alloc (.cells (pgCells heapA (.slice ha heapA.items.length hc)).toArray 28)) 40 (vwCells viewA (.slice none 0 0) (.slice ra 1 rc) (.slice ia clogB.items.length ic));have e : ((w1.alloc (.cells (pgCells leafA (.slice la leafA.items.length lc)).toArray 28)).alloc (.cells (pgCells heapA (.slice ha heapA.items.length hc)).toArray 28)).heap.size = w1.heap.size + 2 := by simp
  rw [e] at this;subst hw2; exact this
 unfold pgCells vwCells at hw2;rw [<- hw2];have HL2 := keep (hl.fits hg2);have HH2 := keep (hh.fits hg2);have HR2 := keep (RowS.fits hr hg2);have HI2 := keep (RowS.fits hi hg2);have HA2 := keep hA2;have HB2 := keep hB2;have HV2 := keep hV2;have HG2 := keep (Grow.trans hb1 hg2);have hn1 := plnew_any 2 [97] [] [] 0 0 w2;unfold NewPost askV at hn1;rw [aw_r1, show str [97] = ⟨#[97]⟩ from rfl, str_nilS] at hn1;have HN1 := keep hn1;generalize w1.heap.size = b1 at *;clear hl hh hr hi hb1 hw2 hg2 hA2 hB2 hV2 hn1;go_wp2_with fail;refine HN1.out.mono ?_;rintro x w3 (⟨h, _⟩ | ⟨-, pbx, rfl, hpx, hX3, hb3⟩)
 ·cases h
 have HX3 := keep (show PlT w2.heap.size pbx w3 awX0 from hX3);have HPbx := keep hpx;have HG3 := keep (Grow.trans HG2.out hb3);have HL3 := keep (HL2.out.fits hb3);have HH3 := keep (HH2.out.fits hb3);have HR3 := keep (RowS.fits HR2.out hb3);have HI3 := keep (RowS.fits HI2.out hb3);have HA3 := keep (HA2.out.fits hb3);have HB3 := keep (HB2.out.fits hb3);have HV3 := keep (HV2.out.fits hb3);have HBsx := keep HG2.out.size;obtain ⟨bsx, hbsx⟩ : ∃ b, b = w2.heap.size := ⟨_, rfl⟩;rw [<- hbsx] at HX3 HPbx HBsx;have hn2 := plnew_any 4 [97] [] [] 0 5 w3;unfold NewPost askV at hn2;rw [aw_r2, show str [97] = ⟨#[97]⟩ from rfl, str_nilS] at hn2;have HN2 := keep hn2;clear hpx hX3 hb3 hbsx hn2 HN1;go_wp2_with fail;refine HN2.out.mono ?_;rintro x w4 (⟨h, _⟩ | ⟨-, pby, rfl, hpy, hY4, hb4⟩)
 ·cases h
 have HY4 := keep (show PlT w3.heap.size pby w4 awY0 from hY4);have HPby := keep hpy;have HX4 := keep (HX3.out.fits hb4)
 have HNe := keep (show pby ≠ pbx by
  obtain ⟨_, _, _, hB, _⟩ := HX3.out.tab;have := hB.lt
  omega)
 have HBl4 := keep (Grow.trans HG3.out hb4);have HL4 := keep (HL3.out.fits hb4);have HH4 := keep (HH3.out.fits hb4);have HR4 := keep (RowS.fits HR3.out hb4);have HI4 := keep (RowS.fits HI3.out hb4);have HA4 := keep (HA3.out.fits hb4);have HB4 := keep (HB3.out.fits hb4);have HV4 := keep (HV3.out.fits hb4);have HBsy := keep HG3.out.size;obtain ⟨bsy, hbsy⟩ : ∃ b, b = w3.heap.size := ⟨_, rfl⟩;rw [<- hbsy] at HY4 HPby HBsy;have hwx := plwant_any bsx pbx awX0 w4 HX4.out;have hwy := fun (u : World) (hu : Grow w4 u) => plwant_any bsy pby awY0 u (HY4.out.fits hu)
 unfold wtV at hwx hwy;rw [aw_x0] at hwx;simp only [aw_y0] at hwy;have HWx := keep hwx;have HWy := keep hwy;clear hpy hY4 hb4 hbsy hwx hwy HN2 HX3 HA3 HB3 HV3 HL3 HH3 HR3 HI3 HA2 HB2 HV2 HL2 HH2 HR2 HI2 HG2 HG3;go_wp2_with fail;refine HWx.out.mono ?_;rintro x w5 ⟨rfl, hb5⟩;have HG5 := keep (show Grow w4 w5 from hb5);clear hb5 HWx;go_wp2_with fail;refine (HWy.out w5 HG5.out).mono ?_;rintro x w6 ⟨rfl, hb6⟩;have hg6 := Grow.trans HG5.out hb6;have HX6 := keep (HX4.out.fits hg6);have HY6 := keep (HY4.out.fits hg6);have HL6 := keep (HL4.out.fits hg6);have HH6 := keep (HH4.out.fits hg6);have HR6 := keep (RowS.fits HR4.out hg6);have HI6 := keep (RowS.fits HI4.out hg6);have HA6 := keep (HA4.out.fits hg6);have HB6 := keep (HB4.out.fits hg6);have HV6 := keep (HV4.out.fits hg6);have HBl6 := keep (Grow.trans HBl4.out hg6);clear hb6 hg6 HWy HG5 HX4 HY4 HL4 HH4 HR4 HI4 HA4 HB4 HV4 HBl4;unfold pgCells at HA6 HB6;unfold vwCells at HV6;have hpg := plpage_low bsx pbx awX0 viewA (.slice none 0 0) (.slice ra 1 rc) (.slice ia clogB.items.length ic) leafA (.slice la leafA.items.length lc) (.slice none 0 0) [] w6 HX6.out aw_x0o (by decide) (vwK_of rfl HR6.out HI6.out (by decide) (by decide) (by decide)) (pgK_of HL6.out (by decide) (by decide) (by decide) (by decide)) HL6.out.2 (fun _ _ => (none_ints _).weak) (by decide) (by decide);unfold StPost vwV pgV at hpg;have HPg := keep hpg;clear hpg;obtain ⟨q0, q1, q2, q3, q4, q5, q6, q7, q8, q9, q10⟩ := vwres HV6.out
 obtain ⟨p0, p1, p2, p3, p4, p5, _⟩ := pgres HA6.out;obtain ⟨s0, s1, s2, s3, s4, s5, _⟩ := pgres HB6.out;go_wp2_with fail;refine HPg.out.mono ?_;rintro yy w7 ⟨iv7, T7, rfl, hT7, hI7, hn7, h1, h2⟩;have HX7 := keep (show PlT bsx pbx w7 awX1 from h1);have HY7 := keep (HY6.out.apart h2 HNe.out aw_y0r.1 aw_y0r.2);have HL7 := keep (itemsC_sel HL6.out h2);have HH7 := keep (itemsC_sel HH6.out h2);have HR7 := keep (rowS_sel HR6.out h2 (by decide) (by decide));have HI7 := keep (rowS_sel HI6.out h2 (by decide) (by decide));have HV7 := keep (HV6.out.sel h2 (by decide) (by decide));have HA7 := keep (HA6.out.sel h2 (by decide) (by decide));have HB7 := keep (HB6.out.sel h2 (by decide) (by decide));have HBl7 := keep (show Below w_.heap.size w_ w7 from Below.trans HBl6.out (Below.mono (h2.below HPbx.out) HBsx.out));clear q0 q1 q2 q3 q4 q5 q6 q7 q8 q9 q10 p0 p1 p2 p3 p4 p5 s0 s1 s2 s3 s4 s5;clear h1 h2 hT7 hI7 hn7 HPg;have hpg := plpage_low bsx pbx awX1 viewA (.slice none 0 0) (.slice ra 1 rc) (.slice ia clogB.items.length ic) heapA (.slice ha heapA.items.length hc) (.slice none 0 0) [] w7 HX7.out aw_x1o (by decide) (vwK_of rfl HR7.out HI7.out (by decide) (by decide) (by decide)) (pgK_of HH7.out (by decide) (by decide) (by decide) (by decide)) HH7.out.2 (fun _ _ => (none_ints _).weak) (by decide) (by decide);unfold StPost vwV pgV at hpg;have HPg := keep hpg;clear hpg;obtain ⟨q0, q1, q2, q3, q4, q5, q6, q7, q8, q9, q10⟩ := vwres HV7.out;obtain ⟨p0, p1, p2, p3, p4, p5, _⟩ := pgres HA7.out
 obtain ⟨s0, s1, s2, s3, s4, s5, _⟩ := pgres HB7.out;go_wp2_with fail;refine HPg.out.mono ?_;rintro yy w8 ⟨iv8, T8, rfl, hT8, hI8, hn8, h1, h2⟩;have HX8 := keep (show PlT bsx pbx w8 awX2 from h1);have HY8 := keep (HY7.out.apart h2 HNe.out aw_y0r.1 aw_y0r.2);have HL8 := keep (itemsC_sel HL7.out h2);have HH8 := keep (itemsC_sel HH7.out h2);have HR8 := keep (rowS_sel HR7.out h2 (by decide) (by decide));have HI8 := keep (rowS_sel HI7.out h2 (by decide) (by decide));have HV8 := keep (HV7.out.sel h2 (by decide) (by decide));have HA8 := keep (HA7.out.sel h2 (by decide) (by decide));have HB8 := keep (HB7.out.sel h2 (by decide) (by decide));have HBl8 := keep (show Below w_.heap.size w_ w8 from Below.trans HBl7.out (Below.mono (h2.below HPbx.out) HBsx.out));clear q0 q1 q2 q3 q4 q5 q6 q7 q8 q9 q10 p0 p1 p2 p3 p4 p5 s0 s1 s2 s3 s4 s5;clear h1 h2 hT8 hI8 hn8 HPg;have hlk := pllock_any bsy pby awY0 true 0 w8 HY8.out;unfold PlPost at hlk;have HLk := keep hlk;clear hlk;go_wp2_with fail;refine HLk.out.mono ?_;rintro yy w9 ⟨rfl, h1, h2⟩;have HY9 := keep (show PlT bsy pby w9 awY1 from h1);have HX9 := keep (HX8.out.apart h2 (fun h => HNe.out h.symm) aw_x2r.1 aw_x2r.2);have HL9 := keep (itemsC_sel HL8.out h2);have HH9 := keep (itemsC_sel HH8.out h2);have HR9 := keep (rowS_sel HR8.out h2 (by decide) (by decide));have HI9 := keep (rowS_sel HI8.out h2 (by decide) (by decide));have HV9 := keep (HV8.out.sel h2 (by decide) (by decide));have HA9 := keep (HA8.out.sel h2 (by decide) (by decide))
 have HB9 := keep (HB8.out.sel h2 (by decide) (by decide));have HBl9 := keep (show Below w_.heap.size w_ w9 from Below.trans HBl8.out (Below.mono (h2.below HPby.out) HBsy.out));clear h1 h2 HLk;have hpg := plpage_low bsy pby awY1 viewA (.slice none 0 0) (.slice ra 1 rc) (.slice ia clogB.items.length ic) leafA (.slice la leafA.items.length lc) (.slice none 0 0) [] w9 HY9.out aw_y1o (by decide) (vwK_of rfl HR9.out HI9.out (by decide) (by decide) (by decide)) (pgK_of HL9.out (by decide) (by decide) (by decide) (by decide)) HL9.out.2 (fun _ _ => (none_ints _).weak) (by decide) (by decide);unfold StPost vwV pgV at hpg;have HPg := keep hpg;clear hpg;obtain ⟨q0, q1, q2, q3, q4, q5, q6, q7, q8, q9, q10⟩ := vwres HV9.out;obtain ⟨p0, p1, p2, p3, p4, p5, _⟩ := pgres HA9.out;obtain ⟨s0, s1, s2, s3, s4, s5, _⟩ := pgres HB9.out;go_wp2_with fail;refine HPg.out.mono ?_;rintro yy w10 ⟨iv10, T10, rfl, hT10, hI10, hn10, h1, h2⟩;have HY10 := keep (show PlT bsy pby w10 awY2 from h1);have HX10 := keep (HX9.out.apart h2 (fun h => HNe.out h.symm) aw_x2r.1 aw_x2r.2);have HL10 := keep (itemsC_sel HL9.out h2);have HH10 := keep (itemsC_sel HH9.out h2);have HR10 := keep (rowS_sel HR9.out h2 (by decide) (by decide));have HI10 := keep (rowS_sel HI9.out h2 (by decide) (by decide));have HV10 := keep (HV9.out.sel h2 (by decide) (by decide));have HA10 := keep (HA9.out.sel h2 (by decide) (by decide));have HB10 := keep (HB9.out.sel h2 (by decide) (by decide))
 have HBl10 := keep (show Below w_.heap.size w_ w10 from Below.trans HBl9.out (Below.mono (h2.below HPby.out) HBsy.out));clear q0 q1 q2 q3 q4 q5 q6 q7 q8 q9 q10 p0 p1 p2 p3 p4 p5 s0 s1 s2 s3 s4 s5;clear h1 h2 hT10 hI10 hn10 HPg;have hpg := plpage_low bsy pby awY2 viewA (.slice none 0 0) (.slice ra 1 rc) (.slice ia clogB.items.length ic) heapA (.slice ha heapA.items.length hc) (.slice none 0 0) [] w10 HY10.out aw_y2o (by decide) (vwK_of rfl HR10.out HI10.out (by decide) (by decide) (by decide)) (pgK_of HH10.out (by decide) (by decide) (by decide) (by decide)) HH10.out.2 (fun _ _ => (none_ints _).weak) (by decide) (by decide);unfold StPost vwV pgV at hpg;have HPg := keep hpg;clear hpg;obtain ⟨q0, q1, q2, q3, q4, q5, q6, q7, q8, q9, q10⟩ := vwres HV10.out;obtain ⟨p0, p1, p2, p3, p4, p5, _⟩ := pgres HA10.out;obtain ⟨s0, s1, s2, s3, s4, s5, _⟩ := pgres HB10.out;go_wp2_with fail;refine HPg.out.mono ?_;rintro yy w11 ⟨iv11, T11, rfl, hT11, hI11, hn11, h1, h2⟩;have HY11 := keep (show PlT bsy pby w11 awY3 from h1);have HX11 := keep (HX10.out.apart h2 (fun h => HNe.out h.symm) aw_x2r.1 aw_x2r.2);have HL11 := keep (itemsC_sel HL10.out h2);have HH11 := keep (itemsC_sel HH10.out h2);have HR11 := keep (rowS_sel HR10.out h2 (by decide) (by decide));have HI11 := keep (rowS_sel HI10.out h2 (by decide) (by decide));have HV11 := keep (HV10.out.sel h2 (by decide) (by decide));have HA11 := keep (HA10.out.sel h2 (by decide) (by decide));have HB11 := keep (HB10.out.sel h2 (by decide) (by decide))
 have HBl11 := keep (show Below w_.heap.size w_ w11 from Below.trans HBl10.out (Below.mono (h2.below HPby.out) HBsy.out));clear q0 q1 q2 q3 q4 q5 q6 q7 q8 q9 q10 p0 p1 p2 p3 p4 p5 s0 s1 s2 s3 s4 s5;clear h1 h2 hT11 hI11 hn11 HPg;have hpg := plpage_low bsy pby awY3 viewA (.slice none 0 0) (.slice ra 1 rc) (.slice ia clogB.items.length ic) heapA (.slice ha heapA.items.length hc) (.slice none 0 0) [] w11 HY11.out aw_y3o (by decide) (vwK_of rfl HR11.out HI11.out (by decide) (by decide) (by decide)) (pgK_of HH11.out (by decide) (by decide) (by decide) (by decide)) HH11.out.2 (fun _ _ => (none_ints _).weak) (by decide) (by decide);unfold StPost vwV pgV at hpg;have HPg := keep hpg;clear hpg;obtain ⟨q0, q1, q2, q3, q4, q5, q6, q7, q8, q9, q10⟩ := vwres HV11.out;obtain ⟨p0, p1, p2, p3, p4, p5, _⟩ := pgres HA11.out;obtain ⟨s0, s1, s2, s3, s4, s5, _⟩ := pgres HB11.out;go_wp2_with fail;refine HPg.out.mono ?_;rintro yy w12 ⟨iv12, T12, rfl, hT12, hI12, hn12, h1, h2⟩;have HY12 := keep (show PlT bsy pby w12 awY4 from h1);have HX12 := keep (HX11.out.apart h2 (fun h => HNe.out h.symm) aw_x2r.1 aw_x2r.2);have HL12 := keep (itemsC_sel HL11.out h2);have HH12 := keep (itemsC_sel HH11.out h2);have HR12 := keep (rowS_sel HR11.out h2 (by decide) (by decide));have HI12 := keep (rowS_sel HI11.out h2 (by decide) (by decide));have HV12 := keep (HV11.out.sel h2 (by decide) (by decide));have HA12 := keep (HA11.out.sel h2 (by decide) (by decide));have HB12 := keep (HB11.out.sel h2 (by decide) (by decide))
 have HBl12 := keep (show Below w_.heap.size w_ w12 from Below.trans HBl11.out (Below.mono (h2.below HPby.out) HBsy.out));clear q0 q1 q2 q3 q4 q5 q6 q7 q8 q9 q10 p0 p1 p2 p3 p4 p5 s0 s1 s2 s3 s4 s5;clear h1 h2  HPg;rw [show (awY3.page viewA heapA []).2 = (⟨2, 5, 2, 0, 0, 5, [], []⟩, true) from aw_rec] at hT12 ⊢;have ht0 : T12 = [] := List.map_eq_nil_iff.1 hT12;have hiv := hn12 ht0;subst hiv;clear hT12 hI12 hn12 ht0;dsimp only;unfold rdV;go_upto_region 12 with ((refine wpList_store_rec rfl _ _ rfl w12.heap.size _ rfl rfl (Blk.new w12 _ zC) rfl rfl rfl ?_); intro wz hset hbz; have Hset := keep hset; have Hbut := keep hbz; clear hset hbz);have hgz : Grow w12 wz := But.below ((Grow.refl w12).alloc _) Hbut.out (Nat.le_refl _) (by simp);have hrx := fun (u : World) (hu : Grow w12 u) => plreply_any bsx pbx awX2 u (HX12.out.fits hu) aw_x2o.rrl
 have hry := fun (u : World) (hu : Grow w12 u) => plreply_any bsy pby awY4 u (HY12.out.fits hu) aw_y4o.rrl
 have hwy := fun (u : World) (hu : Grow w12 u) => plwant_any bsy pby awY4 u (HY12.out.fits hu)
 unfold RpPost at hrx hry;rw [aw_x2] at hrx;rw [aw_y4] at hry;unfold rpV at hrx hry;unfold wtV at hwy;rw [aw_y4k] at hwy;dsimp only at hrx hry;rw [show str [120] = ⟨#[120]⟩ from rfl] at hrx;rw [str_nilS] at hry;have HRx := keep hrx;have HRy := keep hry;have HWy := keep hwy;have HGz := keep hgz;have HRec := keep Hset.out;generalize w12.heap.size = br at *;clear hgz hrx hry hwy Hset Hbut;go_wp2_with fail;refine (HRx.out wz HGz.out).mono ?_;rintro x w13 ⟨rv13, rfl, hr13, hb13⟩;obtain ⟨a13, n13, c13, rfl⟩ := rowS_sl hr13;have HG13 := keep (Grow.trans HGz.out hb13);have HRec13 := keep (HRec.out.fits hb13);clear hr13 hb13;go_wp2_with fail;refine (HRx.out w13 HG13.out).mono ?_;rintro x w14 ⟨rv14, rfl, hr14, hb14⟩;obtain ⟨a14, n14, c14, rfl⟩ := rowS_sl hr14;have HG14 := keep (Grow.trans HG13.out hb14);have HRec14 := keep (HRec13.out.fits hb14);clear hr14 hb14;obtain ⟨⟨-, -, -, g3, -, -, -, -, g8, -⟩, -⟩ := recres HRec14.out;go_wp2_with fail;refine (HRy.out w14 HG14.out).mono ?_;rintro x w15 ⟨rv15, rfl, hr15, hb15⟩;obtain ⟨a15, n15, c15, rfl⟩ := rowS_sl hr15;have HG15 := keep (Grow.trans HG14.out hb15);clear hr15 hb15 g3 g8;go_wp2_with fail;refine (HWy.out w15 HG15.out).mono ?_;rintro x w16 ⟨rfl, hb16⟩;have HG16 := keep (Grow.trans HBl12.out (Grow.trans HG15.out hb16));clear hb16;go_wp2_with fail;go_ret;exact ⟨rfl, HG16.out⟩
end Go.Proofs.YtcdapdcablnhpaaGreat
namespace Go.Proofs.YtcdapdcablnhpaaGreat
open Go.RowKit
def sameRw (a b : Rw) : Bool := decide (a = b)
theorem neq_rw (x0 x1 q0 q1 : List UInt8) (w : World) : (binOp .neq 46 (.agg #[.string (str x0), .string (str x1)]) (.agg #[.string (str q0), .string (str q1)])).run Tryz.prog w = .ok (.bool (!sameRw (x0, x1) (q0, q1))) w := by
 unfold sameRw;have hf : Tryz.prog.underlying 46 = some (.struct (Tryz.prog.fieldsOf 46)) := by kernel_rfl
 have hs : Tryz.prog.stoodInHeld 46 = false := by kernel_rfl
 rw [run_neq_struct, run_equalIn_agg w _ _ _ _ hf hs];simp [go_sem, Program.fieldsOf, Tryz.underlying46]
 by_cases h0 : x0 = q0
 ·by_cases h1 : x1 = q1
  ·simp [h0, h1]
  ·have : ¬ (str x1).toList = (str q1).toList := by rw [str_list, str_list]; exact h1
   simp [h0, h1, this]
 ·have : ¬ (str x0).toList = (str q0).toList := by rw [str_list, str_list]; exact h0
  simp [h0, this]
theorem guard_rw : Tryz.prog.eqGuardType Tryz.prog.depth 46 = false := by kernel_rfl
abbrev Wt := Int × List UInt8 × Int × Int
def sameWt (a b : Wt) : Bool := decide (a = b)
theorem eql_want (k s p k' s' p' : Int) (x x' : List UInt8) (w : World) : (binOp .eql 61 (.agg #[.int .i64 k, .string (str x), .int .i64 s, .int .i64 p]) (.agg #[.int .i64 k', .string (str x'), .int .i64 s', .int .i64 p'])).run Tryz.prog w = .ok (.bool (sameWt (k, x, s, p) (k', x', s', p'))) w := by
 unfold sameWt;have hf : Tryz.prog.underlying 61 = some (.struct (Tryz.prog.fieldsOf 61)) := by kernel_rfl
 have hs : Tryz.prog.stoodInHeld 61 = false := by kernel_rfl
 rw [run_eql_struct, run_equalIn_agg w _ _ _ _ hf hs];simp [go_sem, Program.fieldsOf, Tryz.underlying61]
 by_cases h0 : k = k'
 ·by_cases h1 : x = x'
  ·by_cases h2 : s = s'
   ·by_cases h3 : p = p'
    ·simp [h0, h1, h2, h3]
    ·simp [h0, h1, h2, h3]
   ·simp [h0, h1, h2]
  ·have : ¬ (str x).toList = (str x').toList := by rw [str_list, str_list]; exact h1
   simp [h0, h1, this]
 ·simp [h0]
theorem neq_want (k s p k' s' p' : Int) (x x' : List UInt8) (w : World) : (binOp .neq 61 (.agg #[.int .i64 k, .string (str x), .int .i64 s, .int .i64 p]) (.agg #[.int .i64 k', .string (str x'), .int .i64 s', .int .i64 p'])).run Tryz.prog w = .ok (.bool (!sameWt (k, x, s, p) (k', x', s', p'))) w := by
 unfold sameWt;have hf : Tryz.prog.underlying 61 = some (.struct (Tryz.prog.fieldsOf 61)) := by kernel_rfl
 have hs : Tryz.prog.stoodInHeld 61 = false := by kernel_rfl
 rw [run_neq_struct, run_equalIn_agg w _ _ _ _ hf hs];simp [go_sem, Program.fieldsOf, Tryz.underlying61]
 by_cases h0 : k = k'
 ·by_cases h1 : x = x'
  ·by_cases h2 : s = s'
   ·by_cases h3 : p = p'
    ·simp [h0, h1, h2, h3]
    ·simp [h0, h1, h2, h3]
   ·simp [h0, h1, h2]
  ·have : ¬ (str x).toList = (str x').toList := by rw [str_list, str_list]; exact h1
   simp [h0, h1, this]
 ·simp [h0]
theorem guard_want : Tryz.prog.eqGuardType Tryz.prog.depth 61 = false := by kernel_rfl
theorem rw_at {w : World} {v : Value} {l : List Rw} (h : RowS w 46 v l.length (rwCells l)) {m : Nat} (hm : m < l.length) : ∃ c off cap, v = .slice (some ⟨c, off, none⟩) l.length cap /\ ∀ u, Grow w u -> (u.cell? ⟨c, off + m * 2, none⟩ = some (.string (str l[m].1)) /\ u.cell? ⟨c, off + m * 2 + 1, none⟩ = some (.string (str l[m].2))) := by
 rcases h with ⟨h1, _⟩ | ⟨c, off, cap, blk, f, h1, h2, h3⟩
 ·omega
 ·refine ⟨c, off, cap, h1, fun u hu => ?_⟩;have h2u : u.heap[c]? = some (.cells blk 46 f) := by rw [hu.block c (lt_of_block h2)]; exact h2
  have e : rwCells l = rwCells (l.take m) ++ (rwC l[m] ++ rwCells (l.drop (m + 1))) := by
   rw [<- show rwCells [l[m]] = rwC l[m] by simp [rwCells], <- rwCells_append, <- rwCells_append, List.singleton_append, <- List.drop_eq_getElem_cons hm, List.take_append_drop]
  have hl : (rwCells (l.take m)).length = m * 2 := by rw [rwCells_length, List.length_take]; omega
  have g : ∀ i (hi : i < 2), u.cell? ⟨c, off + m * 2 + i, none⟩ = (rwC l[m])[i]? := by
   intro i hi;have hb : m * 2 + i < (rwCells l).length := by rw [rwCells_length]; omega
   have h4 := h3 (m * 2 + i) hb;unfold World.cell?;simp only [h2u];rw [Nat.add_assoc];show blk[off + (m * 2 + i)]? = _;rw [h4, e, List.getElem?_append_right (by omega), hl, Nat.add_sub_cancel_left, List.getElem?_append_left (by simp [rwC]; omega)]
  exact ⟨g 0 (by omega), g 1 (by omega)⟩
attribute [local simp] neq_rw
attribute [local go_sem] guard_rw
set_option maxRecDepth 100000 in
set_option maxHeartbeats 4000000 in
theorem rows19_any (la lb : List Rw) (va vb : Value) (w_ : World) (ha : RowS w_ 46 va la.length (rwCells la)) (hb : RowS w_ 46 vb lb.length (rwCells lb)) (hl : la.length <= 1000) (hl2 : lb.length <= 1000) :
  Calls Tryz.prog 48 #[va, vb] w_ fun x w' => x = .returned (.bool (decide (la = lb))) /\ Below w_.heap.size w_ w' := by
 obtain ⟨aa, ac, rfl⟩ := row_slice ha.weak;obtain ⟨ba, bc, rfl⟩ := row_slice hb.weak;have HA := keep ha;have HB := keep hb;obtain ⟨R, hR⟩ : ∃ R, decide (la = lb) = R := ⟨_, rfl⟩;rw [hR];have HR := keep hR;clear ha hb hR;go_enter Tryz.func48, Tryz.ntmps48
 by_cases hlen : la.length = lb.length
 ·have e1 : ((la.length : Int) != (lb.length : Int)) = false := by simp [hlen]
  have HLen := keep hlen;clear hlen;go_wp2_with fail;go_loopw [5] (fun i wr => ∃ k : Nat, k <= la.length /\ i = .int .i64 k /\ Kept (la.take k = lb.take k) /\ Kept (Grow w_ wr)) (fun i _ => la.length - (intOf i).toNat)
  case atStart => exact ⟨0, Nat.zero_le _, rfl, keep (by simp), keep (Grow.refl _)⟩
  case round =>
   obtain ⟨k, hk, rfl, hE, hG⟩ := hrel
   by_cases hlt : k < la.length
   ·have hlt2 : k < lb.length := by have := HLen.out; omega
    obtain ⟨c1, o1, cap1, x1, hc1⟩ := rw_at HA.out hlt;obtain ⟨c2, o2, cap2, x2, hc2⟩ := rw_at HB.out hlt2;simp only [Value.slice.injEq] at x1 x2;obtain ⟨rfl, _, rfl⟩ := x1;obtain ⟨rfl, _, rfl⟩ := x2;obtain ⟨p0, p1⟩ := hc1 wr hG.out;obtain ⟨q0, q1⟩ := hc2 wr hG.out;have hne : (sameRw la[k] lb[k] = false) -> la ≠ lb := by
     rintro h rfl;unfold sameRw at h;simp at h
    have htk : sameRw la[k] lb[k] = true -> la.take (k + 1) = lb.take (k + 1) := by
     intro h;unfold sameRw at h;rw [List.take_succ_eq_append_getElem hlt, List.take_succ_eq_append_getElem hlt2, hE.out, of_decide_eq_true h]
    generalize la[k] = r1 at *;generalize lb[k] = r2 at *;obtain ⟨a1, a2⟩ := r1;obtain ⟨b1, b2⟩ := r2;have HNe := keep hne;have HTk := keep htk;dsimp only at p0 p1 q0 q1;clear hc1 hc2 hne htk;cases hsm : sameRw (a1, a2) (b1, b2) with
    | true =>
     have HTk2 := keep (HTk.out hsm);go_upto_region 6 with fail;go_quiet (fail);go_wp2_with fail;go_roundw
     case rel => exact ⟨k + 1, hlt, by go_num, HTk2, keep (below_drewN hG.out _)⟩
     case measure => simp [intOf]; omega
    | false =>
     have hne : decide (la = lb) = false := decide_eq_false (HNe.out hsm);have HF := keep (show R = false by rw [<- HR.out, hne]);clear hne;go_upto_region 6 with fail;go_quiet (fail);go_wp2_with fail;go_ret;exact ⟨by rw [HF.out]; rfl, below_drewN hG.out _⟩
   ·have he : decide (la = lb) = true := decide_eq_true (by
     have h := hE.out;have h1 := HLen.out;rw [List.take_of_length_le (by omega), List.take_of_length_le (by omega)] at h
     exact h)
    have HF := keep (show R = true by rw [<- HR.out, he]);clear he;go_wp2_with fail;go_ret;exact ⟨by rw [HF.out]; rfl, hG.out⟩
 ·have e1 : ((la.length : Int) != (lb.length : Int)) = true := bne_iff_ne.2 (by omega);have hne : decide (la = lb) = false := decide_eq_false (fun h => hlen (by rw [h]));have HF := keep (show R = false by rw [<- HR.out, hne]);clear hlen hne;go_wp2_with fail;go_ret;exact ⟨by rw [HF.out]; rfl, Below.refl _ _⟩
def sameRp (a b : Rp) : Bool := decide (a = b)
set_option maxRecDepth 100000 in
set_option maxHeartbeats 4000000 in
theorem reply19_any (q r : Rp) (qv rv : Value) (w_ : World) (ha : RowS w_ 46 qv q.2.2.2.length (rwCells q.2.2.2)) (hb : RowS w_ 46 rv r.2.2.2.length (rwCells r.2.2.2)) (hl : q.2.2.2.length <= 1000) (hl2 : r.2.2.2.length <= 1000) :
  Calls Tryz.prog 16 #[rpV q.1 q.2.1 q.2.2.1 qv, rpV r.1 r.2.1 r.2.2.1 rv] w_ fun x w' => x = .returned (.bool (sameRp q r)) /\ Below w_.heap.size w_ w' := by
 obtain ⟨qe, qf, qs, qr⟩ := q;obtain ⟨re, rf, rs, rr⟩ := r;dsimp only at ha hb hl hl2 ⊢;obtain ⟨aa, ac, rfl⟩ := row_slice ha.weak;obtain ⟨ba, bc, rfl⟩ := row_slice hb.weak;obtain ⟨w0, hw0⟩ : ∃ w0, w0 = (w_.alloc (.cells #[.int .i64 qe, .bool qf, .string (str qs), .slice aa qr.length ac] 56)).alloc (.cells #[.int .i64 re, .bool rf, .string (str rs), .slice ba rr.length bc] 56) := ⟨_, rfl⟩;have hg0 : Grow w_ w0 := by subst hw0; exact ((Grow.refl w_).alloc _).alloc _
 have hA0 : Blk w0 w_.heap.size 56 [.int .i64 qe, .bool qf, .string (str qs), .slice aa qr.length ac] := by
  have := (Blk.new w_ 56 [.int .i64 qe, .bool qf, .string (str qs), .slice aa qr.length ac]).alloc (.cells #[.int .i64 re, .bool rf, .string (str rs), .slice ba rr.length bc] 56);subst hw0; exact this
 have hB0 : Blk w0 (w_.heap.size + 1) 56 [.int .i64 re, .bool rf, .string (str rs), .slice ba rr.length bc] := by
  have := Blk.new (w_.alloc (.cells #[.int .i64 qe, .bool qf, .string (str qs), .slice aa qr.length ac] 56)) 56 [.int .i64 re, .bool rf, .string (str rs), .slice ba rr.length bc];have e : (w_.alloc (.cells #[.int .i64 qe, .bool qf, .string (str qs), .slice aa qr.length ac] 56)).heap.size = w_.heap.size + 1 := by simp
  rw [e] at this;subst hw0; exact this
 have hro := rows19_any qr rr _ _ w0 (ha.fits hg0) (hb.fits hg0) hl hl2;obtain ⟨R, hR⟩ : ∃ R, sameRp (qe, qf, qs, qr) (re, rf, rs, rr) = R := ⟨_, rfl⟩;have hr : R = (((decide (qe = re) && decide (qf = rf)) && decide (qs = rs)) && decide (qr = rr)) := by
  rw [<- hR];unfold sameRp;rw [Bool.eq_iff_iff];simp
  constructor
  ·rintro ⟨a, b, c, d⟩; exact ⟨⟨⟨a, b⟩, c⟩, d⟩
  ·rintro ⟨⟨⟨a, b⟩, c⟩, d⟩; exact ⟨a, b, c, d⟩
 rw [hR];generalize decide (qr = rr) = E at *;have HRo := keep hro;have HR := keep hr;have HG0 := keep hg0;obtain ⟨⟨p0, p1, p2, p3⟩, -⟩ := rp4 hA0;obtain ⟨⟨q0, q1, q2, q3⟩, -⟩ := rp4 hB0;clear hR hr hro ha hb hg0 hA0 hB0;unfold rpV;go_enter Tryz.func16, Tryz.ntmps16;go_upto_region 1 with fail;rw [<- hw0];clear hw0
 by_cases h0 : qe = re
 ·have e0 : (qe == re) = true := by simp [h0]
  by_cases h1 : qf = rf
  ·have e1 : (qf == rf) = true := by simp [h1]
   by_cases h2 : qs = rs
   ·have e2 : ((str qs).toList == (str rs).toList) = true := by rw [h2]; simp
    have HF := keep (show R = E by rw [HR.out, decide_eq_true h0, decide_eq_true h1, decide_eq_true h2]; rfl);clear h0 h1 h2;go_wp2_with fail;refine HRo.out.mono ?_;rintro x w1 ⟨rfl, hb1⟩;have HG1 := keep (Grow.trans HG0.out hb1);clear hb1 HRo;go_wp2_with fail;go_ret;exact ⟨by rw [HF.out]; rfl, HG1.out⟩
   ·have e2 : ((str qs).toList == (str rs).toList) = false := by rw [str_list, str_list]; simpa using h2
    have HF := keep (show R = false by rw [HR.out, decide_eq_false h2]; simp);clear h0 h1 h2;go_wp2_with fail;go_ret;exact ⟨by rw [HF.out]; rfl, HG0.out⟩
  ·have e1 : (qf == rf) = false := by simpa using h1
   have HF := keep (show R = false by rw [HR.out, decide_eq_false h1]; simp);clear h0 h1;go_wp2_with fail;go_ret;exact ⟨by rw [HF.out]; rfl, HG0.out⟩
 ·have e0 : (qe == re) = false := by simpa using h0
  have HF := keep (show R = false by rw [HR.out, decide_eq_false h0]; simp);clear h0;go_wp2_with fail;go_ret;exact ⟨by rw [HF.out]; rfl, HG0.out⟩
end Go.Proofs.YtcdapdcablnhpaaGreat
namespace Go.Proofs.YtcdapdcablnhpaaGreat
open Go.RowKit
attribute [local go_sem] hgs
structure Sh where
 ask : Int
 body : Pg
 view : Vw
 fresh : List Int
 got : Bool
 e : Int
 n : Int
def shC (x : Sh) (bv av rv iv fv : Value) : List Value := [.int .i64 x.ask, .int .i64 x.body.lsn, .int .i64 x.body.kind, .int .i64 x.body.level, .int .i64 x.body.right, .string (str x.body.high), bv, .int .i64 x.view.m, .int .i64 x.view.next, av, .int .i64 x.view.own, rv, .int .i64 x.view.clog.lsn, .int .i64 x.view.clog.kind, .int .i64 x.view.clog.level, .int .i64 x.view.clog.right, .string (str x.view.clog.high), iv, fv, .bool x.got, .int .i64 x.e, .int .i64 x.n]
structure ShOk (bs pb : Nat) (w : World) (x : Sh) (bv av rv iv fv : Value) : Prop where
 pg : PgK bs pb w bv x.body
 cap : Capd bv
 len : x.body.items.length <= 8796093021980
 vw : VwK bs pb w x.view av rv iv
 fr : ∀ w', Sel bs pb w w' -> Ints w' fv x.fresh
 frl : (x.fresh.length : Int) <= 4611686018427387904
theorem ShOk.sel {bs pb : Nat} {w w' : World} {x : Sh} {bv av rv iv fv : Value} (h : ShOk bs pb w x bv av rv iv fv) (k : Sel bs pb w w') : ShOk bs pb w' x bv av rv iv fv :=
 ⟨h.pg.sel k, h.cap, h.len, h.vw.sel k, fun u hu => h.fr u (k.trans hu), h.frl⟩
def Pl.tell (S : Pl) (x : Sh) : Pl × Bool :=
 if x.ask = 0 then ((S.page x.view x.body x.fresh).1, (S.page x.view x.body x.fresh).2.2)
 else if x.ask = 1 then (S.lock x.got x.e, false)
 else if x.ask = 2 then (S.space x.n, false)
 else if x.ask = 3 then (S.fail x.e, false) else (S, false)
theorem PlOk.told {S : Pl} (h : PlOk S) (x : Sh) : PlOk (S.tell x).1 := by
 unfold Pl.tell
 split
 ·exact h.page _ _ _
 ·split
  ·exact h.locked _ _
  ·split
   ·exact h.spaced _
   ·split
    ·exact h.failed _
    ·exact h
theorem eql_want0 (w : World) : (binOp .eql 61 (.agg #[.int .i64 0, .string ⟨#[]⟩, .int .i64 0, .int .i64 0]) (.agg #[.int .i64 0, .string ⟨#[]⟩, .int .i64 0, .int .i64 0])).run Tryz.prog w = .ok (.bool true) w := by
 have := eql_want 0 0 0 0 0 0 [] [] w;rw [show sameWt (0, [], 0, 0) (0, [], 0, 0) = true by kernel_rfl] at this;exact this
attribute [local simp] eql_want0
attribute [local go_sem] guard_want
end Go.Proofs.YtcdapdcablnhpaaGreat
namespace Go.Proofs.YtcdapdcablnhpaaGreat
open Go.RowKit
structure RdOk (S : Pl) (n : Int) : Prop where
 call : S.call = 2 \/ S.call = 5
 item : S.item = []
 wk : S.wk = 3 \/ S.wk = 4
 num : S.n = n
 st : S.st <= 3
theorem RdOk.writes {S : Pl} {n : Int} (h : RdOk S n) : S.writes = false := by
 unfold Pl.writes;rcases h.call with h | h <;> rw [h] <;> rfl
theorem RdOk.see {S : Pl} {n : Int} (h : RdOk S n) (p : Int) {s : Nat} (hs : s <= 3) : RdOk (S.see p s) n := ⟨h.call, h.item, .inl rfl, h.num, hs⟩
theorem RdOk.fin {S : Pl} {n : Int} (h : RdOk S n) (e : Int) (f : Bool) (v : List UInt8) (r : List Rw) : RdOk (S.fin e f v r) n := ⟨h.call, h.item, .inr rfl, h.num, Nat.zero_le _⟩
theorem RdOk.next {S : Pl} {n : Int} (h : RdOk S n) : RdOk S.next n := by
 unfold Pl.next
 split
 ·exact h.see _ (by decide)
 ·split
  ·exact h.see _ (by decide)
  ·rw [h.writes];exact h.fin _ _ _ _
theorem RdOk.gather {S : Pl} {n : Int} (h : RdOk S n) (P : Pg) : RdOk (S.gather P) n := by
 unfold Pl.gather
 split
 ·exact h.fin _ _ _ _
 ·exact (⟨h.call, h.item, h.wk, h.num, h.st⟩ : RdOk { S with left := hitsL P S.key S.upto, right := if hitsM P S.upto then P.right else 0 } n).next
theorem RdOk.way {S : Pl} {n : Int} (h : RdOk S n) (P : Pg) (l : Int) (e : En) : RdOk (S.way P l e).1 n := by
 have h1 : RdOk { S with seen := S.seen + 1 } n := ⟨h.call, h.item, h.wk, h.num, h.st⟩;unfold Pl.way
 split
 ·exact h1.fin _ _ _ _
 ·split
  ·exact ⟨h.call, h.item, h.wk, h.num, h.st⟩
  ·exact h1
theorem RdOk.page {S : Pl} {n : Int} (h : RdOk S n) (v : Vw) (P : Pg) (fr : List Int) : RdOk (S.page v P fr).1 n /\ (S.page v P fr).2 = (noRd, false) := by
 unfold Pl.page;have hst := h.st
 split
 ·refine ⟨?_, rfl⟩;show RdOk (S.descend P) n;unfold Pl.descend
  split
  ·exact (h.way _ _ _).gather P
  ·exact h.way _ _ _
 ·exact ⟨h.gather P, rfl⟩
 ·refine ⟨?_, rfl⟩;show RdOk (S.inspect v P) n;unfold Pl.inspect
  split
  ·exact h
  ·rename_i e l he
   have h1 : ∀ rs : List Rw, RdOk { S with left := l, rows := rs } n := fun _ => ⟨h.call, h.item, h.wk, h.num, h.st⟩
   have h2 : RdOk { S with left := l } n := ⟨h.call, h.item, h.wk, h.num, h.st⟩
   split
   ·exact h2.fin _ _ _ _
   ·split
    ·exact h2.next
    ·split
     ·rename_i hw
      rw [h.writes] at hw;cases hw
     ·split
      ·exact h2.fin _ _ _ _
      ·split
       ·exact (h1 _).fin _ _ _ _
       ·exact (h1 _).next
 ·omega
 ·omega
 ·omega
 ·exact ⟨h, rfl⟩
theorem RdOk.start {call : Int} {key upk val : List UInt8} {n own : Int} (h : call = 2 \/ call = 5) : RdOk (startS call key upk val n own) n := by
 unfold startS;have hw : (Pl.new call key upk val n own).writes = false := by
  unfold Pl.writes Pl.new;rcases h with h | h <;> rw [h] <;> rfl
 rw [hw];exact ⟨h, rfl, .inl rfl, rfl, (by show 1 <= 3; decide)⟩
def EdOk (S : Pl) : Prop := S.wk = 4 -> S.wkey = [] /\ S.wsz = 0 /\ S.wpg = 0
theorem edOk_see (S : Pl) (p : Int) (s : Nat) : EdOk (S.see p s) := fun h => absurd h (by show ¬ (3 : Int) = 4; decide)
theorem edOk_fin (S : Pl) (e : Int) (f : Bool) (v : List UInt8) (r : List Rw) : EdOk (S.fin e f v r) := fun _ => ⟨rfl, rfl, rfl⟩
theorem edOk_write (S : Pl) : EdOk S.write := by
 unfold Pl.write
 split
 ·exact edOk_fin _ _ _ _ _
 ·exact fun h => absurd h (by show ¬ (2 : Int) = 4; decide)
theorem edOk_next (S : Pl) : EdOk S.next := by
 unfold Pl.next
 split
 ·exact edOk_see _ _ _
 ·split
  ·exact edOk_see _ _ _
  ·split
   ·exact edOk_fin _ _ _ _ _
   ·split
    ·exact edOk_see _ _ _
    ·exact edOk_write _
theorem edOk_gather (S : Pl) (P : Pg) : EdOk (S.gather P) := by
 unfold Pl.gather
 split
 ·exact edOk_fin _ _ _ _ _
 ·exact edOk_next _
theorem edOk_way {S : Pl} (h : S.wk = 3) (P : Pg) (l : Int) (e : En) : EdOk (S.way P l e).1 := by
 unfold Pl.way
 split
 ·exact edOk_fin _ _ _ _ _
 ·split
  ·exact fun h4 => absurd (h.symm.trans h4) (by decide)
  ·exact fun h4 => absurd (h.symm.trans h4) (by decide)
theorem EdOk.page {S : Pl} (h : EdOk S) (ok : PlOk S) (v : Vw) (P : Pg) (fr : List Int) : EdOk (S.page v P fr).1 := by
 unfold Pl.page
 split
 ·rename_i hst
  have hw := ok.st (by rw [hst]; decide);show EdOk (S.descend P);unfold Pl.descend
  split
  ·exact edOk_gather _ _
  ·exact edOk_way hw _ _ _
 ·exact edOk_gather _ _
 ·show EdOk (S.inspect v P);unfold Pl.inspect
  split
  ·exact h
  ·split
   ·exact edOk_fin _ _ _ _ _
   ·split
    ·exact edOk_next _
    ·split
     ·exact edOk_next _
     ·split
      ·exact edOk_fin _ _ _ _ _
      ·split
       ·exact edOk_fin _ _ _ _ _
       ·exact edOk_next _
 ·show EdOk (S.finish P).1;unfold Pl.finish
  split
  ·exact edOk_fin _ _ _ _ _
  ·exact edOk_write _
 ·show EdOk (S.lay P).1;unfold Pl.lay
  split
  ·exact edOk_write _
  ·split
   ·exact edOk_fin _ _ _ _ _
   ·exact edOk_see _ _ _
 ·rename_i hst
  have hw := ok.st (by rw [hst]; decide);show EdOk (S.enter P fr).1;unfold Pl.enter
  split
  ·exact edOk_way hw _ _ _
  ·show EdOk (Pl.enters _ _).1;unfold Pl.enters
   split
   ·unfold Pl.entered
    split
    ·exact edOk_fin _ _ _ _ _
    ·exact edOk_see _ _ _
   ·split
    ·exact edOk_fin _ _ _ _ _
    ·split
     ·exact edOk_fin _ _ _ _ _
     ·exact edOk_fin _ _ _ _ _
 ·exact h
theorem EdOk.told {S : Pl} (h : EdOk S) (ok : PlOk S) (x : Sh) : EdOk (S.tell x).1 := by
 unfold Pl.tell
 split
 ·exact h.page ok _ _ _
 ·split
  ·show EdOk (S.lock x.got x.e);unfold Pl.lock
   split
   ·exact h
   ·split
    ·exact edOk_fin _ _ _ _ _
    ·split
     ·exact edOk_see _ _ _
     ·exact h
  ·split
   ·show EdOk (S.space x.n);unfold Pl.space
    split
    ·exact edOk_see _ _ _
    ·exact h
   ·split
    ·show EdOk (S.fail x.e);unfold Pl.fail
     split
     ·exact h
     ·exact edOk_fin _ _ _ _ _
    ·exact h
theorem ofS_big {n : Nat} (h : n < 65536) : ofS (bigS n 2) = n := by
 have e : bigS n 2 = [UInt8.ofNat (n / 256 % 256), UInt8.ofNat (n % 256)] := by
  unfold bigS;simp [List.range, List.range.loop]
 rw [e, ofS_pair];simp only [UInt8.toNat_ofNat'];omega
theorem dec_enc {a b : Nat} {f : Bool} {k v : List UInt8} (h : tupOk a b (str k) (str v) = true) : decS (tupS a b f k v) = some ⟨a, b, f, k, v⟩ := by
 unfold tupOk fitsB at h;simp only [Bool.and_eq_true, decide_eq_true_eq, str_size] at h;obtain ⟨⟨⟨⟨⟨h1, h2⟩, h3⟩, h4⟩, h5, h6⟩, h7⟩ := h;have h5 : 0 < k.length := of_decide_eq_true h5;have h6 : k.length <= 24 := of_decide_eq_true h6;have h7 : v.length <= 64 := of_decide_eq_true h7;have ha := ofS_big (n := a) (by omega);have hb := ofS_big (n := b) (by omega);have la := bigS_length a 2;have lb := bigS_length b 2;obtain ⟨a1, a0, ea⟩ : ∃ x y, bigS a 2 = [x, y] := by
  match hq : bigS a 2, la with
  | [x, y], _ => exact ⟨x, y, rfl⟩
 obtain ⟨b1, b0, eb⟩ : ∃ x y, bigS b 2 = [x, y] := by
  match hq : bigS b 2, lb with
  | [x, y], _ => exact ⟨x, y, rfl⟩
 rw [ea] at ha;rw [eb] at hb;have hfl : bigS (if f then 3 else 1) 1 = [UInt8.ofNat (if f then 3 else 1)] := by cases f <;> rfl
 have ht : tupS a b f k v = UInt8.ofNat (if f then 3 else 1) :: a1 :: a0 :: b1 :: b0 :: (txt k ++ txt v) := by
  unfold tupS;rw [hfl, ea, eb]
  rfl
 have hk : decKey (tupS a b f k v) = (k, txt v, 0) := by
  unfold decKey;rw [ht];show rdTextS 24 (txt k ++ txt v) = _;exact rdTextS_sev 24 k (txt v) (by omega) (by omega)
 have hv : decVal (tupS a b f k v) = (v, [], 0) := by
  unfold decVal rdText2;rw [hk, if_pos rfl];have := rdTextS_sev 64 v [] (by omega) (by omega);rw [List.append_nil] at this;exact this
 have hp : decParts (tupS a b f k v) = ⟨a, b, f, k, v⟩ := by
  unfold decParts;rw [hk, hv, ht];have e1 : ((UInt8.ofNat (if f = true then 3 else 1) :: a1 :: a0 :: b1 :: b0 :: (txt k ++ txt v)).tail.take 2) = [a1, a0] := rfl;have e2 : (((UInt8.ofNat (if f = true then 3 else 1) :: a1 :: a0 :: b1 :: b0 :: (txt k ++ txt v)).drop 3).take 2) = [b1, b0] := rfl;have e3 : (((UInt8.ofNat (if f = true then 3 else 1) :: a1 :: a0 :: b1 :: b0 :: (txt k ++ txt v)).getD 0 0).toNat % 4 / 2 == 1) = f := by
   show ((UInt8.ofNat (if f = true then 3 else 1)).toNat % 4 / 2 == 1) = f;cases f <;> decide
  rw [e1, e2, e3, ha, hb]
 have hne : k ≠ [] := by intro e; rw [e] at h5; simp at h5
 have hok : decOk (tupS a b f k v) = true := by
  unfold decOk;rw [hp, hk, hv];have hl : 5 <= (tupS a b f k v).length := by rw [ht]; simp
  have h0 : ((tupS a b f k v).getD 0 0).toNat = 1 \/ ((tupS a b f k v).getD 0 0).toNat = 3 := by
   rw [ht];cases f
   ·exact .inl rfl
   ·exact .inr rfl
  simp only [hne, h0, hl, decide_true, Bool.and_true, ne_eq, not_false_eq_true, Bool.and_eq_true, decide_eq_true_eq];refine ⟨⟨⟨trivial, ?_⟩, ?_⟩, ?_⟩ <;> omega
 unfold decS;rw [if_pos hok, hp]
structure Tpl where
 xmin : Int
 xmax : Int
 frz : Bool
 key : List UInt8
 val : List UInt8
def Tpl.ok (t : Tpl) : Bool := tupOk t.xmin t.xmax (str t.key) (str t.val)
def Tpl.tup (t : Tpl) : Tup := ⟨t.xmin.toNat, t.xmax.toNat, t.frz, t.key, t.val⟩
def Tpl.item (t : Tpl) : List UInt8 := tupS t.xmin.toNat t.xmax.toNat t.frz t.key t.val
theorem Tpl.nat {t : Tpl} (h : t.ok = true) : (t.xmin.toNat : Int) = t.xmin /\ (t.xmax.toNat : Int) = t.xmax := by
 unfold Tpl.ok tupOk at h;simp only [Bool.and_eq_true, decide_eq_true_eq] at h;omega
theorem Tpl.dec {t : Tpl} (h : t.ok = true) : decS t.item = some t.tup := by
 obtain ⟨h1, h2⟩ := Tpl.nat h;exact dec_enc (by rw [h1, h2]; exact h)
structure LaidOk (l : List Tpl) (L : List En) : Prop where
 good : GoodL L
 mem : ∀ e, e ∈ L ↔ ∃ (i : Nat) (h : i < l.length), e = (l[i].key, 2, (i : Int))
 ok : ∀ t ∈ l, t.ok = true
 len : L.length <= l.length
def heapP (l : List Tpl) : Pg := ⟨0, 2, 0, 0, [], l.map Tpl.item⟩
theorem look_heap {l : List Tpl} {i : Nat} (hi : i < l.length) (ok : ∀ t ∈ l, t.ok = true) : lookS (heapP l) (i : Int) l[i].key = (l[i].tup, true) := by
 have hd := Tpl.dec (ok l[i] (List.getElem_mem hi));have hat : atS (heapP l) (i : Int) = (l[i].tup, true) := by
  have := atS_at (P := heapP l) (k := i) rfl (by simpa [heapP] using hi);rw [this];simp only [heapP, List.getElem_map, hd]
  rfl
 unfold lookS;rw [hat];rw [if_pos ⟨rfl, rfl⟩]
def vis1 (v : Vw) (H : Pg) (e : En) : Option Rw := if ((lookS H e.2.2 e.1).2 && visB v (lookS H e.2.2 e.1).1) = true then some ((lookS H e.2.2 e.1).1.key, (lookS H e.2.2 e.1).1.val) else none
def runP (v : Vw) (A H : Pg) : Nat -> Pl -> Pl
 | 0, S => S
 | n + 1, S => if S.wk = 3 then runP v A H n (S.page v (if S.wpg = 1 then A else H) []).1 else S
theorem runP_over (v : Vw) (A H : Pg) (n : Nat) {S : Pl} (h : S.wk ≠ 3) : runP v A H n S = S := by
 cases n with
 | zero => rfl
 | succ n => rw [runP, if_neg h]
theorem runP_step (v : Vw) (A H : Pg) (n : Nat) {S : Pl} (h : S.wk = 3) : runP v A H (n + 1) S = runP v A H n (S.page v (if S.wpg = 1 then A else H) []).1 := by rw [runP, if_pos h]
theorem scan_hits (v : Vw) (A H : Pg) : ∀ (l : List En) (n : Nat) (S : Pl), S.call = 5 -> S.right = 0 -> S.left = l -> (∀ e ∈ l, e.2.1 = 2) -> (S.rows.length + l.length : Int) < S.n -> l.length <= n -> (runP v A H n S.next).rep = (0, false, [], S.rows ++ l.filterMap (vis1 v H))
 | [], n, S, hc, hr, hl, _, _, _ => by
  have hw : S.writes = false := by unfold Pl.writes; rw [hc]; rfl
  have hn : S.next = S.fin 0 false [] S.rows := by
   unfold Pl.next;rw [hl, hr, hw]
   rfl
  rw [hn, runP_over _ _ _ _ (by show (4 : Int) ≠ 3; decide)];unfold Pl.rep;refine (if_pos (show (S.fin 0 false [] S.rows).wk = 4 from rfl)).trans ?_;rw [List.filterMap_nil, List.append_nil]
  rfl
 | e :: l, n, S, hc, hr, hl, h2, hn, hk => by
  have hw : S.writes = false := by unfold Pl.writes; rw [hc]; rfl
  obtain ⟨n, rfl⟩ : ∃ m, n = m + 1 := ⟨n - 1, by simp at hk; omega⟩;have he : e.2.1 = 2 := h2 e (by simp);have hnx : S.next = S.see e.2.1 3 := by unfold Pl.next; rw [hl]
  rw [hnx, runP_step _ _ _ _ rfl];have hpg : (if (S.see e.2.1 3).wpg = 1 then A else H) = H := by rw [show (S.see e.2.1 3).wpg = e.2.1 from rfl, he]; rfl
  rw [hpg];show (runP v A H n ((S.see e.2.1 3).inspect v H)).rep = _;have hlen : ((S.rows.length + l.length : Int) + 1) < S.n := by simp only [List.length_cons] at hn; omega
  generalize hS : S.see e.2.1 3 = S1;have e1 : S1.call = 5 := by rw [<- hS]; exact hc
  have e2 : S1.right = 0 := by rw [<- hS]; exact hr
  have e3 : S1.left = e :: l := by rw [<- hS]; exact hl
  have e4 : S1.rows = S.rows := by rw [<- hS]; rfl
  have e5 : S1.n = S.n := by rw [<- hS]; rfl
  have e6 : S1.writes = false := by unfold Pl.writes; rw [e1]; rfl
  have hki : l.length <= n := by simp at hk; omega
  have ih := fun S hc hr hl hn => scan_hits v A H l n S hc hr hl (fun x hx => h2 x (by simp [hx])) hn hki
  unfold Pl.inspect;rw [e3];dsimp only;rw [e6, Bool.and_false, Bool.false_and, if_neg (by decide)];rw [List.filterMap_cons];unfold vis1
  by_cases hv : ((lookS H e.2.2 e.1).2 && visB v (lookS H e.2.2 e.1).1) = true
  ·rw [if_neg (by rw [hv]; decide), if_neg (by decide), if_neg (by rw [e1]; decide), if_pos hv];have hne : ¬ (((S1.rows ++ [((lookS H e.2.2 e.1).1.key, (lookS H e.2.2 e.1).1.val)]).length : Int) = S1.n) := by
    rw [e4, e5, List.length_append, List.length_singleton]; push_cast; omega
   rw [if_neg hne]
   have := ih { S1 with left := l, rows := S1.rows ++ [((lookS H e.2.2 e.1).1.key, (lookS H e.2.2 e.1).1.val)] } e1 e2 rfl (by
    show (((S1.rows ++ [((lookS H e.2.2 e.1).1.key, (lookS H e.2.2 e.1).1.val)]).length : Int) + l.length) < S1.n
    rw [e4, e5, List.length_append, List.length_singleton]; push_cast; omega)
   rw [this];show (0, false, [], (S1.rows ++ [_]) ++ _) = _;rw [e4, List.append_assoc]
   rfl
  ·have hv' : ((lookS H e.2.2 e.1).2 && visB v (lookS H e.2.2 e.1).1) = false := by simpa using hv
   rw [if_pos hv', if_neg hv]
   have := ih { S1 with left := l } e1 e2 rfl (by
    show ((S1.rows.length : Int) + l.length) < S1.n
    rw [e4, e5]; omega)
   rw [this];show (0, false, [], S1.rows ++ _) = _;rw [e4]
   rfl
def getR (v : Vw) (H : Pg) (l : List En) : Rp := match l.filterMap (vis1 v H) with
 | [] => (0, false, [], [])
 | r :: _ => (0, true, r.2, [])
theorem get_hits (v : Vw) (A H : Pg) : ∀ (l : List En) (n : Nat) (S : Pl), S.call = 2 -> S.right = 0 -> S.left = l -> (∀ e ∈ l, e.2.1 = 2) -> S.rows = [] -> l.length <= n -> (runP v A H n S.next).rep = getR v H l
 | [], n, S, hc, hr, hl, _, h0, _ => by
  have hw : S.writes = false := by unfold Pl.writes; rw [hc]; rfl
  have hn : S.next = S.fin 0 false [] S.rows := by
   unfold Pl.next;rw [hl, hr, hw]
   rfl
  rw [hn, runP_over _ _ _ _ (by show (4 : Int) ≠ 3; decide)];unfold Pl.rep;refine (if_pos (show (S.fin 0 false [] S.rows).wk = 4 from rfl)).trans ?_;rw [h0]
  rfl
 | e :: l, n, S, hc, hr, hl, h2, h0, hk => by
  have hw : S.writes = false := by unfold Pl.writes; rw [hc]; rfl
  obtain ⟨n, rfl⟩ : ∃ m, n = m + 1 := ⟨n - 1, by simp at hk; omega⟩;have he : e.2.1 = 2 := h2 e (by simp);have hnx : S.next = S.see e.2.1 3 := by unfold Pl.next; rw [hl]
  rw [hnx, runP_step _ _ _ _ rfl];have hpg : (if (S.see e.2.1 3).wpg = 1 then A else H) = H := by rw [show (S.see e.2.1 3).wpg = e.2.1 from rfl, he]; rfl
  rw [hpg];show (runP v A H n ((S.see e.2.1 3).inspect v H)).rep = _;generalize hS : S.see e.2.1 3 = S1;have e1 : S1.call = 2 := by rw [<- hS]; exact hc
  have e2 : S1.right = 0 := by rw [<- hS]; exact hr
  have e3 : S1.left = e :: l := by rw [<- hS]; exact hl
  have e4 : S1.rows = [] := by rw [<- hS]; exact h0
  have e6 : S1.writes = false := by unfold Pl.writes; rw [e1]; rfl
  have hki : l.length <= n := by simp at hk; omega
  have ih := fun S hc hr hl h0 => get_hits v A H l n S hc hr hl (fun x hx => h2 x (by simp [hx])) h0 hki
  unfold Pl.inspect;rw [e3];dsimp only;rw [e6, Bool.and_false, Bool.false_and, if_neg (by decide)]
  by_cases hv : ((lookS H e.2.2 e.1).2 && visB v (lookS H e.2.2 e.1).1) = true
  ·rw [if_neg (by rw [hv]; decide), if_neg (by decide), if_pos e1];rw [runP_over _ _ _ _ (by show (4 : Int) ≠ 3; decide)];unfold Pl.rep;refine (if_pos (show (Pl.fin _ 0 true _ []).wk = 4 from rfl)).trans ?_;unfold getR;rw [List.filterMap_cons];unfold vis1;rw [if_pos hv]
   rfl
  ·have hv' : ((lookS H e.2.2 e.1).2 && visB v (lookS H e.2.2 e.1).1) = false := by simpa using hv
   rw [if_pos hv'];have := ih { S1 with left := l } e1 e2 rfl e4;rw [this];unfold getR;rw [List.filterMap_cons];unfold vis1;rw [if_neg hv]
theorem kl_irr : ∀ a : List UInt8, Op.bytesLess a a = false
 | [] => rfl
 | a :: l => by simp [Op.bytesLess, kl_irr l]
theorem kl_nil (a : List UInt8) : Op.bytesLess a [] = false := by cases a <;> rfl
theorem kl_trans : ∀ {a b c : List UInt8}, Op.bytesLess a b = true -> Op.bytesLess b c = true -> Op.bytesLess a c = true
 | _, [], _, h, _ => by rw [kl_nil] at h; cases h
 | _, _ :: _, [], _, h => by rw [kl_nil] at h; cases h
 | [], _ :: _, _ :: _, _, _ => rfl
 | x :: a, y :: b, z :: c, h1, h2 => by
  simp only [Op.bytesLess, Bool.or_eq_true, Bool.and_eq_true, decide_eq_true_eq, beq_iff_eq] at h1 h2 ⊢;rcases h1 with h1 | ⟨rfl, h1⟩
  ·rcases h2 with h2 | ⟨rfl, h2⟩
   ·exact .inl (UInt8.lt_trans h1 h2)
   ·exact .inl h1
  ·rcases h2 with h2 | ⟨rfl, h2⟩
   ·exact .inl h2
   ·exact .inr ⟨rfl, kl_trans h1 h2⟩
theorem kl_tri : ∀ {a b : List UInt8}, a ≠ b -> Op.bytesLess a b = true \/ Op.bytesLess b a = true
 | [], [], h => absurd rfl h
 | [], _ :: _, _ => .inl rfl
 | _ :: _, [], _ => .inr rfl
 | x :: a, y :: b, h => by
  simp only [Op.bytesLess, Bool.or_eq_true, Bool.and_eq_true, decide_eq_true_eq, beq_iff_eq]
  by_cases e : x = y
  ·subst e;rcases kl_tri (a := a) (b := b) (fun h' => h (by rw [h'])) with h1 | h1
   ·exact .inl (.inr ⟨rfl, h1⟩)
   ·exact .inr (.inr ⟨rfl, h1⟩)
  ·rcases Nat.lt_or_gt_of_ne (fun h' => e (UInt8.toNat_inj.1 h')) with h1 | h1
   ·exact .inl (.inl (UInt8.lt_iff_toNat_lt.2 h1))
   ·exact .inr (.inl (UInt8.lt_iff_toNat_lt.2 h1))
theorem kl_asymm {a b : List UInt8} (h : Op.bytesLess a b = true) : Op.bytesLess b a = false := by
 cases hb : Op.bytesLess b a with
 | false => rfl
 | true => have := kl_trans h hb; rw [kl_irr] at this; cases this
theorem kl_self : ∀ {k a : List UInt8}, Op.bytesLess a k = false -> Op.bytesLess a (k ++ [0]) = true -> a = k
 | [], [], _, _ => rfl
 | [], x :: a, _, h => by
  simp only [List.nil_append, Op.bytesLess, kl_nil, Bool.and_false, Bool.or_false, decide_eq_true_eq] at h;exact absurd h (by rw [UInt8.lt_iff_toNat_lt]; simp)
 | y :: k, [], h, _ => by cases h
 | y :: k, x :: a, h1, h2 => by
  simp only [List.cons_append, Op.bytesLess, Bool.or_eq_true, Bool.and_eq_true, decide_eq_true_eq, beq_iff_eq] at h2;simp only [Op.bytesLess, Bool.or_eq_false_iff, Bool.and_eq_false_iff, decide_eq_false_iff_not] at h1;rcases h2 with h2 | ⟨rfl, h2⟩
  ·exact absurd h2 h1.1
  ·have h3 : Op.bytesLess a k = false := by
    rcases h1.2 with h | h
    ·simp at h
    ·exact h
   rw [kl_self h3 h2]
theorem kl_more : ∀ a : List UInt8, Op.bytesLess a (a ++ [0]) = true
 | [] => rfl
 | a :: l => by simp [Op.bytesLess, kl_more l]
def SortedR (l : List Rw) : Prop := l.Pairwise fun a b => Op.bytesLess a.1 b.1 = true
theorem sortedR_ext : ∀ {a b : List Rw}, SortedR a -> SortedR b -> (∀ r, r ∈ a ↔ r ∈ b) -> a = b
 | [], [], _, _, _ => rfl
 | [], y :: b, _, _, h => absurd ((h y).2 (by simp)) (by simp)
 | x :: a, [], _, _, h => absurd ((h x).1 (by simp)) (by simp)
 | x :: a, y :: b, ha, hb, h => by
  obtain ⟨ha1, ha2⟩ := List.pairwise_cons.1 ha;obtain ⟨hb1, hb2⟩ := List.pairwise_cons.1 hb;have hxy : x = y := by
   rcases List.mem_cons.1 ((h x).1 (by simp)) with e | hx
   ·exact e
   ·rcases List.mem_cons.1 ((h y).2 (by simp)) with e | hy
    ·exact e.symm
    ·have := kl_trans (ha1 y hy) (hb1 x hx);rw [kl_irr] at this; cases this
  subst hxy;rw [sortedR_ext ha2 hb2 fun r => ?_]
  constructor
  ·intro hr;rcases List.mem_cons.1 ((h r).1 (by simp [hr])) with e | hr'
   ·subst e;have := ha1 _ hr;rw [kl_irr] at this; cases this
   ·exact hr'
  ·intro hr;rcases List.mem_cons.1 ((h r).2 (by simp [hr])) with e | hr'
   ·subst e;have := hb1 _ hr;rw [kl_irr] at this; cases this
   ·exact hr'
theorem cmpE_key {a b : En} (h : cmpE a b = -1) : Op.bytesLess a.1 b.1 = true \/ a.1 = b.1 := by
 rw [bless_cb];unfold cmpE or3 at h
 by_cases hc : Lib.compareBytes a.1 b.1 = 0
 ·right
  by_cases e : a.1 = b.1
  ·exact e
  ·rcases kl_tri e with h1 | h1
   ·rw [bless_cb, hc] at h1; cases h1
   ·have h2 := kl_asymm h1;rw [bless_cb] at h1
    exfalso
    have key : ∀ x y : List UInt8, Lib.compareBytes x y = 0 -> x = y := by
     intro x
     induction x with
     | nil => intro y hy; cases y with
      | nil => rfl
      | cons => cases hy
     | cons c x ih =>
      intro y hy;cases y with
      | nil => cases hy
      | cons d y =>
       simp only [Lib.compareBytes] at hy
       split at hy
       ·cases hy
       ·split at hy
        ·cases hy
        ·rename_i h3 h4
         have : c = d := by
          rw [UInt8.lt_iff_toNat_lt] at h3 h4;exact UInt8.toNat_inj.1 (by omega)
         rw [this, ih y hy]
    exact e (key _ _ hc)
 ·rw [if_pos hc] at h
  left
  rw [h]
  rfl
def Seen1 (v : Vw) (l : List Tpl) (n : Nat) (r : Rw) : Prop := ∃ (i : Nat) (h : i < l.length), i < n /\ visB v l[i].tup = true /\ r = (l[i].key, l[i].val)
def Once (v : Vw) (l : List Tpl) (n : Nat) : Prop := ∀ (i j : Nat) (hi : i < l.length) (hj : j < l.length), i < n -> j < n -> visB v l[i].tup = true -> visB v l[j].tup = true -> l[i].key = l[j].key -> i = j
variable {v : Vw} {l : List Tpl} {L : List En}
theorem vis_at (H : LaidOk l L) {i : Nat} (hi : i < l.length) : vis1 v (heapP l) (l[i].key, 2, (i : Int)) = if visB v l[i].tup = true then some (l[i].key, l[i].val) else none := by
 unfold vis1;rw [look_heap hi H.ok];dsimp only;rw [Bool.true_and]
 rfl
theorem rows_mem (H : LaidOk l L) (r : Rw) : r ∈ L.filterMap (vis1 v (heapP l)) ↔ Seen1 v l l.length r := by
 rw [List.mem_filterMap]
 constructor
 ·rintro ⟨e, he, hr⟩;obtain ⟨i, hi, rfl⟩ := (H.mem e).1 he;rw [vis_at H hi] at hr
  split at hr
  ·rename_i hv
   simp only [Option.some.injEq] at hr;exact ⟨i, hi, hi, hv, hr.symm⟩
  ·cases hr
 ·rintro ⟨i, hi, _, hv, rfl⟩;exact ⟨_, (H.mem _).2 ⟨i, hi, rfl⟩, by rw [vis_at H hi, if_pos hv]⟩
theorem rows_sorted (H : LaidOk l L) (ho : Once v l l.length) : SortedR (L.filterMap (vis1 v (heapP l))) := by
 unfold SortedR;rw [List.pairwise_filterMap];refine List.Pairwise.imp_of_mem ?_ H.good.sorted;intro a b ha hb hab r hr s hs;obtain ⟨i, hi, rfl⟩ := (H.mem a).1 ha;obtain ⟨j, hj, rfl⟩ := (H.mem b).1 hb;rw [vis_at H hi] at hr;rw [vis_at H hj] at hs
 split at hr
 ·split at hs
  ·rename_i h1 h2
   simp only [Option.some.injEq] at hr hs;subst hr hs;rcases cmpE_key hab with h | h
   ·exact h
   ·have := ho i j hi hj hi hj h1 h2 h;subst this
    exfalso
    have h3 : cmpE (l[i].key, (2 : Int), (i : Int)) (l[i].key, (2 : Int), (i : Int)) = -1 := hab;unfold cmpE or3 at h3;have e1 : Lib.compareBytes l[i].key l[i].key = 0 := by
     have key : ∀ x : List UInt8, Lib.compareBytes x x = 0 := by
      intro x
      induction x with
      | nil => rfl
      | cons c x ih => simp only [Lib.compareBytes]; rw [if_neg (UInt8.lt_irrefl _), if_neg (UInt8.lt_irrefl _), ih]
     exact key _
    have e2 : ∀ x : Int, Lib.compareInt x x = 0 := by intro x; unfold Lib.compareInt; simp
    rw [if_neg (by rw [e1]; decide), e2, e2] at h3;exact absurd h3 (by decide)
  ·cases hs
 ·cases hr
theorem start_scan : startS 5 [] [] [] 16 0 = (Pl.new 5 [] [] [] 16 0).look := by
 unfold startS;have hw : (Pl.new 5 [] [] [] 16 0).writes = false := rfl;rw [if_neg (by rw [hw]; decide)]
theorem start_get (key : List UInt8) : startS 2 key [] [] 0 0 = (Pl.new 2 key [] [] 0 0).look := by
 unfold startS;have hw : (Pl.new 2 key [] [] 0 0).writes = false := rfl;rw [if_neg (by rw [hw]; decide)]
theorem way_leaf (hL : GoodL L) (e : En) (he : enOk e = true) : wayN (pgOf L) 0 e = (0, true, 0) := by
 unfold wayN;have h1 := open_of hL;rw [if_pos (by rw [h1]; rfl)];have h2 : (beyondN (pgOf L) e).1 = false := by
  unfold beyondN;rw [h1, he]
  rfl
 rw [if_neg (by rw [h2]; decide)]
 rfl
theorem ent_leaf (hL : GoodL L) : entL (pgOf L) = L /\ entC (pgOf L) = 0 := by
 unfold entL entC;rw [if_pos (entriesOk_of hL), if_pos (entriesOk_of hL)];exact ⟨ens_of hL.ok, rfl⟩
theorem look_leaf (hL : GoodL L) (S : Pl) (hb : enOk (S.begins, 0, 0) = true) : ∃ S1 : Pl, (S.look.page v (pgOf L) []).1 = Pl.next S1 /\ S1.call = S.call /\ S1.right = 0 /\ S1.left = L.filter (insideB S.key S.upto) /\ S1.rows = S.rows /\ S1.n = S.n := by
 obtain ⟨h1, h2⟩ := ent_leaf hL;have hw : S.look.way (pgOf L) 0 (S.begins, 0, 0) = ({ S.look with seen := S.look.seen + 1 }, true) := by
  unfold Pl.way;rw [way_leaf hL _ hb]
  rfl
 refine ⟨{ S.look with seen := S.look.seen + 1, left := L.filter (insideB S.key S.upto), right := 0 }, ?_, rfl, rfl, rfl, rfl, rfl⟩;show S.look.descend (pgOf L) = _;unfold Pl.descend;rw [show S.look.begins = S.begins from rfl, hw];show ({ S.look with seen := S.look.seen + 1 } : Pl).gather (pgOf L) = _;unfold Pl.gather;rw [if_neg (by rw [h2]; decide)];unfold hitsL;rw [h1]
 congr 1
 show Pl.mk _ _ _ _ _ _ _ _ _ _ _ _ _ _ _ _ _ _ (if hitsM (pgOf L) _ = true then (pgOf L).right else 0) _ _ _ _ _ = _;rw [show (pgOf L).right = 0 from rfl, ite_self]
 rfl
theorem scan_run (H : LaidOk l L) (hl : L.length <= 12) : (runP v (pgOf L) (heapP l) 1000 (startS 5 [] [] [] 16 0)).rep = (0, false, [], L.filterMap (vis1 v (heapP l))) := by
 rw [start_scan, runP_step _ _ _ _ rfl];rw [if_pos (show (Pl.look (Pl.new 5 [] [] [] 16 0)).wpg = 1 from rfl)];obtain ⟨S1, h1, h2, h3, h4, h5, h6⟩ := look_leaf (v := v) H.good (Pl.new 5 [] [] [] 16 0) (by decide);rw [h1];have hf : L.filter (insideB (Pl.new 5 [] [] [] 16 0).key (Pl.new 5 [] [] [] 16 0).upto) = L := by
  refine List.filter_eq_self.2 fun e _ => ?_
  show insideB [] [] e = true;unfold insideB belowB;rw [kl_nil]
  rfl
 rw [hf] at h4;have := scan_hits v (pgOf L) (heapP l) L 999 S1 h2 h3 h4 (fun e he => by obtain ⟨i, hi, rfl⟩ := (H.mem e).1 he; rfl) (by rw [h5, h6]; show ((0 : Nat) : Int) + _ < 16; omega) (by omega);rw [this, h5]
 rfl
theorem get_run (H : LaidOk l L) (hl : L.length <= 12) (key : List UInt8) (hk : isKeyB key = true) : (runP v (pgOf L) (heapP l) 1000 (startS 2 key [] [] 0 0)).rep = getR v (heapP l) (L.filter fun e => decide (e.1 = key)) := by
 unfold isKeyB at hk;simp only [Bool.and_eq_true, decide_eq_true_eq] at hk;have hne : key ≠ [] := by intro e; rw [e] at hk; simp at hk
 rw [start_get, runP_step _ _ _ _ rfl];rw [if_pos (show (Pl.look (Pl.new 2 key [] [] 0 0)).wpg = 1 from rfl)];have hbg : (Pl.new 2 key [] [] 0 0).begins = key := by unfold Pl.begins; exact if_neg hne
 obtain ⟨S1, h1, h2, h3, h4, h5, h6⟩ := look_leaf (v := v) H.good (Pl.new 2 key [] [] 0 0) (by
  rw [hbg];unfold enOk inB;simp
  omega)
 rw [h1];have hf : L.filter (insideB (Pl.new 2 key [] [] 0 0).key (Pl.new 2 key [] [] 0 0).upto) = L.filter fun e => decide (e.1 = key) := by
  refine List.filter_congr fun e _ => ?_
  show insideB key (key ++ [0]) e = _;unfold insideB belowB;rw [show decide (key ++ [0] = []) = false by simp, Bool.false_or]
  by_cases h : e.1 = key
  ·rw [h, kl_irr, kl_more]; simp
  ·rw [decide_eq_false h];cases ha : Op.bytesLess e.1 key with
   | true => rfl
   | false =>
    cases hb : Op.bytesLess e.1 (key ++ [0]) with
    | false => rfl
    | true => exact absurd (kl_self ha hb) h
 rw [hf] at h4;have hle : (L.filter fun e => decide (e.1 = key)).length <= L.length := List.length_filter_le _ _;exact get_hits v (pgOf L) (heapP l) _ 999 S1 h2 h3 h4 (fun e he => by obtain ⟨i, hi, rfl⟩ := (H.mem e).1 (List.mem_filter.1 he).1; rfl) (by rw [h5]; rfl) (by omega)
end Go.Proofs.YtcdapdcablnhpaaGreat
namespace Go.Proofs.YtcdapdcablnhpaaGreat
open Go.RowKit
def ClogK (P : Pg) : Prop := P.items.length <= 2 /\ ∀ x ∈ P.items, x.length <= 100
theorem blank16 : blankS 16 1 = (madeP 1 [0, 0, 0, 0] 0, 0) := by unfold blankS; rw [if_pos (by decide)]; rfl
theorem clogK_made {n : Nat} {l : List UInt8} {lsn : Int} (h : l.length <= 100) : ClogK (madeP n l lsn) := by
 refine ⟨Nat.le_refl 2, fun x hx => ?_⟩;simp only [madeP, List.mem_cons, List.not_mem_nil, or_false] at hx;rcases hx with rfl | rfl
 ·have := sev_length n; omega
 ·exact h
theorem clogK_set {P : Pg} (h : ClogK P) {m x : Int} {s : Nat} : ClogK (setS m P x s).1 := by
 have h0 : ClogK noPg := ⟨Nat.zero_le _, fun x hx => by cases hx⟩;unfold setS
 split
 ·split
  ·refine clogK_made ?_;unfold putS;rw [List.length_set]
   by_cases hi : 1 < P.items.length
   ·rw [List.getD_eq_getElem?_getD, List.getElem?_eq_getElem hi];exact h.2 _ (List.getElem_mem hi)
   ·rw [List.getD_eq_getElem?_getD, List.getElem?_eq_none (by omega)];exact Nat.zero_le _
  ·exact h0
 ·exact h0
variable {v : Vw} {l : List Tpl} {W : List Rw} {t : Tpl}
structure WantOk (v : Vw) (l : List Tpl) (W : List Rw) : Prop where
 sorted : SortedR W
 mem : ∀ r, r ∈ W ↔ Seen1 v l l.length r
 once : Once v l l.length
 len : W.length <= l.length
theorem wantOk_nil (v : Vw) : WantOk v [] [] :=
 ⟨List.Pairwise.nil, fun r => ⟨fun h => (by cases h), fun ⟨i, hi, _⟩ => (by cases hi)⟩, fun i _ hi => (by cases hi), Nat.le_refl _⟩
theorem seen_snoc (r : Rw) : Seen1 v (l ++ [t]) (l ++ [t]).length r ↔ Seen1 v l l.length r \/ (visB v t.tup = true /\ r = (t.key, t.val)) := by
 constructor
 ·rintro ⟨i, hi, -, hv, rfl⟩
  by_cases e : i < l.length
  ·simp only [List.getElem_append_left e] at hv ⊢;exact .inl ⟨i, e, e, hv, rfl⟩
  ·have e2 : i = l.length := by simp at hi; omega
   subst e2;simp only [List.getElem_append_right (Nat.le_refl _), Nat.sub_self, List.getElem_cons_zero] at hv ⊢;exact .inr ⟨hv, trivial⟩
 ·rintro (⟨i, hi, -, hv, rfl⟩ | ⟨hv, rfl⟩)
  ·have h2 : i < (l ++ [t]).length := by simp; omega
   refine ⟨i, h2, h2, ?_, ?_⟩
   ·rw [List.getElem_append_left hi]; exact hv
   ·rw [List.getElem_append_left hi]
  ·have h2 : l.length < (l ++ [t]).length := by simp
   refine ⟨l.length, h2, h2, ?_, ?_⟩
   ·simp only [List.getElem_append_right (Nat.le_refl _), Nat.sub_self, List.getElem_cons_zero]; exact hv
   ·simp only [List.getElem_append_right (Nat.le_refl _), Nat.sub_self, List.getElem_cons_zero]
theorem wantOk_skip (h : WantOk v l W) (ht : visB v t.tup = false) : WantOk v (l ++ [t]) W := by
 refine ⟨h.sorted, fun r => ?_, fun i j hi hj _ _ h1 h2 h3 => ?_, by have := h.len; simp; omega⟩
 ·rw [h.mem, seen_snoc, ht]; simp
 ·have hlast : ∀ k (hk : k < (l ++ [t]).length), visB v (l ++ [t])[k].tup = true -> k < l.length := by
   intro k hk hv
   by_cases e : k < l.length
   ·exact e
   ·have e2 : k = l.length := by simp at hk; omega
    subst e2;simp only [List.getElem_append_right (Nat.le_refl _), Nat.sub_self, List.getElem_cons_zero] at hv;rw [ht] at hv; cases hv
  have ei := hlast i hi h1;have ej := hlast j hj h2;rw [List.getElem_append_left ei] at h1 h3;rw [List.getElem_append_left ej] at h2 h3;exact h.once i j ei ej ei ej h1 h2 h3
structure InsAt (W : List Rw) (key : List UInt8) (k : Nat) : Prop where
 le : k <= W.length
 low : ∀ j (hj : j < W.length), j < k -> Op.bytesLess W[j].1 key = true
 high : ∀ hj : k < W.length, Op.bytesLess W[k].1 key = false /\ W[k].1 ≠ key
theorem insAt_take {key : List UInt8} {k : Nat} (h : InsAt W key k) {r : Rw} (hr : r ∈ W.take k) : Op.bytesLess r.1 key = true := by
 obtain ⟨j, hj, rfl⟩ := List.mem_iff_getElem.1 hr;rw [List.length_take] at hj;rw [List.getElem_take];exact h.low j (by omega) (by omega)
theorem insAt_drop {key : List UInt8} {k : Nat} (hs : SortedR W) (h : InsAt W key k) {r : Rw} (hr : r ∈ W.drop k) : Op.bytesLess key r.1 = true := by
 obtain ⟨j, hj, rfl⟩ := List.mem_iff_getElem.1 hr;rw [List.length_drop] at hj;rw [List.getElem_drop];have hk : k < W.length := by omega
 obtain ⟨h1, h2⟩ := h.high hk;have h3 : Op.bytesLess key W[k].1 = true := by
  rcases kl_tri h2 with h4 | h4
  ·rw [h1] at h4; cases h4
  ·exact h4
 by_cases e : j = 0
 ·subst e; exact h3
 ·exact kl_trans h3 ((List.pairwise_iff_getElem.1 hs) k (k + j) hk (by omega) (by omega))
theorem insAt_ne {key : List UInt8} {k : Nat} (hs : SortedR W) (h : InsAt W key k) {r : Rw} (hr : r ∈ W) : r.1 ≠ key := by
 rw [<- List.take_append_drop k W, List.mem_append] at hr;rintro rfl;rcases hr with hr | hr
 ·have := insAt_take h hr;rw [kl_irr] at this; cases this
 ·have := insAt_drop hs h hr;rw [kl_irr] at this; cases this
def insR (W : List Rw) (k : Nat) (r : Rw) : List Rw := W.take k ++ r :: W.drop k
theorem wantOk_ins (h : WantOk v l W) (ht : visB v t.tup = true) {k : Nat} (hk : InsAt W t.key k) : WantOk v (l ++ [t]) (insR W k (t.key, t.val)) := by
 refine ⟨?_, fun r => ?_, ?_, ?_⟩
 ·unfold SortedR insR;rw [List.pairwise_append, List.pairwise_cons];refine ⟨List.Pairwise.sublist (List.take_sublist _ _) h.sorted, ⟨fun b hb => insAt_drop h.sorted hk hb, List.Pairwise.sublist (List.drop_sublist _ _) h.sorted⟩, fun a ha b hb => ?_⟩;have h1 := insAt_take hk ha;rcases List.mem_cons.1 hb with rfl | hb
  ·exact h1
  ·exact kl_trans h1 (insAt_drop h.sorted hk hb)
 ·rw [seen_snoc, <- h.mem];unfold insR
  conv => rhs; rw [<- List.take_append_drop k W]
  simp only [List.mem_append, List.mem_cons, ht, true_and]
  constructor
  ·rintro (h1 | rfl | h1)
   ·exact .inl (.inl h1)
   ·exact .inr rfl
   ·exact .inl (.inr h1)
  ·rintro ((h1 | h1) | rfl)
   ·exact .inl h1
   ·exact .inr (.inr h1)
   ·exact .inr (.inl rfl)
 ·have hold : ∀ i (hi : i < l.length), visB v l[i].tup = true -> l[i].key ≠ t.key := fun i hi hv => insAt_ne (r := (l[i].key, l[i].val)) h.sorted hk ((h.mem _).2 ⟨i, hi, hi, hv, rfl⟩)
  intro i j hi hj _ _ h1 h2 h3
  by_cases ei : i < l.length
  ·rw [List.getElem_append_left ei] at h1 h3
   by_cases ej : j < l.length
   ·rw [List.getElem_append_left ej] at h2 h3;exact h.once i j ei ej ei ej h1 h2 h3
   ·have e2 : j = l.length := by simp at hj; omega
    subst e2;simp only [List.getElem_append_right (Nat.le_refl _), Nat.sub_self, List.getElem_cons_zero] at h3;exact absurd h3 (hold i ei h1)
  ·have e1 : i = l.length := by simp at hi; omega
   subst e1
   by_cases ej : j < l.length
   ·rw [List.getElem_append_left ej] at h2 h3;simp only [List.getElem_append_right (Nat.le_refl _), Nat.sub_self, List.getElem_cons_zero] at h3;exact absurd h3.symm (hold j ej h2)
   ·simp at hj; omega
 ·have := h.len;unfold insR;simp;omega
theorem want_rows {L : List En} (H : LaidOk l L) (h : WantOk v l W) : W = L.filterMap (vis1 v (heapP l)) := sortedR_ext h.sorted (rows_sorted H h.once) fun r => (h.mem r).trans (rows_mem H r).symm
def oneR (key : List UInt8) (W : List Rw) : Rp := W.foldl (fun a r => if r.1 = key then (0, true, r.2, []) else a) (0, false, [], [])
theorem oneR_take {key : List UInt8} {n : Nat} (hn : n < W.length) : oneR key (W.take (n + 1)) = if W[n].1 = key then (0, true, W[n].2, []) else oneR key (W.take n) := by
 unfold oneR;rw [List.take_succ_eq_append_getElem hn, List.foldl_append]
 rfl
theorem oneR_filter {key : List UInt8} : ∀ (W : List Rw) (a : Rp), W.foldl (fun a r => if r.1 = key then (0, true, r.2, []) else a) a = (W.filter fun r => decide (r.1 = key)).foldl (fun _ r => (0, true, r.2, [])) a
 | [], _ => rfl
 | r :: W, a => by
  rw [List.foldl_cons, oneR_filter W, List.filter_cons]
  by_cases h : r.1 = key
  ·rw [if_pos h, if_pos (by simpa using h), List.foldl_cons]
  ·rw [if_neg h, if_neg (by simpa using h)]
theorem filter_one {key : List UInt8} (hs : SortedR W) : (W.filter fun r => decide (r.1 = key)).length <= 1 := by
 have h1 : SortedR (W.filter fun r => decide (r.1 = key)) := List.Pairwise.sublist List.filter_sublist hs;have h2 : ∀ r ∈ W.filter fun r => decide (r.1 = key), r.1 = key := fun r hr => by simpa using (List.mem_filter.1 hr).2
 generalize (W.filter fun r => decide (r.1 = key)) = F at *
 match F, h1, h2 with
 | [], _, _ => exact Nat.zero_le _
 | [_], _, _ => exact Nat.le_refl _
 | a :: b :: _, h1, h2 =>
  have h3 := (List.pairwise_cons.1 h1).1 b (by simp);rw [h2 a (by simp), h2 b (by simp), kl_irr] at h3;cases h3
theorem one_get {L : List En} (H : LaidOk l L) (h : WantOk v l W) (key : List UInt8) : getR v (heapP l) (L.filter fun e => decide (e.1 = key)) = oneR key W := by
 have h1 : (L.filter fun e => decide (e.1 = key)).filterMap (vis1 v (heapP l)) = W.filter fun r => decide (r.1 = key) := by
  rw [want_rows H h];have hk : ∀ e ∈ L, ∀ r, vis1 v (heapP l) e = some r -> r.1 = e.1 := by
   intro e he r hr;obtain ⟨i, hi, rfl⟩ := (H.mem e).1 he;rw [vis_at H hi] at hr
   split at hr
   ·simp only [Option.some.injEq] at hr; rw [<- hr]
   ·cases hr
  clear h H
  induction L with
  | nil => rfl
  | cons e L ih =>
   have ih := ih fun e he => hk e (List.mem_cons_of_mem _ he)
   have he := hk e (by simp);rw [List.filter_cons, List.filterMap_cons];cases hv : vis1 v (heapP l) e with
   | none =>
    by_cases h1 : e.1 = key
    ·rw [if_pos (by simpa using h1), List.filterMap_cons, hv]; exact ih
    ·rw [if_neg (by simpa using h1)]; exact ih
   | some r =>
    have h2 := he r hv
    by_cases h1 : e.1 = key
    ·rw [if_pos (by simpa using h1), List.filterMap_cons, hv];dsimp only;rw [List.filter_cons, if_pos (by simpa using h2.trans h1), ih]
    ·rw [if_neg (by simpa using h1)];dsimp only;rw [List.filter_cons, if_neg (by simpa using fun h3 => h1 (h2.symm.trans h3)), ih]
 unfold getR oneR;rw [h1, oneR_filter];have h2 := filter_one (key := key) h.sorted;generalize (W.filter fun r => decide (r.1 = key)) = F at *
 match F, h2 with
 | [], _ => rfl
 | [_], _ => rfl
 | _ :: _ :: _, h2 => simp at h2
end Go.Proofs.YtcdapdcablnhpaaGreat
namespace Go.Proofs.YtcdapdcablnhpaaGreat
open Go.RowKit
theorem PlOk.runP (v : Vw) (A H : Pg) : ∀ (n : Nat) {S : Pl}, PlOk S -> PlOk (runP v A H n S)
 | 0, _, h => h
 | n + 1, S, h => by
  unfold Go.Proofs.YtcdapdcablnhpaaGreat.runP
  split
  ·exact PlOk.runP v A H n (h.page v _ [])
  ·exact h
theorem item_len {t : Tpl} (h : t.ok = true) : t.item.length <= 200 := by
 unfold Tpl.ok tupOk fitsB at h;simp only [Bool.and_eq_true, decide_eq_true_eq] at h;have h1 : t.key.length <= 24 := h.1.2.2;have h2 : t.val.length <= 64 := h.2;have h3 := sev_length t.key.length;have h4 := sev_length t.val.length;simp only [Tpl.item, tupS, txt, bigS_length, List.length_append];omega
theorem pgIn_heap {l : List Tpl} (hok : ∀ t ∈ l, t.ok = true) (hl : l.length <= 12) {w : World} {iv : Value} (hi : ItemsC w iv (heapP l).items) : PgIn w iv (heapP l) := by
 refine ⟨hi.1.weak, fun x hx => ?_, by simp [heapP], by simp [heapP]; omega, by simp [heapP]⟩;simp only [heapP, List.mem_map] at hx;obtain ⟨t, ht, rfl⟩ := hx;have := item_len (hok t ht);omega
end Go.Proofs.YtcdapdcablnhpaaGreat
