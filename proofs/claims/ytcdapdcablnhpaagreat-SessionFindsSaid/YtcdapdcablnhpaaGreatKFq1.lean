import Derived.Test.YtcdapdcablnhpaaGreatKSee
import Derived.Test.YtcdapdcablnhpaaGreatKLexr
import Derived.Test.YtcdapdcablnhpaaGreatKLexn
import Derived.Test.YtcdapdcablnhpaaGreatKCg2
import Derived.Test.YtcdapdcablnhpaaGreatKSe2
import Derived.Test.YtcdapdcablnhpaaGreatKBe9
import Derived.Laws.OwnMore
import Derived.Deep.CutRange
import Derived.Test.YtcdapdcablnhpaaGreatKCg9
import Derived.BigQuiet
namespace Go.Proofs.YtcdapdcablnhpaaGreat
open Go.RowKit
def rdC (R : Rcd) (iv : Value) : List Value := [.int .i64 0, .int .i64 0, .int .i64 0, .int .u8 R.kind, .int .i64 R.xid, .int .i64 R.page, .int .i64 R.slot, .int .i64 R.old, .int .i64 R.new, .int .i64 0, .string (str R.data), .slice none 0 0, .slice none 0 0, iv, .slice none 0 0, .slice none 0 0]
def rdV (R : Rcd) (iv : Value) : Value := .agg #[.int .i64 0, .int .i64 0, .int .i64 0, .int .u8 R.kind, .int .i64 R.xid, .int .i64 R.page, .int .i64 R.slot, .int .i64 R.old, .int .i64 R.new, .int .i64 0, .string (str R.data), .slice none 0 0, .slice none 0 0, iv, .slice none 0 0, .slice none 0 0]
def zC : List Value := [.int .i64 0, .int .i64 0, .int .i64 0, .int .u8 0, .int .i64 0, .int .i64 0, .int .i64 0, .int .i64 0, .int .i64 0, .int .i64 0, .string ⟨#[]⟩, .slice none 0 0, .slice none 0 0, .slice none 0 0, .slice none 0 0, .slice none 0 0]
def StPost (bs pb : Nat) (S : Pl) (R : Rcd) (b : Bool) (w : World) (x : Ending) (w' : World) : Prop :=
 ∃ iv T, x = .returned (.tuple #[rdV R iv, .bool b]) /\ T.map dropV = R.imgs /\ ImgsC w' iv T /\ (T = [] -> iv = .slice none 0 0) /\ PlT bs pb w' S /\ Sel bs pb w w'
theorem Blk.sel {bs pb : Nat} {w w' : World} {b t : Nat} {cs : List Value} (h : Blk w b t cs) (k : Sel bs pb w w') (h1 : t ≠ 111) (h2 : t ≠ 46) : Blk w' b t cs := k.typ _ _ _ _ h h1 h2
theorem own_ne_typ {w : World} {b e s n c t : Nat} {v : Value} {xs cs : List Value} (h : w.ownsRow b e s v n xs) (hb : Blk w c t cs) (ht : t ≠ e) : v.ownBlock ≠ some c := by
 rcases h.2 with ⟨h0, _⟩ | ⟨g, cap, cur, h0, _, hh, _⟩
 ·rw [h0]; exact fun h => by cases h
 ·rw [h0];intro e;have e9 : g = c := Option.some.inj e;subst e9;unfold Blk at hb;rw [hh] at hb;cases hb
  exact ht rfl
theorem rowS_typ {w w' : World} {b t e n : Nat} {v : Value} {xs cs : List Value} (h : RowS w e v n xs) (k : But b w w') (hb : Blk w b t cs) (ht : t ≠ e) : RowS w' e v n xs := by
 refine h.but k ?_;intro blk f hc;unfold Blk at hb;rw [hb] at hc;simp at hc;exact ht hc.2.1
theorem PlT.other {bs pb b t : Nat} {w w' : World} {S : Pl} {cs : List Value} (h : PlT bs pb w S) (k : But b w w') (hb : Blk w b t cs) (h1 : t ≠ 111) (h2 : t ≠ 46) (h3 : t ≠ 103) : PlT bs pb w' S := by
 obtain ⟨rv, ov, lv, hB, hP⟩ := h.tab;have hne : pb ≠ b := by
  rintro rfl;unfold Blk at hB hb;rw [hB] at hb;simp at hb;exact h1 hb.2.symm
 exact ⟨Nat.le_trans h.low k.size, rv, ov, lv, hB.but k hne, rowS_typ hP.rr k hb h2, owns_but hP.rows k (own_ne_typ hP.rows hb h2), ⟨rowS_typ hP.left.1 k hb h3, hP.left.2⟩, hP.none⟩
theorem Sel.other {bs pb b : Nat} {w w1 w' : World} (h : Sel bs pb w w1) (k : But b w1 w') (hb : w.heap.size <= b) (hl : bs <= w.heap.size) : Sel bs pb w w' :=
 ⟨k.os.trans h.os, k.tape.trans h.tape, k.output.trans h.output, Nat.le_trans h.size k.size, fun i hi hn => (k.block i (by have := h.size; omega) (by omega)).trans (h.low i hi hn),
  fun c blk t f hc n1 n2 => by
   have hlt := lt_of_block hc;rw [k.block c (by have := h.size; omega) (by omega)];exact h.typ c blk t f hc n1 n2,
  fun c blk f hc hn => by
   have hlt := lt_of_block hc;rw [k.block c (by have := h.size; omega) (by omega)]
   exact h.plans c blk f hc hn⟩
theorem st_zero {bs pb b : Nat} {S : Pl} {w w3 w4 : World} {cs : List Value} (hT : PlT bs pb w3 S) (hS : Sel bs pb w w3) (k : But b w3 w4) (hb : w.heap.size <= b) (hB : Blk w3 b 71 cs) (hl : bs <= w.heap.size) :
  StPost bs pb S noRd false w (.returned (.tuple #[rdV noRd (.slice none 0 0), .bool false])) w4 :=
 ⟨_, [], rfl, rfl, ImgsC.nil _, fun _ => rfl, hT.other k hB (by decide) (by decide) (by decide), hS.other k hb hl⟩
theorem vpr_new (v : Vw) (av rv iv : Value) (P : Pg) (jv : Value) (w_ w0 : World) (h : w0 = ((w_.alloc (.cells (vwCells v av rv iv).toArray 40)).alloc (.cells (pgCells P jv).toArray 28)).alloc (.cells zC.toArray 71)) :
  Grow w_ w0 /\ Blk w0 w_.heap.size 40 (vwCells v av rv iv) /\ Blk w0 (w_.heap.size + 1) 28 (pgCells P jv) /\ Blk w0 (w_.heap.size + 2) 71 zC := by
 refine ⟨?_, ?_, ?_, ?_⟩
 ·subst h; exact (((Grow.refl w_).alloc _).alloc _).alloc _
 ·have := ((Blk.new w_ 40 (vwCells v av rv iv)).alloc (.cells (pgCells P jv).toArray 28)).alloc (.cells zC.toArray 71);subst h; exact this
 ·have := (Blk.new (w_.alloc (.cells (vwCells v av rv iv).toArray 40)) 28 (pgCells P jv)).alloc (.cells zC.toArray 71);have e : (w_.alloc (.cells (vwCells v av rv iv).toArray 40)).heap.size = w_.heap.size + 1 := by simp
  rw [e] at this;subst h; exact this
 ·have := Blk.new ((w_.alloc (.cells (vwCells v av rv iv).toArray 40)).alloc (.cells (pgCells P jv).toArray 28)) 71 zC;have e : ((w_.alloc (.cells (vwCells v av rv iv).toArray 40)).alloc (.cells (pgCells P jv).toArray 28)).heap.size = w_.heap.size + 2 := by simp
  rw [e] at this;subst h; exact this
theorem upto_cat (k : List UInt8) : str (k ++ [0]) = str k ++ ⟨#[0]⟩ := by
 apply ByteArray.ext;simp [str]
attribute [local go_sem] givesV lookV knAt hgs
theorem gather_res (tm : Array Value) (w : World) (b : Nat) (g : Bool) (R : Rcd) (iv : Value) (h8 : tm.getD 8 undef = .pointer (some ⟨b, 0, none⟩)) (h9 : tm.getD 9 undef = .bool g) (hB : Blk w b 71 (rdC R iv)) :
  (results Tryz.f143 tm).run Tryz.prog w = .ok (.tuple #[rdV R iv, .bool g]) w := by
 unfold rdC at hB;obtain ⟨⟨s0_, s1_, s2_, s3_, s4_, s5_, s6_, s7_, s8_, s9_, s10_, s11_, s12_, s13_, s14_, s15_⟩, _⟩ := recres hB;simp only [Array.getD_eq_getD_getElem?] at h8 h9;simp [results, Tryz.results143, go_sem, h8, h9, s0_, s1_, s2_, s3_, s4_, s5_, s6_, s7_, s8_, s9_, s10_, s11_, s12_, s13_, s14_, s15_, rdV]
set_option maxRecDepth 100000 in
set_option maxHeartbeats 4000000 in
theorem gather_any (bs pb : Nat) (S : Pl) (v : Vw) (av rv iv : Value) (P : Pg) (jv fv : Value) (w_ : World) (h : PlT bs pb w_ S) (hv : VwIn w_ v av rv iv) (hin : PgIn w_ jv P) (hk : S.key.length <= 24) :
  Calls Tryz.prog 143 #[.pointer (some ⟨pb, 0, none⟩), vwV v av rv iv, pgV P jv, fv] w_ (StPost bs pb (S.gather P) noRd false w_) := by
 obtain ⟨w0, hw0⟩ : ∃ w0, w0 = ((w_.alloc (.cells (vwCells v av rv iv).toArray 40)).alloc (.cells (pgCells P jv).toArray 28)).alloc (.cells zC.toArray 71) := ⟨_, rfl⟩;obtain ⟨hg0, hV0, hP0, hR0⟩ := vpr_new v av rv iv P jv w_ w0 hw0;obtain ⟨iva, ivc, rfl⟩ := items_form hv.items;obtain ⟨rva, rvc, rfl, _⟩ := ints_form hv.run;obtain ⟨ava, avc, rfl, _⟩ := ints_form hv.act;obtain ⟨jva, jvc, rfl⟩ := items_form hin.1;have HT := keep h;have HG0 := keep hg0;have HV0 := keep hV0;have HP0 := keep hP0;have HR0 := keep hR0;have HIn := keep hin;have HVw := keep hv;obtain ⟨R, hR⟩ : ∃ R, S.gather P = R := ⟨_, rfl⟩;have hr : R = if entC P ≠ 0 then S.odd else { S with left := hitsL P S.key S.upto, right := if hitsM P S.upto then P.right else 0 }.next := by rw [<- hR]; rfl
 rw [hR];have hHi := fun (u : World) (hu : Grow w_ u) => hits_cap P _ S.key S.upto u (hin.fits hu)
 unfold HitsCap at hHi;have hC := ent_cases P;obtain ⟨up, hup⟩ : ∃ up, S.upto = up := ⟨_, rfl⟩;rw [hup] at hHi hr;obtain ⟨us, hus⟩ : ∃ us, str up = us := ⟨_, rfl⟩;rw [hus] at hHi;generalize hitsL P S.key up = L at *;generalize hitsM P up = M at *;generalize entC P = C at *;unfold pgV at hHi;obtain ⟨rv0, ov0, lv0, hB, -⟩ := (h.fits hg0).tab;have HBx := keep hB;have HHi := keep (fun (u : World) (hu : Grow w0 u) => hHi u (Grow.trans hg0 hu));have HPx := keep (fun (u : World) (hu : Grow w0 u) => pgres (hP0.fits hu));have HCx := keep (fun (u : World) (hu : Grow w0 u) => (hB.fits hu).cell 1 (by simp [plCells]));have HRR := keep hr;have hsc : S.call = 5 /\ us = str S.upk \/ S.call ≠ 5 /\ us = str S.key ++ ⟨#[0]⟩ := by
  rw [<- hus, <- hup];unfold Pl.upto
  by_cases h5 : S.call = 5
  ·exact .inl ⟨h5, by rw [if_neg (fun h => h h5)]⟩
  ·exact .inr ⟨h5, by rw [if_pos h5]; exact upto_cat _⟩
 have HC := keep (show C = 0 \/ C = 140 by rcases hC with ⟨h, _⟩ | ⟨h, _⟩ <;> simp [h]);have c0 := hB.cell 0 (by simp [plCells]);have c1 := hB.cell 1 (by simp [plCells]);have c2 := hB.cell 2 (by simp [plCells]);simp only [plCells, List.getElem_cons_zero, List.getElem_cons_succ] at c0 c1 c2;clear hup hus hR hr hHi hC h hg0 hV0 hP0 hR0 hB hv hin;unfold vwCells pgCells zC at hw0;unfold vwV pgV;go_enter Tryz.func143, Tryz.ntmps143;go_upto_region 1 with fail;rw [<- hw0];clear hw0;rcases hsc with ⟨h5, rfl⟩ | ⟨h5, rfl⟩
 ·have e5 : (S.call != 5) = false := by simp [h5]
  clear h5;go_upto_region 4 with fail;refine rgv 14 (by kernel_rfl) (by kernel_rfl) rfl rfl ?_;intro a0 ha0;have hsz : a0.tmps.size = 64 := (size_at ha0).trans rfl;have s0 := slot_at ha0 0 rfl;have s6 := slot_at ha0 6 rfl;have s10 := slot_at ha0 10 rfl;have HA0 := keep ha0;clear ha0;apply lxv hsz Grow.refl (by kernel_rfl) rfl
  ·intro xs w hw K hK;obtain ⟨p0, p1, p2, p3, p4, p5⟩ := HPx.out w (Grow.undrew hw);go_simp;exact hK
  iterate 4
   apply lxv hsz Grow.refl (by kernel_rfl) rfl
   ·intro xs w hw K hK;go_simp;exact hK
  apply lxv hsz Grow.refl (by kernel_rfl) rfl
  ·intro xs w hw K hK;have c1 := HCx.out w (Grow.undrew hw);go_simp;exact hK
  apply lxv hsz Grow.refl (by kernel_rfl) rfl
  ·intro xs w hw K hK;go_simp;exact hK
  refine lxs hsz (fun x u => ∃ a c, x = .tuple #[.slice a L.length c, .bool M, .int .i64 C] /\ EnsS u (.slice a L.length c) L /\ L.length <= c) (fun _ _ _ g ⟨a, c, h1, h2⟩ => ⟨a, c, h1, RowS.fits h2.1 g, h2.2⟩) [] (by kernel_rfl) rfl ?_ ?_
  ·intro xs w hw hp K hK;go_simp;exact (HHi.out w (Grow.undrew hw)).mono fun e w' h => (h.elim fun a h => h.elim fun c h => ⟨_, h.1, hK _ _ ⟨a, c, rfl, h.2.1⟩ h.2.2⟩)
  refine lxs hsz (fun x u => ∃ a c, x = .tuple #[.slice a L.length c, .bool M, .int .i64 C] /\ EnsS u (.slice a L.length c) L /\ L.length <= c) (fun _ _ _ g ⟨a, c, h1, h2⟩ => ⟨a, c, h1, RowS.fits h2.1 g, h2.2⟩) [(7, true)] (by kernel_rfl) rfl ?_ ?_
  ·intro xs w hw hp K hK;simp only [hzv] at hp;obtain ⟨a8, c8, h8, hes8⟩ := hp;go_simp;exact hK _ _ ⟨a8, c8, rfl, hes8⟩ (Grow.refl _)
  refine lxs hsz (fun x u => ∃ a c, x = .slice a L.length c /\ EnsS u (.slice a L.length c) L /\ L.length <= c) (fun _ _ _ g ⟨a, c, h1, h2⟩ => ⟨a, c, h1, RowS.fits h2.1 g, h2.2⟩) [(8, true)] (by kernel_rfl) rfl ?_ ?_
  ·intro xs w hw hp K hK;simp only [hzv] at hp;obtain ⟨a8, c8, h8, hes8⟩ := hp;go_simp;exact hK _ _ ⟨a8, c8, rfl, hes8⟩ (Grow.refl _)
  apply lxe hsz [(8, true)] (by kernel_rfl) rfl
  ·intro xs w hw hp K hK;simp only [hzv] at hp;obtain ⟨a8, c8, h8, hes8⟩ := hp;go_simp;exact hK _ (Grow.refl _)
  apply lxe hsz [(8, true)] (by kernel_rfl) rfl
  ·intro xs w hw hp K hK;simp only [hzv] at hp;obtain ⟨a8, c8, h8, hes8⟩ := hp;go_simp;exact hK _ (Grow.refl _)
  refine lxs hsz (fun x u => ∃ a c, x = .slice a L.length c /\ EnsS u (.slice a L.length c) L /\ L.length <= c) (fun _ _ _ g ⟨a, c, h1, h2⟩ => ⟨a, c, h1, RowS.fits h2.1 g, h2.2⟩) [(9, true)] (by kernel_rfl) rfl ?_ ?_
  ·intro xs w hw hp K hK;simp only [hzv] at hp;obtain ⟨a8, c8, h8, hes8⟩ := hp;go_simp;exact hK _ _ ⟨a8, c8, rfl, hes8⟩ (Grow.refl _)
  apply lxv hsz Grow.refl (by kernel_rfl) rfl
  ·intro xs w hw K hK;go_simp;exact hK
  refine rgd [(12, true)] (by kernel_rfl) rfl ?_;intro xs w hw hp;have ha0 := HA0.out;clear HA0 hsz s0 s6 s10;simp only [hzv] at hp;have h11 := hp;clear hp;subst ha0;simp only [putV];have hg := Grow.undrew hw;obtain ⟨ea, ec, h11, hes⟩ := h11;have HEs := keep hes;have HG := keep hg;simp only [h11];clear hw h11 hes hg c0 c1 c2;generalize w = w1 at *;have hT1 := HT.out.fits (Grow.trans HG0.out HG.out);have HT1 := keep hT1;obtain ⟨rv1, ov1, lv1, hB, hP⟩ := hT1.tab;have HBy := keep hB;have HPy := keep hP;have c17 := hB.cell 17 (by simp [plCells]);have c18 := hB.cell 18 (by simp [plCells]);simp only [plCells, List.getElem_cons_zero, List.getElem_cons_succ] at c17 c18;have z17 := hB.free 17;have z18 := hB.free 18;clear hT1 hB hP;rcases HC.out with rfl | rfl
  ·obtain ⟨p0, p1, p2, p3, p4, p5, _⟩ := HPx.out w1 HG.out;cases M with
   | true =>
    go_upto_region 11 with fail;obtain ⟨w2, hw2⟩ : ∃ w2, w2 = ((w1.setCell ⟨pb, 17, none⟩ (.slice ea L.length ec)).setCell ⟨pb, 18, none⟩ (.int .i64 0)).setCell ⟨pb, 18, none⟩ (.int .i64 P.right) := ⟨_, rfl⟩;rw [<- hw2];have hT2 : PlT bs pb w2 { S with left := L, right := P.right } /\ Sel bs pb w1 w2 := by
     have kk := (((But.refl pb w1).setCell 17 (.slice ea L.length ec)).setCell 18 (.int .i64 0)).setCell 18 (.int .i64 P.right);have hB' := ((HBy.out.set 17 (.slice ea L.length ec)).set 18 (.int .i64 0)).set 18 (.int .i64 P.right);have h2 := HPy.out.but kk HBy.out;subst hw2;exact ⟨⟨Nat.le_trans HT1.out.low kk.size, rv1, ov1, _, hB', ⟨h2.rr, h2.rows, ⟨rowS_typ HEs.out.1 kk HBy.out (by decide), HEs.out.2⟩, h2.none⟩⟩, Sel.but kk HBy.out (.inl ⟨rfl, rfl⟩) HT1.out.low⟩
    have hnx := plnext_any bs pb { S with left := L, right := P.right } w2 hT2.1;have HR2 := keep (show { S with left := L, right := P.right }.next = R by rw [HRR.out]; rfl);rw [HR2.out] at hnx;unfold PlPost at hnx;have HNx := keep hnx;have HSl2 := keep ((Sel.of_grow HT.out.low (Grow.trans HG0.out HG.out)).trans hT2.2);have HSl3 := keep ((Sel.of_grow (Nat.le_trans HT.out.low HG0.out.size) HG.out).trans hT2.2);clear hnx hT2 hw2 c17 c18 z17 z18 p0 p1 p2 p3 p4 p5;go_wp2_with fail;refine HNx.out.mono ?_;rintro x w3 ⟨rfl, h1, h2⟩;have HT3 := keep h1;have HSl4 := keep (HSl3.out.trans h2);have HSl5 := keep (HSl2.out.trans h2);clear h1 h2 HNx;have HRx := keep (HR0.out.sel HSl4.out (by decide) (by decide));unfold zC at HRx;go_wp2_with ((refine wpList_store_rec rfl _ _ rfl (w_.heap.size + 2) _ rfl rfl HRx.out rfl rfl rfl ?_); intro wz hset hbz; have Hset := keep hset; have Hbut := keep hbz; clear hset hbz);refine bodyPost_ret (v := .tuple #[rdV noRd (.slice none 0 0), .bool false]) ?_ rfl ?_
    ·exact gather_res _ _ _ _ noRd _ rfl rfl Hset.out
    ·exact st_zero HT3.out HSl5.out Hbut.out (by omega) HRx.out HT.out.low
   | false =>
    go_upto_region 11 with fail;obtain ⟨w2, hw2⟩ : ∃ w2, w2 = ((w1.setCell ⟨pb, 17, none⟩ (.slice ea L.length ec)).setCell ⟨pb, 18, none⟩ (.int .i64 0)) := ⟨_, rfl⟩;rw [<- hw2];have hT2 : PlT bs pb w2 { S with left := L, right := 0 } /\ Sel bs pb w1 w2 := by
     have kk := (((But.refl pb w1).setCell 17 (.slice ea L.length ec)).setCell 18 (.int .i64 0));have hB' := ((HBy.out.set 17 (.slice ea L.length ec)).set 18 (.int .i64 0));have h2 := HPy.out.but kk HBy.out;subst hw2;exact ⟨⟨Nat.le_trans HT1.out.low kk.size, rv1, ov1, _, hB', ⟨h2.rr, h2.rows, ⟨rowS_typ HEs.out.1 kk HBy.out (by decide), HEs.out.2⟩, h2.none⟩⟩, Sel.but kk HBy.out (.inl ⟨rfl, rfl⟩) HT1.out.low⟩
    have hnx := plnext_any bs pb { S with left := L, right := 0 } w2 hT2.1;have HR2 := keep (show { S with left := L, right := 0 }.next = R by rw [HRR.out]; rfl);rw [HR2.out] at hnx;unfold PlPost at hnx;have HNx := keep hnx;have HSl2 := keep ((Sel.of_grow HT.out.low (Grow.trans HG0.out HG.out)).trans hT2.2);have HSl3 := keep ((Sel.of_grow (Nat.le_trans HT.out.low HG0.out.size) HG.out).trans hT2.2);clear hnx hT2 hw2 c17 c18 z17 z18 p0 p1 p2 p3 p4 p5;go_wp2_with fail;refine HNx.out.mono ?_;rintro x w3 ⟨rfl, h1, h2⟩;have HT3 := keep h1;have HSl4 := keep (HSl3.out.trans h2);have HSl5 := keep (HSl2.out.trans h2);clear h1 h2 HNx;have HRx := keep (HR0.out.sel HSl4.out (by decide) (by decide));unfold zC at HRx;go_wp2_with ((refine wpList_store_rec rfl _ _ rfl (w_.heap.size + 2) _ rfl rfl HRx.out rfl rfl rfl ?_); intro wz hset hbz; have Hset := keep hset; have Hbut := keep hbz; clear hset hbz);refine bodyPost_ret (v := .tuple #[rdV noRd (.slice none 0 0), .bool false]) ?_ rfl ?_
    ·exact gather_res _ _ _ _ noRd _ rfl rfl Hset.out
    ·exact st_zero HT3.out HSl5.out Hbut.out (by omega) HRx.out HT.out.low
  ·have hod := odd_any bs pb S w1 HT1.out;have HR2 := keep (show S.odd = R by rw [HRR.out]; rfl);rw [HR2.out] at hod;unfold PlPost at hod;have HOd := keep hod;clear hod c17 c18 z17 z18;go_wp2_with fail;refine HOd.out.mono ?_;rintro x w3 ⟨rfl, h1, h2⟩;have HT3 := keep h1;have HSl4 := keep ((Sel.of_grow (Nat.le_trans HT.out.low HG0.out.size) HG.out).trans h2);have HSl5 := keep ((Sel.of_grow HT.out.low (Grow.trans HG0.out HG.out)).trans h2);clear h1 h2 HOd;have HRx := keep (HR0.out.sel HSl4.out (by decide) (by decide));unfold zC at HRx;go_wp2_with ((refine wpList_store_rec rfl _ _ rfl (w_.heap.size + 2) _ rfl rfl HRx.out rfl rfl rfl ?_); intro wz hset hbz; have Hset := keep hset; have Hbut := keep hbz; clear hset hbz);refine bodyPost_ret (v := .tuple #[rdV noRd (.slice none 0 0), .bool false]) ?_ rfl ?_
   ·exact gather_res _ _ _ _ noRd _ rfl rfl Hset.out
   ·exact st_zero HT3.out HSl5.out Hbut.out (by omega) HRx.out HT.out.low
 ·have e5 : (S.call != 5) = true := by simpa using h5
  have hkl : ¬9223372036854775807 < S.key.length + 1 := by omega
  clear h5;go_upto_region 4 with fail;refine rgv 14 (by kernel_rfl) (by kernel_rfl) rfl rfl ?_;intro a0 ha0;have hsz : a0.tmps.size = 64 := (size_at ha0).trans rfl;have s0 := slot_at ha0 0 rfl;have s6 := slot_at ha0 6 rfl;have s10 := slot_at ha0 10 rfl;have HA0 := keep ha0;clear ha0;apply lxv hsz Grow.refl (by kernel_rfl) rfl
  ·intro xs w hw K hK;obtain ⟨p0, p1, p2, p3, p4, p5⟩ := HPx.out w (Grow.undrew hw);go_simp;exact hK
  iterate 4
   apply lxv hsz Grow.refl (by kernel_rfl) rfl
   ·intro xs w hw K hK;go_simp;exact hK
  apply lxv hsz Grow.refl (by kernel_rfl) rfl
  ·intro xs w hw K hK;have c1 := HCx.out w (Grow.undrew hw);go_simp;exact hK
  apply lxv hsz Grow.refl (by kernel_rfl) rfl
  ·intro xs w hw K hK;go_simp;exact hK
  refine lxs hsz (fun x u => ∃ a c, x = .tuple #[.slice a L.length c, .bool M, .int .i64 C] /\ EnsS u (.slice a L.length c) L /\ L.length <= c) (fun _ _ _ g ⟨a, c, h1, h2⟩ => ⟨a, c, h1, RowS.fits h2.1 g, h2.2⟩) [] (by kernel_rfl) rfl ?_ ?_
  ·intro xs w hw hp K hK;go_simp;exact (HHi.out w (Grow.undrew hw)).mono fun e w' h => (h.elim fun a h => h.elim fun c h => ⟨_, h.1, hK _ _ ⟨a, c, rfl, h.2.1⟩ h.2.2⟩)
  refine lxs hsz (fun x u => ∃ a c, x = .tuple #[.slice a L.length c, .bool M, .int .i64 C] /\ EnsS u (.slice a L.length c) L /\ L.length <= c) (fun _ _ _ g ⟨a, c, h1, h2⟩ => ⟨a, c, h1, RowS.fits h2.1 g, h2.2⟩) [(7, true)] (by kernel_rfl) rfl ?_ ?_
  ·intro xs w hw hp K hK;simp only [hzv] at hp;obtain ⟨a8, c8, h8, hes8⟩ := hp;go_simp;exact hK _ _ ⟨a8, c8, rfl, hes8⟩ (Grow.refl _)
  refine lxs hsz (fun x u => ∃ a c, x = .slice a L.length c /\ EnsS u (.slice a L.length c) L /\ L.length <= c) (fun _ _ _ g ⟨a, c, h1, h2⟩ => ⟨a, c, h1, RowS.fits h2.1 g, h2.2⟩) [(8, true)] (by kernel_rfl) rfl ?_ ?_
  ·intro xs w hw hp K hK;simp only [hzv] at hp;obtain ⟨a8, c8, h8, hes8⟩ := hp;go_simp;exact hK _ _ ⟨a8, c8, rfl, hes8⟩ (Grow.refl _)
  apply lxe hsz [(8, true)] (by kernel_rfl) rfl
  ·intro xs w hw hp K hK;simp only [hzv] at hp;obtain ⟨a8, c8, h8, hes8⟩ := hp;go_simp;exact hK _ (Grow.refl _)
  apply lxe hsz [(8, true)] (by kernel_rfl) rfl
  ·intro xs w hw hp K hK;simp only [hzv] at hp;obtain ⟨a8, c8, h8, hes8⟩ := hp;go_simp;exact hK _ (Grow.refl _)
  refine lxs hsz (fun x u => ∃ a c, x = .slice a L.length c /\ EnsS u (.slice a L.length c) L /\ L.length <= c) (fun _ _ _ g ⟨a, c, h1, h2⟩ => ⟨a, c, h1, RowS.fits h2.1 g, h2.2⟩) [(9, true)] (by kernel_rfl) rfl ?_ ?_
  ·intro xs w hw hp K hK;simp only [hzv] at hp;obtain ⟨a8, c8, h8, hes8⟩ := hp;go_simp;exact hK _ _ ⟨a8, c8, rfl, hes8⟩ (Grow.refl _)
  apply lxv hsz Grow.refl (by kernel_rfl) rfl
  ·intro xs w hw K hK;go_simp;exact hK
  refine rgd [(12, true)] (by kernel_rfl) rfl ?_;intro xs w hw hp;have ha0 := HA0.out;clear HA0 hsz s0 s6 s10;simp only [hzv] at hp;have h11 := hp;clear hp;subst ha0;simp only [putV];have hg := Grow.undrew hw;obtain ⟨ea, ec, h11, hes⟩ := h11;have HEs := keep hes;have HG := keep hg;simp only [h11];clear hw h11 hes hg c0 c1 c2;generalize w = w1 at *;have hT1 := HT.out.fits (Grow.trans HG0.out HG.out);have HT1 := keep hT1;obtain ⟨rv1, ov1, lv1, hB, hP⟩ := hT1.tab;have HBy := keep hB;have HPy := keep hP;have c17 := hB.cell 17 (by simp [plCells]);have c18 := hB.cell 18 (by simp [plCells]);simp only [plCells, List.getElem_cons_zero, List.getElem_cons_succ] at c17 c18;have z17 := hB.free 17;have z18 := hB.free 18;clear hT1 hB hP;rcases HC.out with rfl | rfl
  ·obtain ⟨p0, p1, p2, p3, p4, p5, _⟩ := HPx.out w1 HG.out;cases M with
   | true =>
    go_upto_region 11 with fail;obtain ⟨w2, hw2⟩ : ∃ w2, w2 = ((w1.setCell ⟨pb, 17, none⟩ (.slice ea L.length ec)).setCell ⟨pb, 18, none⟩ (.int .i64 0)).setCell ⟨pb, 18, none⟩ (.int .i64 P.right) := ⟨_, rfl⟩;rw [<- hw2];have hT2 : PlT bs pb w2 { S with left := L, right := P.right } /\ Sel bs pb w1 w2 := by
     have kk := (((But.refl pb w1).setCell 17 (.slice ea L.length ec)).setCell 18 (.int .i64 0)).setCell 18 (.int .i64 P.right);have hB' := ((HBy.out.set 17 (.slice ea L.length ec)).set 18 (.int .i64 0)).set 18 (.int .i64 P.right);have h2 := HPy.out.but kk HBy.out;subst hw2;exact ⟨⟨Nat.le_trans HT1.out.low kk.size, rv1, ov1, _, hB', ⟨h2.rr, h2.rows, ⟨rowS_typ HEs.out.1 kk HBy.out (by decide), HEs.out.2⟩, h2.none⟩⟩, Sel.but kk HBy.out (.inl ⟨rfl, rfl⟩) HT1.out.low⟩
    have hnx := plnext_any bs pb { S with left := L, right := P.right } w2 hT2.1;have HR2 := keep (show { S with left := L, right := P.right }.next = R by rw [HRR.out]; rfl);rw [HR2.out] at hnx;unfold PlPost at hnx;have HNx := keep hnx;have HSl2 := keep ((Sel.of_grow HT.out.low (Grow.trans HG0.out HG.out)).trans hT2.2);have HSl3 := keep ((Sel.of_grow (Nat.le_trans HT.out.low HG0.out.size) HG.out).trans hT2.2);clear hnx hT2 hw2 c17 c18 z17 z18 p0 p1 p2 p3 p4 p5;go_wp2_with fail;refine HNx.out.mono ?_;rintro x w3 ⟨rfl, h1, h2⟩;have HT3 := keep h1;have HSl4 := keep (HSl3.out.trans h2);have HSl5 := keep (HSl2.out.trans h2);clear h1 h2 HNx;have HRx := keep (HR0.out.sel HSl4.out (by decide) (by decide));unfold zC at HRx;go_wp2_with ((refine wpList_store_rec rfl _ _ rfl (w_.heap.size + 2) _ rfl rfl HRx.out rfl rfl rfl ?_); intro wz hset hbz; have Hset := keep hset; have Hbut := keep hbz; clear hset hbz);refine bodyPost_ret (v := .tuple #[rdV noRd (.slice none 0 0), .bool false]) ?_ rfl ?_
    ·exact gather_res _ _ _ _ noRd _ rfl rfl Hset.out
    ·exact st_zero HT3.out HSl5.out Hbut.out (by omega) HRx.out HT.out.low
   | false =>
    go_upto_region 11 with fail;obtain ⟨w2, hw2⟩ : ∃ w2, w2 = ((w1.setCell ⟨pb, 17, none⟩ (.slice ea L.length ec)).setCell ⟨pb, 18, none⟩ (.int .i64 0)) := ⟨_, rfl⟩;rw [<- hw2];have hT2 : PlT bs pb w2 { S with left := L, right := 0 } /\ Sel bs pb w1 w2 := by
     have kk := (((But.refl pb w1).setCell 17 (.slice ea L.length ec)).setCell 18 (.int .i64 0));have hB' := ((HBy.out.set 17 (.slice ea L.length ec)).set 18 (.int .i64 0));have h2 := HPy.out.but kk HBy.out;subst hw2;exact ⟨⟨Nat.le_trans HT1.out.low kk.size, rv1, ov1, _, hB', ⟨h2.rr, h2.rows, ⟨rowS_typ HEs.out.1 kk HBy.out (by decide), HEs.out.2⟩, h2.none⟩⟩, Sel.but kk HBy.out (.inl ⟨rfl, rfl⟩) HT1.out.low⟩
    have hnx := plnext_any bs pb { S with left := L, right := 0 } w2 hT2.1;have HR2 := keep (show { S with left := L, right := 0 }.next = R by rw [HRR.out]; rfl);rw [HR2.out] at hnx;unfold PlPost at hnx;have HNx := keep hnx;have HSl2 := keep ((Sel.of_grow HT.out.low (Grow.trans HG0.out HG.out)).trans hT2.2);have HSl3 := keep ((Sel.of_grow (Nat.le_trans HT.out.low HG0.out.size) HG.out).trans hT2.2);clear hnx hT2 hw2 c17 c18 z17 z18 p0 p1 p2 p3 p4 p5;go_wp2_with fail;refine HNx.out.mono ?_;rintro x w3 ⟨rfl, h1, h2⟩;have HT3 := keep h1;have HSl4 := keep (HSl3.out.trans h2);have HSl5 := keep (HSl2.out.trans h2);clear h1 h2 HNx;have HRx := keep (HR0.out.sel HSl4.out (by decide) (by decide));unfold zC at HRx;go_wp2_with ((refine wpList_store_rec rfl _ _ rfl (w_.heap.size + 2) _ rfl rfl HRx.out rfl rfl rfl ?_); intro wz hset hbz; have Hset := keep hset; have Hbut := keep hbz; clear hset hbz);refine bodyPost_ret (v := .tuple #[rdV noRd (.slice none 0 0), .bool false]) ?_ rfl ?_
    ·exact gather_res _ _ _ _ noRd _ rfl rfl Hset.out
    ·exact st_zero HT3.out HSl5.out Hbut.out (by omega) HRx.out HT.out.low
  ·have hod := odd_any bs pb S w1 HT1.out;have HR2 := keep (show S.odd = R by rw [HRR.out]; rfl);rw [HR2.out] at hod;unfold PlPost at hod;have HOd := keep hod;clear hod c17 c18 z17 z18;go_wp2_with fail;refine HOd.out.mono ?_;rintro x w3 ⟨rfl, h1, h2⟩;have HT3 := keep h1;have HSl4 := keep ((Sel.of_grow (Nat.le_trans HT.out.low HG0.out.size) HG.out).trans h2);have HSl5 := keep ((Sel.of_grow HT.out.low (Grow.trans HG0.out HG.out)).trans h2);clear h1 h2 HOd;have HRx := keep (HR0.out.sel HSl4.out (by decide) (by decide));unfold zC at HRx;go_wp2_with ((refine wpList_store_rec rfl _ _ rfl (w_.heap.size + 2) _ rfl rfl HRx.out rfl rfl rfl ?_); intro wz hset hbz; have Hset := keep hset; have Hbut := keep hbz; clear hset hbz);refine bodyPost_ret (v := .tuple #[rdV noRd (.slice none 0 0), .bool false]) ?_ rfl ?_
   ·exact gather_res _ _ _ _ noRd _ rfl rfl Hset.out
   ·exact st_zero HT3.out HSl5.out Hbut.out (by omega) HRx.out HT.out.low
end Go.Proofs.YtcdapdcablnhpaaGreat
namespace Go.Proofs.YtcdapdcablnhpaaGreat
open Go.RowKit
theorem descend_res (tm : Array Value) (w : World) (b : Nat) (g : Bool) (R : Rcd) (iv : Value) (h8 : tm.getD 8 undef = .pointer (some ⟨b, 0, none⟩)) (h9 : tm.getD 9 undef = .bool g) (hB : Blk w b 71 (rdC R iv)) :
  (results Tryz.f92 tm).run Tryz.prog w = .ok (.tuple #[rdV R iv, .bool g]) w := by
 unfold rdC at hB;obtain ⟨⟨s0_, s1_, s2_, s3_, s4_, s5_, s6_, s7_, s8_, s9_, s10_, s11_, s12_, s13_, s14_, s15_⟩, _⟩ := recres hB;simp only [Array.getD_eq_getD_getElem?] at h8 h9;simp [results, Tryz.results92, go_sem, h8, h9, s0_, s1_, s2_, s3_, s4_, s5_, s6_, s7_, s8_, s9_, s10_, s11_, s12_, s13_, s14_, s15_, rdV]
def PgK (bs pb : Nat) (w : World) (jv : Value) (P : Pg) : Prop := ∀ w', Sel bs pb w w' -> PgIn w' jv P
def VwK (bs pb : Nat) (w : World) (v : Vw) (av rv iv : Value) : Prop := ∀ w', Sel bs pb w w' -> VwIn w' v av rv iv
theorem PgK.sel {bs pb : Nat} {w w' : World} {jv : Value} {P : Pg} (h : PgK bs pb w jv P) (k : Sel bs pb w w') : PgK bs pb w' jv P := fun u hu => h u (k.trans hu)
theorem VwK.sel {bs pb : Nat} {w w' : World} {v : Vw} {av rv iv : Value} (h : VwK bs pb w v av rv iv) (k : Sel bs pb w w') : VwK bs pb w' v av rv iv := fun u hu => h u (k.trans hu)
theorem way_key (S : Pl) (P : Pg) (l : Int) (e : En) : (S.way P l e).1.key = S.key := by
 unfold Pl.way Pl.odd Pl.fin
 split
 ·rfl
 ·split <;> rfl
set_option maxRecDepth 100000 in
set_option maxHeartbeats 4000000 in
theorem descend_any (bs pb : Nat) (S : Pl) (v : Vw) (av rv iv : Value) (P : Pg) (jv fv : Value) (w_ : World) (h : PlT bs pb w_ S) (hvk : VwK bs pb w_ v av rv iv) (hpk : PgK bs pb w_ jv P) (hk : S.key.length <= 24) (hs : 0 <= S.seen /\ S.seen <= 4096) :
  Calls Tryz.prog 92 #[.pointer (some ⟨pb, 0, none⟩), vwV v av rv iv, pgV P jv, fv] w_ (StPost bs pb (S.descend P) noRd false w_) := by
 have hin := hpk w_ (Sel.refl _ _ _);have hv := hvk w_ (Sel.refl _ _ _);obtain ⟨w0, hw0⟩ : ∃ w0, w0 = ((w_.alloc (.cells (vwCells v av rv iv).toArray 40)).alloc (.cells (pgCells P jv).toArray 28)).alloc (.cells zC.toArray 71) := ⟨_, rfl⟩;obtain ⟨hg0, hV0, hP0, hR0⟩ := vpr_new v av rv iv P jv w_ w0 hw0;obtain ⟨iva, ivc, rfl⟩ := items_form hv.items;obtain ⟨rva, rvc, rfl, _⟩ := ints_form hv.run;obtain ⟨ava, avc, rfl, _⟩ := ints_form hv.act;obtain ⟨jva, jvc, rfl⟩ := items_form hin.1;have HT := keep h;have HG0 := keep hg0;have HV0 := keep hV0;have HP0 := keep hP0;have HR0 := keep hR0;have HIn := keep hin;have HVw := keep hv;have HVK := keep hvk;have HPK := keep hpk;have hw := plway_any bs pb S P (.slice jva P.items.length jvc) 0 (S.begins, 0, 0) w0 (h.fits hg0) (hin.fits hg0) hs;have hr : S.descend P = if (S.way P 0 (S.begins, 0, 0)).2 then (S.way P 0 (S.begins, 0, 0)).1.gather P else (S.way P 0 (S.begins, 0, 0)).1 := rfl
 obtain ⟨R, hR⟩ : ∃ R, S.descend P = R := ⟨_, rfl⟩;rw [hR] at hr ⊢;have hk1 := (way_key S P 0 (S.begins, 0, 0)).symm ▸ hk;generalize S.way P 0 (S.begins, 0, 0) = X at *;obtain ⟨X1, X2⟩ := X;have HK1 := keep hk1;dsimp only at hw hr;unfold WyPost enV pgV at hw;dsimp only at hw;have HRR := keep hr;obtain ⟨rv0, ov0, lv0, hB, -⟩ := (h.fits hg0).tab;have hb2 : S.key = [] /\ S.begins = [0] \/ S.key ≠ [] /\ S.begins = S.key := by
  unfold Pl.begins
  by_cases h0 : S.key = []
  ·exact .inl ⟨h0, by rw [if_pos h0]⟩
  ·exact .inr ⟨h0, by rw [if_neg h0]⟩
 have c1 := hB.cell 1 (by simp [plCells]);simp only [plCells, List.getElem_cons_zero, List.getElem_cons_succ] at c1;unfold pgCells at hP0;unfold vwCells at hV0;obtain ⟨p0, p1, p2, p3, p4, p5, _⟩ := pgres hP0;clear hR hr h hg0 hV0 hP0 hR0 hB hv hin hs hk hvk hpk hk1;unfold vwCells pgCells zC at hw0;unfold vwV pgV;go_enter Tryz.func92, Tryz.ntmps92;go_upto_region 1 with fail;rw [<- hw0];clear hw0;rcases hb2 with ⟨h5, h6⟩ | ⟨h5, h6⟩
 ·rw [h5, str_nilS] at c1;rw [h6, show str [0] = ⟨#[0]⟩ from rfl] at hw;have HW := keep hw;clear hw h5 h6;go_upto_region 4 with fail;go_wp2_with fail;refine HW.out.mono ?_;rintro x w1 ⟨rfl, h1, h2⟩;have HT1 := keep h1;have HSl := keep h2;have HSl0 := keep ((Sel.of_grow HT.out.low HG0.out).trans h2);clear h1 h2 HW;cases X2 with
  | true =>
   have hV1 := HV0.out.sel HSl.out (by decide) (by decide);have hP1 := HP0.out.sel HSl.out (by decide) (by decide);have hgt := gather_any bs pb X1 v (.slice ava v.active.length avc) (.slice rva v.running.length rvc) (.slice iva v.clog.items.length ivc) P (.slice jva P.items.length jvc) (.slice none 0 0) w1 HT1.out (HVK.out w1 HSl0.out) (HPK.out w1 HSl0.out) HK1.out;unfold vwCells at hV1;unfold pgCells at hP1;obtain ⟨q0, q1, q2, q3, q4, q5, q6, q7, q8, q9, q10⟩ := vwres hV1;obtain ⟨p0, p1, p2, p3, p4, p5, _⟩ := pgres hP1;unfold StPost vwV pgV at hgt;have HGt := keep hgt;have HR2 := keep (show X1.gather P = R by rw [HRR.out]; rfl);rw [HR2.out] at HGt;clear hgt hV1 hP1 c1;go_wp2_with fail;refine HGt.out.mono ?_;rintro x w2 ⟨riv, rT, rfl, _, _, hri, h1, h2⟩;have HT2 := keep h1;have HSl2 := keep (HSl.out.trans h2);have HSl3 := keep (HSl0.out.trans h2);clear h1 h2 HGt hri p0 p1 p2 p3 p4 p5 q0 q1 q2 q3 q4 q5 q6 q7 q8 q9 q10;have HRx := keep (HR0.out.sel HSl2.out (by decide) (by decide));unfold zC at HRx;go_wp2_with ((refine wpList_store_rec rfl _ _ rfl (w_.heap.size + 2) _ rfl rfl HRx.out rfl rfl rfl ?_); intro wz hset hbz; have Hset := keep hset; have Hbut := keep hbz; clear hset hbz);refine bodyPost_ret (v := .tuple #[rdV noRd (.slice none 0 0), .bool false]) ?_ rfl ?_
   ·exact descend_res _ _ _ _ noRd _ rfl rfl Hset.out
   ·exact st_zero HT2.out HSl3.out Hbut.out (by omega) HRx.out HT.out.low
  | false =>
   have HR2 := keep (show X1 = R by rw [HRR.out]; rfl);clear c1;have HRx := keep (HR0.out.sel HSl.out (by decide) (by decide));unfold zC at HRx;go_wp2_with ((refine wpList_store_rec rfl _ _ rfl (w_.heap.size + 2) _ rfl rfl HRx.out rfl rfl rfl ?_); intro wz hset hbz; have Hset := keep hset; have Hbut := keep hbz; clear hset hbz);refine bodyPost_ret (v := .tuple #[rdV noRd (.slice none 0 0), .bool false]) ?_ rfl ?_
   ·exact descend_res _ _ _ _ noRd _ rfl rfl Hset.out
   ·exact st_zero (by rw [<- HR2.out]; exact HT1.out) HSl0.out Hbut.out (by omega) HRx.out HT.out.low
 ·rw [h6] at hw;have e5 : (str S.key).toList.isEmpty = false := by rw [str_list]; cases hkk : S.key with
   | nil => exact absurd hkk h5
   | cons => rfl
  have HW := keep hw;clear hw h5 h6;go_upto_region 4 with fail;go_wp2_with fail;refine HW.out.mono ?_;rintro x w1 ⟨rfl, h1, h2⟩;have HT1 := keep h1;have HSl := keep h2;have HSl0 := keep ((Sel.of_grow HT.out.low HG0.out).trans h2);clear h1 h2 HW;cases X2 with
  | true =>
   have hV1 := HV0.out.sel HSl.out (by decide) (by decide);have hP1 := HP0.out.sel HSl.out (by decide) (by decide);have hgt := gather_any bs pb X1 v (.slice ava v.active.length avc) (.slice rva v.running.length rvc) (.slice iva v.clog.items.length ivc) P (.slice jva P.items.length jvc) (.slice none 0 0) w1 HT1.out (HVK.out w1 HSl0.out) (HPK.out w1 HSl0.out) HK1.out;unfold vwCells at hV1;unfold pgCells at hP1;obtain ⟨q0, q1, q2, q3, q4, q5, q6, q7, q8, q9, q10⟩ := vwres hV1;obtain ⟨p0, p1, p2, p3, p4, p5, _⟩ := pgres hP1;unfold StPost vwV pgV at hgt;have HGt := keep hgt;have HR2 := keep (show X1.gather P = R by rw [HRR.out]; rfl);rw [HR2.out] at HGt;clear hgt hV1 hP1 c1;go_wp2_with fail;refine HGt.out.mono ?_;rintro x w2 ⟨riv, rT, rfl, _, _, hri, h1, h2⟩;have HT2 := keep h1;have HSl2 := keep (HSl.out.trans h2);have HSl3 := keep (HSl0.out.trans h2);clear h1 h2 HGt hri p0 p1 p2 p3 p4 p5 q0 q1 q2 q3 q4 q5 q6 q7 q8 q9 q10;have HRx := keep (HR0.out.sel HSl2.out (by decide) (by decide));unfold zC at HRx;go_wp2_with ((refine wpList_store_rec rfl _ _ rfl (w_.heap.size + 2) _ rfl rfl HRx.out rfl rfl rfl ?_); intro wz hset hbz; have Hset := keep hset; have Hbut := keep hbz; clear hset hbz);refine bodyPost_ret (v := .tuple #[rdV noRd (.slice none 0 0), .bool false]) ?_ rfl ?_
   ·exact descend_res _ _ _ _ noRd _ rfl rfl Hset.out
   ·exact st_zero HT2.out HSl3.out Hbut.out (by omega) HRx.out HT.out.low
  | false =>
   have HR2 := keep (show X1 = R by rw [HRR.out]; rfl);clear c1;have HRx := keep (HR0.out.sel HSl.out (by decide) (by decide));unfold zC at HRx;go_wp2_with ((refine wpList_store_rec rfl _ _ rfl (w_.heap.size + 2) _ rfl rfl HRx.out rfl rfl rfl ?_); intro wz hset hbz; have Hset := keep hset; have Hbut := keep hbz; clear hset hbz);refine bodyPost_ret (v := .tuple #[rdV noRd (.slice none 0 0), .bool false]) ?_ rfl ?_
   ·exact descend_res _ _ _ _ noRd _ rfl rfl Hset.out
   ·exact st_zero (by rw [<- HR2.out]; exact HT1.out) HSl0.out Hbut.out (by omega) HRx.out HT.out.low
theorem infoRowR : (Tryz.prog.info? 46).map (fun i => (i.zero, i.size, i.bytes)) = some (some (.agg #[.string ⟨#[]⟩, .string ⟨#[]⟩]), 2, 32) := by kernel_rfl
theorem rapp_run (ty : TypeId) (B : Nat) (xs : List Rw) (x : Rw) (v0 : Value) (ad : Addr) (c : Nat) (w : World) (h0 : OwnR B w v0 xs) (hn : ∀ j u, (rwC x)[j]? = some u -> w.cell? (ad.add j) = some u) (hb : xs.length <= 1000) (hB : B <= w.heap.size) :
  ∃ v' w', (Builtin.append_ #[41, 41] ty #[v0, .slice (some ad) 1 c]).run Tryz.prog w = .ok v' w' /\ OwnR B w' v' (xs ++ [x]) /\ w.grownBy w' v0.ownBlock := by
 obtain ⟨iR, hiR, hzR0, hzR1, hzR2⟩ := info_parts infoRowR;obtain ⟨v', w', hr, h1, h2, _⟩ := run_append_own_at (P := Tryz.prog) w B 41 ty 46 iR _ 2 32 Tryz.underlying41 hiR hzR0 hzR1 hzR2 rfl (by decide) v0 xs.length (rwCells xs) h0 ad 1 c (rwC x) rfl hn (fun u hu => by simp [rwC] at hu; rcases hu with rfl | rfl <;> rfl) (by unfold maxLen; omega) (by omega) hB;refine ⟨v', w', hr, ?_, h2⟩;unfold OwnR;rw [rwCells_append, List.length_append, show rwCells [x] = rwC x by simp [rwCells]];exact h1
theorem owns_less {w : World} {B g cap n m : Nat} {xs ys : List Rw} (h : w.ownsRow B 46 2 (.slice (some ⟨g, 0, none⟩) m cap) m (rwCells (xs ++ ys))) (hn : n = xs.length) : w.ownsRow B 46 2 (.slice (some ⟨g, 0, none⟩) n cap) n (rwCells xs) := by
 subst hn;have hl := h.1;rw [rwCells_length, List.length_append] at hl;refine ⟨by rw [rwCells_length]; omega, .inr ?_⟩;rcases h.2 with ⟨h1, _⟩ | ⟨g', cap', cur, h1, h2, h3, h4, h5, h6, h7⟩
 ·cases h1
 ·simp only [Value.slice.injEq, Option.some.injEq, Addr.mk.injEq, and_true, true_and] at h1;obtain ⟨rfl, rfl⟩ := h1;refine ⟨g, cap, cur, rfl, h2, h3, by omega, h5, h6, ?_⟩;have h8 := congrArg (List.take (xs.length * 2)) h7;rw [List.take_take, Nat.min_eq_left (by omega), rwCells_append, List.take_left' (by rw [rwCells_length]; omega)] at h8;exact h8
theorem rapp_keeps (ty : TypeId) (B : Nat) (xs : List Rw) (x : Rw) (v0 : Value) (ad : Addr) (c : Nat) (w : World) (h0 : OwnR B w v0 xs) (hn : ∀ j u, (rwC x)[j]? = some u -> w.cell? (ad.add j) = some u) (hb : xs.length <= 1000) (hB : B <= w.heap.size) :
  ∃ v' w', (Builtin.append_ #[41, 41] ty #[v0, .slice (some ad) 1 c]).run Tryz.prog w = .ok v' w' /\ OwnR B w' v' (xs ++ [x]) /\ w.grownBy w' v0.ownBlock /\ OwnR B w' v0 xs := by
 obtain ⟨v', w', hr, h1, h2⟩ := rapp_run ty B xs x v0 ad c w h0 hn hb hB;refine ⟨v', w', hr, h1, h2, ?_⟩;have hcell : rwCells [x] = rwC x := by simp [rwCells]
 rcases h0.2 with ⟨rfl, h3⟩ | ⟨g, cap, cur, rfl, hbg, hg, hnc, hcm, hcs, htake⟩
 ·have hx : xs = [] := List.eq_nil_of_length_eq_zero h3;subst hx;exact World.ownsRow_nil _ _ _ _
 ·obtain ⟨iR, hiR, hzR0, hzR1, hzR2⟩ := info_parts infoRowR
  by_cases hroom : xs.length + 1 <= cap
  ·obtain ⟨w9, hr9, h9, _⟩ := run_append_fits (P := Tryz.prog) (w := w) B 41 ty 46 iR 2 Tryz.underlying41 hiR hzR1 g xs.length cap (rwCells xs) h0 ad 1 c (rwC x) rfl hn (fun u hu => by simp [rwC] at hu; rcases hu with rfl | rfl <;> rfl) hroom;rw [hr] at hr9;simp only [Result.ok.injEq] at hr9;obtain ⟨rfl, rfl⟩ := hr9;rw [<- hcell, <- rwCells_append] at h9;exact owns_less h9 rfl
  ·have hr9 := run_append_grow (P := Tryz.prog) w 41 ty 46 iR _ Tryz.underlying41 hiR hzR0 ⟨g, 0, none⟩ xs.length cap (rwCells xs) (by rw [hzR1, rwCells_length]; omega) (h0.cells (g := g) rfl) ad 1 c (rwC x) (by rw [hzR1]; rfl) hn (by omega) (by omega) (growslice_fits (by omega) (by rw [hzR2]; omega));rw [hr] at hr9;simp only [Result.ok.injEq] at hr9;obtain ⟨rfl, rfl⟩ := hr9;exact owns_fits h0 (Grow.alloc (Grow.refl w.drew).undrew _)
def RwF (B : Nat) (u v : World) : Prop := u.heap.size <= v.heap.size /\ (B <= u.heap.size -> v.os = u.os /\ v.tape = u.tape /\ v.output = u.output /\ (∀ k, k < B -> v.heap[k]? = u.heap[k]?) /\ ∀ (c : Nat) (blk : Array Value) (t : Nat) (f : Nat × Nat), u.heap[c]? = some (.cells blk t f) -> t ≠ 46 -> v.heap[c]? = some (.cells blk t f))
theorem RwF.refl (B : Nat) (u : World) : RwF B u u := ⟨Nat.le_refl _, fun _ => ⟨rfl, rfl, rfl, fun _ _ => rfl, fun _ _ _ _ h _ => h⟩⟩
theorem RwF.grow {B : Nat} {u v : World} (h : Grow u v) : RwF B u v := ⟨h.size, fun hN => ⟨h.os, h.tape, h.output, fun k hk => h.block k (by omega), fun c blk t f hc _ => by rw [h.block c (lt_of_block hc)]; exact hc⟩⟩
theorem RwF.trans {B : Nat} {u v w : World} (h : RwF B u v) (k : RwF B v w) : RwF B u w := ⟨Nat.le_trans h.1 k.1, fun hN => by
 obtain ⟨a1, a2, a3, a4, a5⟩ := h.2 hN;obtain ⟨b1, b2, b3, b4, b5⟩ := k.2 (Nat.le_trans hN h.1)
 exact ⟨b1.trans a1, b2.trans a2, b3.trans a3, fun i hi => (b4 i hi).trans (a4 i hi), fun c blk t f hc hn => b5 c blk t f (a5 c blk t f hc hn) hn⟩⟩
theorem RwF.undrew {B : Nat} {u v : World} (h : RwF B u.drew v) : RwF B u v := h
theorem RwF.app {B : Nat} {w w' : World} {v0 : Value} {xs : List Rw} (h0 : OwnR B w v0 xs) (g : w.grownBy w' v0.ownBlock) : RwF B w w' :=
 ⟨g.size, fun hN => ⟨g.os, g.tape, g.output, fun k hk => g.block k (by omega) (fun e => by have := (h0.lt _ e.symm).1; omega), fun c blk t f hc hn => by
  have hlt := lt_of_block hc;have hne : v0.ownBlock ≠ some c := by
   intro e;rcases h0.2 with ⟨h1, _⟩ | ⟨g', cap, cur, h1, _, hh, _⟩
   ·rw [h1] at e; cases e
   ·rw [h1] at e;have e9 : g' = c := Option.some.inj e;subst e9;rw [hh] at hc;simp at hc;exact hn hc.2.1.symm
  rw [g.block c hlt (Ne.symm hne)]
  exact hc⟩⟩
theorem RwF.sel {bs pb : Nat} {u v : World} (h : RwF bs u v) (hb : bs <= u.heap.size) : Sel bs pb u v := by
 obtain ⟨a1, a2, a3, a4, a5⟩ := h.2 hb;exact ⟨a1, a2, a3, h.1, fun k hk _ => a4 k hk, fun c blk t f hc _ h2 => a5 c blk t f hc h2, fun c blk f hc _ => a5 c blk _ f hc (by decide)⟩
theorem Blk.rwf {B : Nat} {u v : World} {b t : Nat} {cs : List Value} (h : Blk u b t cs) (k : RwF B u v) (hb : B <= u.heap.size) (ht : t ≠ 46) : Blk v b t cs := (k.2 hb).2.2.2.2 _ _ _ _ h ht
theorem rowS_rwf {B e n : Nat} {u v : World} {x : Value} {cs : List Value} (h : RowS u e x n cs) (k : RwF B u v) (hb : B <= u.heap.size) (he : e ≠ 46) : RowS v e x n cs := by
 rcases h with h | ⟨c, off, cap, blk, f, h1, h2, h3⟩
 ·exact .inl h
 ·exact .inr ⟨c, off, cap, blk, f, h1, (k.2 hb).2.2.2.2 _ _ _ _ h2 he, h3⟩
theorem rowS_none {e : Nat} {u v : World} {x : Value} (h : RowS u e x ([] : List Rw).length (rwCells [])) : RowS v e x ([] : List Rw).length (rwCells []) := by
 rcases h with h | ⟨c, off, cap, blk, f, h1, h2, h3⟩
 ·exact .inl h
 ·exact .inl ⟨rfl, rfl, _, _, h1⟩
def RwG (B : Nat) (v0 : Value) (xs : List Rw) (u v : World) : Prop := RwF B u v /\ (OwnR B u v0 xs -> OwnR B v v0 xs)
theorem RwG.refl (B : Nat) (v0 : Value) (xs : List Rw) (u : World) : RwG B v0 xs u u := ⟨RwF.refl _ _, id⟩
theorem RwG.grow {B : Nat} {v0 : Value} {xs : List Rw} {u v : World} (h : Grow u v) : RwG B v0 xs u v := ⟨RwF.grow h, fun k => owns_fits k h⟩
theorem RwG.trans {B : Nat} {v0 : Value} {xs : List Rw} {u v w : World} (h : RwG B v0 xs u v) (k : RwG B v0 xs v w) : RwG B v0 xs u w := ⟨h.1.trans k.1, fun x => k.2 (h.2 x)⟩
theorem RwG.undrew {B : Nat} {v0 : Value} {xs : List Rw} {u v : World} (h : RwG B v0 xs u.drew v) : RwG B v0 xs u v := h
theorem row_cells {w : World} {b t : Nat} {cs : List Value} (h : Blk w b t cs) : ∀ j u, cs[j]? = some u -> w.cell? ((⟨b, 0, none⟩ : Addr).add j) = some u := by
 intro j u hj;obtain ⟨hj2, rfl⟩ := List.getElem?_eq_some_iff.1 hj;have h2 := h.cell j hj2;unfold Addr.add
 split
 ·rename_i h0
  have h9 : j = 0 := by simpa using h0
  subst h9;exact h2
 ·simpa using h2
attribute [local go_sem] hgs
theorem inspect_res (tm : Array Value) (w : World) (b : Nat) (g : Bool) (R : Rcd) (iv : Value) (h8 : tm.getD 8 undef = .pointer (some ⟨b, 0, none⟩)) (h9 : tm.getD 9 undef = .bool g) (hB : Blk w b 71 (rdC R iv)) :
  (results Tryz.f222 tm).run Tryz.prog w = .ok (.tuple #[rdV R iv, .bool g]) w := by
 unfold rdC at hB;obtain ⟨⟨s0_, s1_, s2_, s3_, s4_, s5_, s6_, s7_, s8_, s9_, s10_, s11_, s12_, s13_, s14_, s15_⟩, _⟩ := recres hB;simp only [Array.getD_eq_getD_getElem?] at h8 h9;simp [results, Tryz.results222, go_sem, h8, h9, s0_, s1_, s2_, s3_, s4_, s5_, s6_, s7_, s8_, s9_, s10_, s11_, s12_, s13_, s14_, s15_, rdV]
theorem inspect_cons {S : Pl} {v : Vw} {P : Pg} {e : En} {l : List En} (h : S.left = e :: l) : S.inspect v P =
  if ((lookS P e.2.2 e.1).2 && S.writes) && newerB v (lookS P e.2.2 e.1).1 then { S with left := l }.fin 180 false [] []
  else if ((lookS P e.2.2 e.1).2 && visB v (lookS P e.2.2 e.1).1) = false then { S with left := l }.next
  else if S.writes then { S with left := l, hit := true, one := e }.next
  else if S.call = 2 then { S with left := l }.fin 0 true (lookS P e.2.2 e.1).1.val []
  else if ((S.rows ++ [((lookS P e.2.2 e.1).1.key, (lookS P e.2.2 e.1).1.val)]).length : Int) = S.n then { S with left := l, rows := S.rows ++ [((lookS P e.2.2 e.1).1.key, (lookS P e.2.2 e.1).1.val)] }.fin 0 false [] (S.rows ++ [((lookS P e.2.2 e.1).1.key, (lookS P e.2.2 e.1).1.val)])
  else { S with left := l, rows := S.rows ++ [((lookS P e.2.2 e.1).1.key, (lookS P e.2.2 e.1).1.val)] }.next := by
 unfold Pl.inspect;rw [h]
set_option maxRecDepth 100000 in
set_option maxHeartbeats 16000000 in
theorem inspect_any (bs pb : Nat) (S : Pl) (v : Vw) (av rv iv : Value) (P : Pg) (jv fv : Value) (e : En) (l : List En) (w_ : World) (h : PlT bs pb w_ S) (hvk : VwK bs pb w_ v av rv iv) (hpk : PgK bs pb w_ jv P) (hl : S.left = e :: l) (hrr : S.rr = []) (hro : S.rows.length <= 100) :
  Calls Tryz.prog 222 #[.pointer (some ⟨pb, 0, none⟩), vwV v av rv iv, pgV P jv, fv] w_ (StPost bs pb (S.inspect v P) noRd false w_) := by
 have hin := hpk w_ (Sel.refl _ _ _);have hv := hvk w_ (Sel.refl _ _ _);obtain ⟨w0, hw0⟩ : ∃ w0, w0 = ((w_.alloc (.cells (vwCells v av rv iv).toArray 40)).alloc (.cells (pgCells P jv).toArray 28)).alloc (.cells zC.toArray 71) := ⟨_, rfl⟩;obtain ⟨hg0, hV0, hP0, hR0⟩ := vpr_new v av rv iv P jv w_ w0 hw0;obtain ⟨iva, ivc, rfl⟩ := items_form hv.items;obtain ⟨rva, rvc, rfl, _⟩ := ints_form hv.run;obtain ⟨ava, avc, rfl, _⟩ := ints_form hv.act;obtain ⟨jva, jvc, rfl⟩ := items_form hin.1;have HT := keep h;have HG0 := keep hg0;have HV0 := keep hV0;have HP0 := keep hP0;have HR0 := keep hR0;have HIn := keep hin;have HVw := keep hv;have HVK := keep hvk;have HPK := keep hpk;obtain ⟨R, hR⟩ : ∃ R, S.inspect v P = R := ⟨_, rfl⟩;rw [hR];rw [inspect_cons hl] at hR;have hlk := fun (u : World) (hu : PgIn u (.slice jva P.items.length jvc) P) => look_any P (.slice jva P.items.length jvc) e.2.2 e.1 u hu
 generalize lookS P e.2.2 e.1 = X at *;obtain ⟨T, b⟩ := X;dsimp only at hR hlk;have hvi := fun (u : World) (hu : VwIn u v (.slice ava v.active.length avc) (.slice rva v.running.length rvc) (.slice iva v.clog.items.length ivc)) => visible_any v _ _ _ T u hu
 have hne := fun (u : World) (hu : VwIn u v (.slice ava v.active.length avc) (.slice rva v.running.length rvc) (.slice iva v.clog.items.length ivc)) => newer_any v _ _ _ T u hu
 have hwr := fun (u : World) (hu : PlT bs pb u { S with left := l }) => (writes_any bs pb { S with left := l } u hu)
 have hwe : (({ S with left := l } : Pl).writes) = S.writes := rfl;simp only [hwe] at hwr;generalize visB v T = V at *;generalize newerB v T = Nw at *;generalize hW : S.writes = W at *;unfold pgV tupV at hlk;unfold vwV tupV at hvi hne;have HR := keep hR;have HLk := keep hlk;have HVi := keep hvi;have HNe := keep hne;have HWr := keep hwr;clear hlk hvi hne hwr hwe hW;obtain ⟨rv0, ov0, lv0, hB, hP⟩ := (h.fits hg0).tab;obtain ⟨la, lc, hlv⟩ := en_form hP.left.1.weak;subst hlv;rw [hl] at hP;have hes : EnsS w0 (.slice la (e :: l).length lc) (e :: l) := by have := hP.left.1; rw [hl] at this; exact this
 have hcap : (e :: l).length <= lc := hP.left.2;obtain ⟨c1, off1, cap1, e1, hc1⟩ := en_at hes.weak (show 0 < (e :: l).length by simp);have htl := ens_tail hes hcap (by simp);obtain ⟨k, p, s⟩ := e;simp only [Value.slice.injEq] at e1;obtain ⟨rfl, -, rfl⟩ := e1;obtain ⟨q0, q1, q2⟩ := hc1 w0 (Grow.refl _);simp only [List.getElem_cons_zero, Nat.zero_mul, Nat.add_zero] at q0 q1 q2;have c17 := hB.cell 17 (by simp [plCells]);simp only [plCells, List.getElem_cons_zero, List.getElem_cons_succ] at c17;rw [hl] at c17;have HHl := keep hl;have HRr := keep hrr;have HRo := keep hro;have HCp := keep hcap;have HTl := keep htl;have HB0 := keep hB;have HPl0 := keep hP;have hln : ((k, p, s) :: l).length = l.length + 1 := rfl;rw [hln] at c17;clear hR h hg0 hV0 hP0 hR0 hB hP hv hin hvk hpk hl hrr hro hcap htl hes hc1 hln;unfold vwCells pgCells zC at hw0;unfold vwV pgV;go_enter Tryz.func222, Tryz.ntmps222;go_upto_region 1 with fail;rw [<- hw0];clear hw0;go_upto_region 2 with fail;obtain ⟨w1, hw1⟩ : ∃ w1, w1 = w0.alloc (.cells #[.string (str k), .int .i64 p, .int .i64 s] 103) := ⟨_, rfl⟩;rw [<- hw1];have hg1 : Grow w0 w1 := by subst hw1; exact (Grow.refl _).alloc _
 have hE1 : Blk w1 w0.heap.size 103 [.string (str k), .int .i64 p, .int .i64 s] := by subst hw1; exact Blk.new w0 _ [_, _, _]
 have hB1 := HB0.out.fits hg1;have hP1 := HPl0.out.fits hg1;have hlc : (1 : Int) <= (l.length : Int) + 1 := by omega
 have hlc2 : (l.length + 1 : Nat) <= lc := HCp.out;clear c17;have c17 := hB1.cell 17 (by simp [plCells]);simp only [plCells, List.getElem_cons_zero, List.getElem_cons_succ] at c17;rw [HHl.out] at c17;rw [show ((k, p, s) :: l).length = l.length + 1 from rfl] at c17;have z17 := hB1.free 17;have HB1 := keep hB1;have HP1 := keep hP1;have HG1 := keep hg1;have HE1 := keep hE1;generalize w0.heap.size = be at *;clear hw1 hB1 hP1 hg1 hE1 q0 q1 q2;go_upto_region 3 with fail;have hTl2 : EnsS w0 (.slice (if lc = 1 then some (⟨c1, off1, none⟩ : Addr) else some ⟨c1, off1 + 3, none⟩) l.length (lc - 1)) l := by have := HTl.out; simpa [Addr.add] using this
 generalize (if lc = 1 then some (⟨c1, off1, none⟩ : Addr) else some ⟨c1, off1 + 3, none⟩) = ta at *;obtain ⟨w2, hw2⟩ : ∃ w2, w2 = w1.setCell ⟨pb, 17, none⟩ (.slice ta l.length (lc - 1)) := ⟨_, rfl⟩;rw [<- hw2];have kk := (But.refl pb w1).setCell 17 (.slice ta l.length (lc - 1));rw [<- hw2] at kk;have hlw1 : bs <= w1.heap.size := Nat.le_trans HT.out.low (Nat.le_trans HG0.out.size HG1.out.size);have hB2 : Blk w2 pb 111 (plCells { S with left := l } (stageV pb S.st) rv0 ov0 (.slice ta l.length (lc - 1))) := by subst hw2; exact HB1.out.set 17 _
 have hS2 : Sel bs pb w1 w2 := Sel.but kk HB1.out (.inl ⟨rfl, rfl⟩) hlw1;have hP1' := HP1.out.but kk HB1.out;have hP2 : PlR bs w2 { S with left := l } rv0 ov0 (.slice ta l.length (lc - 1)) := ⟨hP1'.rr, hP1'.rows, ⟨rowS_typ (RowS.fits hTl2 HG1.out) kk HB1.out (by decide), (show l.length <= lc - 1 by omega)⟩, hP1'.none⟩;have HB2 := keep hB2;have HP2 := keep hP2;have HS2 := keep (Sel.trans (Sel.of_grow HT.out.low (Grow.trans HG0.out HG1.out)) hS2);have HV2 := keep ((HV0.out.fits HG1.out).sel hS2 (by decide) (by decide));have HPg2 := keep ((HP0.out.fits HG1.out).sel hS2 (by decide) (by decide));have HR2 := keep ((HR0.out.fits HG1.out).sel hS2 (by decide) (by decide));have HE2 := keep (HE1.out.sel hS2 (by decide) (by decide));have HT2 := keep (show PlT bs pb w2 { S with left := l } from ⟨Nat.le_trans hlw1 hS2.size, rv0, ov0, _, hB2, hP2⟩);have hPg2 := HPg2.out;have hE2 := HE2.out;unfold pgCells at hPg2;obtain ⟨p0, p1, p2, p3, p4, p5, _⟩ := pgres hPg2;obtain ⟨q0, q1, q2, _⟩ := enres hE2;have HLk2 := keep (HLk.out w2 (HPK.out w2 HS2.out));clear hw2 kk hB2 hS2 hP1' hP2 hTl2 hPg2 hE2 c17 z17 hlw1 HLk hlc hlc2;go_wp2_with fail;refine HLk2.out.mono ?_;rintro x w3 ⟨rfl, hb3⟩;have HG3 := keep hb3;clear p0 p1 p2 p3 p4 p5 q0 q1 q2 hb3 HLk2;go_upto_region 4 with fail;obtain ⟨w4, hw4⟩ : ∃ w4, w4 = w3.alloc (.cells #[.int .i64 T.xmin, .int .i64 T.xmax, .bool T.frozen, .string (str T.key), .string (str T.val)] 44) := ⟨_, rfl⟩;rw [<- hw4]
 obtain ⟨hT4, hg4⟩ := tu_new w3 w4 [.int .i64 T.xmin, .int .i64 T.xmax, .bool T.frozen, .string (str T.key), .string (str T.val)] hw4;have hga := Grow.trans HG3.out hg4;generalize w3.heap.size = bt at *;have HVx := keep (fun (u : World) (hu : Grow w4 u) => vwres (HV2.out.fits (Grow.trans hga hu)));have HTx := keep (fun (u : World) (hu : Grow w4 u) => tures (hT4.fits hu));have HB4 := keep (HB2.out.fits hga)
 have HCx := keep (fun (u : World) (hu : Grow w4 u) => (show u.cell? ⟨pb, 0, none⟩ = some (.int .u8 S.call) /\ u.cell? ⟨pb, 4, none⟩ = some (.int .i64 S.n) /\ u.cell? ⟨pb, 15, none⟩ = some ov0 from
  ⟨(HB4.out.fits hu).cell 0 (by simp [plCells]), (HB4.out.fits hu).cell 4 (by simp [plCells]), (HB4.out.fits hu).cell 15 (by simp [plCells])⟩))
 have HP4 := keep (HP2.out.fits hga);have HT4 := keep (HT2.out.fits hga);have HR4 := keep (HR2.out.fits hga);have HE4 := keep (HE2.out.fits hga);have HS4 := keep (HS2.out.trans (Sel.of_grow HT2.out.low hga));have HVK4 := keep (HVK.out.sel HS4.out);have HTu4 := keep hT4;clear hw4 hT4 hg4 hga HB2 HP2 HV2 HPg2 HR2 HE2 HT2 HS2 HB1 HP1 HE1 HG1 HTl HCp HB0 HPl0 HVK HPK HG3;generalize hbe : be = be' at *;clear hbe;cases b with
 | false =>
  have HR5 := keep (show ({ S with left := l } : Pl).next = R by have := HR.out; simpa using this);have hnx := plnext_any bs pb { S with left := l } w4 (HT4.out.fits (Grow.refl w4));rw [HR5.out] at hnx;unfold PlPost at hnx;have HNx := keep hnx;have HGn := keep (Grow.refl w4);clear hnx;go_wp2_with fail;refine HNx.out.mono ?_;rintro x wn ⟨rfl, h1, h2⟩;have HTn := keep h1;have HSn := keep (Sel.trans (Sel.of_grow HT4.out.low HGn.out) h2);clear h1 h2 HNx;have HSn0 := keep (HS4.out.trans HSn.out);have HRx := keep (HR4.out.sel HSn.out (by decide) (by decide));unfold zC at HRx;go_wp2_with ((refine wpList_store_rec rfl _ _ rfl (w_.heap.size + 2) _ rfl rfl HRx.out rfl rfl rfl ?_); intro wz hset hbz; have Hset := keep hset; have Hbut := keep hbz; clear hset hbz);refine bodyPost_ret (v := .tuple #[rdV noRd (.slice none 0 0), .bool false]) ?_ rfl ?_
  ·exact inspect_res _ _ _ _ noRd _ rfl rfl Hset.out
  ·exact st_zero HTn.out HSn0.out Hbut.out (by omega) HRx.out HT.out.low
 | true =>
  obtain ⟨v0, v1, v2, v3, v4, v5, v6, v7, v8, v9, v10⟩ := HVx.out w4 (Grow.refl _);obtain ⟨t0, t1, t2, t3, t4⟩ := HTx.out w4 (Grow.refl _);go_wp2_with fail;refine (HVi.out w4 (HVK4.out w4 (Sel.refl _ _ _))).mono ?_;rintro x w5 ⟨rfl, hb5⟩;have HG5 := keep (show Grow w4 w5 from hb5);clear v0 v1 v2 v3 v4 v5 v6 v7 v8 v9 v10 t0 t1 t2 t3 t4 hb5 HVi;go_wp2_with fail;refine (HWr.out w5 (HT4.out.fits HG5.out)).mono ?_;rintro x w6 ⟨rfl, hb6⟩;have HG6 := keep (Grow.trans HG5.out hb6);clear hb6;cases W with
  | true =>
   obtain ⟨v0, v1, v2, v3, v4, v5, v6, v7, v8, v9, v10⟩ := HVx.out w6 HG6.out;obtain ⟨t0, t1, t2, t3, t4⟩ := HTx.out w6 HG6.out;go_wp2_with fail;refine (HNe.out w6 (HVK4.out w6 (Sel.of_grow HT4.out.low HG6.out))).mono ?_;rintro x w7 ⟨rfl, hb7⟩;have HG7 := keep (Grow.trans HG6.out hb7);clear v0 v1 v2 v3 v4 v5 v6 v7 v8 v9 v10 t0 t1 t2 t3 t4 hb7 HNe;cases Nw with
   | true =>
    have HR5 := keep (show ({ S with left := l } : Pl).fin 180 false [] [] = R by have := HR.out; simpa using this);have hen := end_any bs pb { S with left := l } 180 false [] (.slice none 0 0) [] w7 (HT4.out.fits HG7.out) (rows_nilS _);rw [HR5.out] at hen;unfold rpV PlPost at hen
    try rw [str_nilS] at hen
    have HEn := keep hen;have HGn := keep HG7.out;clear hen;go_wp2_with fail;refine HEn.out.mono ?_;rintro x wn ⟨rfl, h1, h2⟩;have HTn := keep h1;have HSn := keep (Sel.trans (Sel.of_grow HT4.out.low HGn.out) h2);clear h1 h2 HEn;have HSn0 := keep (HS4.out.trans HSn.out);have HRx := keep (HR4.out.sel HSn.out (by decide) (by decide));unfold zC at HRx;go_wp2_with ((refine wpList_store_rec rfl _ _ rfl (w_.heap.size + 2) _ rfl rfl HRx.out rfl rfl rfl ?_); intro wz hset hbz; have Hset := keep hset; have Hbut := keep hbz; clear hset hbz);refine bodyPost_ret (v := .tuple #[rdV noRd (.slice none 0 0), .bool false]) ?_ rfl ?_
    ·exact inspect_res _ _ _ _ noRd _ rfl rfl Hset.out
    ·exact st_zero HTn.out HSn0.out Hbut.out (by omega) HRx.out HT.out.low
   | false =>
    cases V with
    | false =>
     have HR5 := keep (show ({ S with left := l } : Pl).next = R by have := HR.out; simpa using this);have hnx := plnext_any bs pb { S with left := l } w7 (HT4.out.fits HG7.out);rw [HR5.out] at hnx;unfold PlPost at hnx;have HNx := keep hnx;have HGn := keep HG7.out;clear hnx;go_wp2_with fail;refine HNx.out.mono ?_;rintro x wn ⟨rfl, h1, h2⟩;have HTn := keep h1;have HSn := keep (Sel.trans (Sel.of_grow HT4.out.low HGn.out) h2);clear h1 h2 HNx;have HSn0 := keep (HS4.out.trans HSn.out);have HRx := keep (HR4.out.sel HSn.out (by decide) (by decide));unfold zC at HRx;go_wp2_with ((refine wpList_store_rec rfl _ _ rfl (w_.heap.size + 2) _ rfl rfl HRx.out rfl rfl rfl ?_); intro wz hset hbz; have Hset := keep hset; have Hbut := keep hbz; clear hset hbz);refine bodyPost_ret (v := .tuple #[rdV noRd (.slice none 0 0), .bool false]) ?_ rfl ?_
     ·exact inspect_res _ _ _ _ noRd _ rfl rfl Hset.out
     ·exact st_zero HTn.out HSn0.out Hbut.out (by omega) HRx.out HT.out.low
    | true =>
     have HR5 := keep (show ({ S with left := l, hit := true, one := (k, p, s) } : Pl).next = R by have := HR.out; simpa using this);go_wp2_with fail;refine (HWr.out w7 (HT4.out.fits HG7.out)).mono ?_;rintro x w8 ⟨rfl, hb8⟩;have HG8 := keep (Grow.trans HG7.out hb8);clear hb8;have hB8 := HB4.out.fits HG8.out;have c19 := hB8.cell 19 (by simp [plCells]);have c20 := hB8.cell 20 (by simp [plCells]);have c21 := hB8.cell 21 (by simp [plCells]);have c22 := hB8.cell 22 (by simp [plCells]);simp only [plCells, List.getElem_cons_zero, List.getElem_cons_succ] at c19 c20 c21 c22;have z19 := hB8.free 19;have z20 := hB8.free 20;have z21 := hB8.free 21;have z22 := hB8.free 22;obtain ⟨q0, q1, q2, _⟩ := enres (HE4.out.fits HG8.out);have hne1 : be' ≠ pb := by
      rintro rfl;have h9 := HE4.out.fits HG8.out;unfold Blk at hB8 h9;rw [hB8] at h9;simp at h9
     have hne2 : pb ≠ be' := fun h => hne1 h.symm
     clear hB8;go_upto_region 14 with fail;go_region;obtain ⟨w9, hw9⟩ : ∃ w9, w9 = ((((w8.setCell ⟨pb, 19, none⟩ (.bool true)).setCell ⟨pb, 20, none⟩ (.string (str k))).setCell ⟨pb, 21, none⟩ (.int .i64 p)).setCell ⟨pb, 22, none⟩ (.int .i64 s)).drew := ⟨_, rfl⟩;rw [<- hw9];have h9 : PlT bs pb w9 { S with left := l, hit := true, one := (k, p, s) } /\ Sel bs pb w4 w9 := by
      have kk := (((((But.refl pb w8).setCell 19 (.bool true)).setCell 20 (.string (str k))).setCell 21 (.int .i64 p)).setCell 22 (.int .i64 s)).drew;have hB' := ((((HB4.out.fits HG8.out).set 19 (.bool true)).set 20 (.string (str k))).set 21 (.int .i64 p)).set 22 (.int .i64 s);have h2 := (HP4.out.fits HG8.out).but kk (HB4.out.fits HG8.out);subst hw9;exact ⟨⟨Nat.le_trans (HT4.out.fits HG8.out).low kk.size, rv0, ov0, _, hB'.drew, ⟨h2.rr, h2.rows, h2.left, h2.none⟩⟩, (Sel.of_grow HT4.out.low HG8.out).trans (Sel.but kk (HB4.out.fits HG8.out) (.inl ⟨rfl, rfl⟩) (HT4.out.fits HG8.out).low)⟩
     have HT9 := keep h9.1;have HS9 := keep h9.2;clear hw9 h9 c19 c20 c21 c22 z19 z20 z21 z22 q0 q1 q2 hne1 hne2;have hnx := plnext_any bs pb { S with left := l, hit := true, one := (k, p, s) } w9 (HT9.out.fits (Grow.refl w9));rw [HR5.out] at hnx;unfold PlPost at hnx;have HNx := keep hnx;have HGn := keep (Grow.refl w9);clear hnx;go_wp2_with fail;refine HNx.out.mono ?_;rintro x wn ⟨rfl, h1, h2⟩;have HTn := keep h1;have HSn := keep (Sel.trans HS9.out h2);clear h1 h2 HNx;have HSn0 := keep (HS4.out.trans HSn.out);have HRx := keep (HR4.out.sel HSn.out (by decide) (by decide));unfold zC at HRx;go_wp2_with ((refine wpList_store_rec rfl _ _ rfl (w_.heap.size + 2) _ rfl rfl HRx.out rfl rfl rfl ?_); intro wz hset hbz; have Hset := keep hset; have Hbut := keep hbz; clear hset hbz);refine bodyPost_ret (v := .tuple #[rdV noRd (.slice none 0 0), .bool false]) ?_ rfl ?_
     ·exact inspect_res _ _ _ _ noRd _ rfl rfl Hset.out
     ·exact st_zero HTn.out HSn0.out Hbut.out (by omega) HRx.out HT.out.low
  | false =>
   cases V with
   | false =>
    have HR5 := keep (show ({ S with left := l } : Pl).next = R by have := HR.out; simpa using this);have hnx := plnext_any bs pb { S with left := l } w6 (HT4.out.fits HG6.out);rw [HR5.out] at hnx;unfold PlPost at hnx;have HNx := keep hnx;have HGn := keep HG6.out;clear hnx;go_wp2_with fail;refine HNx.out.mono ?_;rintro x wn ⟨rfl, h1, h2⟩;have HTn := keep h1;have HSn := keep (Sel.trans (Sel.of_grow HT4.out.low HGn.out) h2);clear h1 h2 HNx;have HSn0 := keep (HS4.out.trans HSn.out);have HRx := keep (HR4.out.sel HSn.out (by decide) (by decide));unfold zC at HRx;go_wp2_with ((refine wpList_store_rec rfl _ _ rfl (w_.heap.size + 2) _ rfl rfl HRx.out rfl rfl rfl ?_); intro wz hset hbz; have Hset := keep hset; have Hbut := keep hbz; clear hset hbz);refine bodyPost_ret (v := .tuple #[rdV noRd (.slice none 0 0), .bool false]) ?_ rfl ?_
    ·exact inspect_res _ _ _ _ noRd _ rfl rfl Hset.out
    ·exact st_zero HTn.out HSn0.out Hbut.out (by omega) HRx.out HT.out.low
   | true =>
    go_wp2_with fail;refine (HWr.out w6 (HT4.out.fits HG6.out)).mono ?_;rintro x w7 ⟨rfl, hb7⟩;have HG7 := keep (Grow.trans HG6.out hb7);clear hb7;obtain ⟨c0, c4, c15⟩ := HCx.out w7 HG7.out
    by_cases h2 : S.call = 2
    ·have HR5 := keep (show ({ S with left := l } : Pl).fin 0 true T.val [] = R by have := HR.out; simpa [h2] using this);have e2 : (S.call == 2) = true := by simp [h2]
     obtain ⟨t0, t1, t2, t3, t4⟩ := HTx.out w7 HG7.out;clear h2;have hen := end_any bs pb { S with left := l } 0 true T.val (.slice none 0 0) [] w7 (HT4.out.fits HG7.out) (rows_nilS _);rw [HR5.out] at hen;unfold rpV PlPost at hen
     try rw [str_nilS] at hen
     have HEn := keep hen;have HGn := keep HG7.out;clear hen;go_wp2_with fail;refine HEn.out.mono ?_;rintro x wn ⟨rfl, h1, h2⟩;have HTn := keep h1;have HSn := keep (Sel.trans (Sel.of_grow HT4.out.low HGn.out) h2);clear h1 h2 HEn;have HSn0 := keep (HS4.out.trans HSn.out);have HRx := keep (HR4.out.sel HSn.out (by decide) (by decide));unfold zC at HRx;go_wp2_with ((refine wpList_store_rec rfl _ _ rfl (w_.heap.size + 2) _ rfl rfl HRx.out rfl rfl rfl ?_); intro wz hset hbz; have Hset := keep hset; have Hbut := keep hbz; clear hset hbz);refine bodyPost_ret (v := .tuple #[rdV noRd (.slice none 0 0), .bool false]) ?_ rfl ?_
     ·exact inspect_res _ _ _ _ noRd _ rfl rfl Hset.out
     ·exact st_zero HTn.out HSn0.out Hbut.out (by omega) HRx.out HT.out.low
    ·have e2 : (S.call == 2) = false := by simpa using h2
     have HR5 := keep (show (if ((S.rows ++ [(T.key, T.val)]).length : Int) = S.n then ({ S with left := l, rows := S.rows ++ [(T.key, T.val)] } : Pl).fin 0 false [] (S.rows ++ [(T.key, T.val)]) else ({ S with left := l, rows := S.rows ++ [(T.key, T.val)] } : Pl).next) = R by have := HR.out; simpa [h2] using this);clear h2;have HB7 := keep (HB4.out.fits HG7.out);have HTu7 := keep (HTu4.out.fits HG7.out);have HL7 := keep ((HT4.out.fits HG7.out).low);have HO7 := keep ((HP4.out.fits HG7.out).rows);have HP7 := keep (HP4.out.fits HG7.out);go_upto_region 5 with fail;clear c0 c4 c15;refine wp_region_m_named (by kernel_rfl) 12 11 (fun j => decide (11 <= j)) (RwG bs ov0 S.rows) (RwG.refl _ _ _ _) (fun _ _ => RwG.grow) (fun _ _ _ => RwG.trans) (by kernel_rfl)  (by kernel_rfl) [(43, 0), (44, 1), (45, 2), (46, 3), (47, 4), (48, 5), (49, 6), (50, 7), (51, 8), (52, 9), (53, 10), (54, 11)] (by kernel_rfl) [(0, true), (1, true), (2, true), (3, true), (4, true), (5, true), (6, true), (7, true), (8, true), (9, true), (10, true), (11, true)] (by kernel_rfl) rfl rfl ?_;intro a0 ha0;have hsz : a0.tmps.size = 120 := (size_at ha0).trans rfl;have s0 := slot_at ha0 0 rfl;have s11 := slot_at ha0 11 rfl;have HA0 := keep ha0;clear ha0;apply lexm_eq hsz [] [(44, 1), (45, 2), (46, 3), (47, 4), (48, 5), (49, 6), (50, 7), (51, 8), (52, 9), (53, 10), (54, 11)] none (by kernel_rfl) (by kernel_rfl) (by kernel_rfl) (by kernel_rfl) rfl (by decide)
     ·intro xs w hw hp K hK;go_simp;exact hK _ (Grow.refl _)
     apply lexm_eq hsz [] [(43, 0), (46, 3), (47, 4), (48, 5), (49, 6), (50, 7), (51, 8), (52, 9), (53, 10), (54, 11)] none (by kernel_rfl) (by kernel_rfl) (by kernel_rfl) (by kernel_rfl) rfl (by decide)
     ·intro xs w hw hp K hK;go_simp;exact hK _ (Grow.refl _)
     apply lexm_eq hsz [(1, true)] [(43, 0), (44, 1), (47, 4), (48, 5), (49, 6), (50, 7), (51, 8), (52, 9), (53, 10), (54, 11)] none (by kernel_rfl) (by kernel_rfl) (by kernel_rfl) (by kernel_rfl) rfl (by decide)
     ·intro xs w hw hp K hK;simp only [hz] at hp;go_simp;exact hK _ (Grow.refl _)
     apply lexm_eq hsz [(2, true)] [(43, 0), (44, 1), (45, 2), (48, 5), (49, 6), (50, 7), (51, 8), (52, 9), (53, 10), (54, 11)] none (by kernel_rfl) (by kernel_rfl) (by kernel_rfl) (by kernel_rfl) rfl (by decide)
     ·intro xs w hw hp K hK;simp only [hz] at hp;go_simp;exact hK _ (Grow.refl _)
     apply lexm_eq hsz [(3, true)] [(43, 0), (44, 1), (45, 2), (46, 3), (48, 5), (49, 6), (50, 7), (51, 8), (52, 9), (53, 10)] none (by kernel_rfl) (by kernel_rfl) (by kernel_rfl) (by kernel_rfl) rfl (by decide)
     ·intro xs w hw hp K hK;simp only [hz] at hp;have c15 := (HB7.out.rwf hw.undrew.1 HL7.out (by decide)).cell 15 (by simp [plCells]);simp only [plCells, List.getElem_cons_zero, List.getElem_cons_succ] at c15;go_simp;exact hK _ (Grow.refl _)
     apply lexm_eq hsz [] [(43, 0), (44, 1), (45, 2), (46, 3), (47, 4), (50, 7), (51, 8), (52, 9), (53, 10), (54, 11)] none (by kernel_rfl) (by kernel_rfl) (by kernel_rfl) (by kernel_rfl) rfl (by decide)
     ·intro xs w hw hp K hK;go_simp;exact hK _ (Grow.refl _)
     apply lexm_eq hsz [(5, true)] [(43, 0), (44, 1), (45, 2), (46, 3), (47, 4), (48, 5), (50, 7), (51, 8), (53, 10), (54, 11)] none (by kernel_rfl) (by kernel_rfl) (by kernel_rfl) (by kernel_rfl) rfl (by decide)
     ·intro xs w hw hp K hK;simp only [hz] at hp;obtain ⟨t0, t1, t2, t3, t4⟩ := tures (HTu7.out.rwf hw.undrew.1 HL7.out (by decide));go_simp;exact hK _ (Grow.refl _)
     apply lexm_eq hsz [] [(43, 0), (44, 1), (45, 2), (46, 3), (47, 4), (48, 5), (49, 6), (52, 9), (53, 10), (54, 11)] none (by kernel_rfl) (by kernel_rfl) (by kernel_rfl) (by kernel_rfl) rfl (by decide)
     ·intro xs w hw hp K hK;go_simp;exact hK _ (Grow.refl _)
     apply lexm_eq hsz [(7, true)] [(43, 0), (44, 1), (45, 2), (46, 3), (47, 4), (48, 5), (49, 6), (50, 7), (53, 10), (54, 11)] none (by kernel_rfl) (by kernel_rfl) (by kernel_rfl) (by kernel_rfl) rfl (by decide)
     ·intro xs w hw hp K hK;simp only [hz] at hp;obtain ⟨t0, t1, t2, t3, t4⟩ := tures (HTu7.out.rwf hw.undrew.1 HL7.out (by decide));go_simp;exact hK _ (Grow.refl _)
     apply lexm_eq hsz [(6, true), (8, true)] [(43, 0), (44, 1), (45, 2), (46, 3), (47, 4), (48, 5), (49, 6), (50, 7), (51, 8), (54, 11)] none (by kernel_rfl) (by kernel_rfl) (by kernel_rfl) (by kernel_rfl) rfl (by decide)
     ·intro xs w hw hp K hK;simp only [hz] at hp;go_simp;exact hK _ (Grow.refl _)
     refine lexm_until hsz (fun v u => ∃ vb, v = .slice (some ⟨vb, 0, none⟩) 1 1 /\ Blk u vb 46 (rwC (T.key, T.val))) (fun _ _ _ g h => h.elim fun vb h => ⟨vb, h.1, h.2.fits g⟩) [(9, true)] [(43, 0), (44, 1), (45, 2), (46, 3), (47, 4), (48, 5), (49, 6), (50, 7), (51, 8), (52, 9)] none (by kernel_rfl) (by kernel_rfl) (by kernel_rfl) (by kernel_rfl) rfl (by decide) ?_ ?_
     ·intro xs w hw hp K hK;simp only [hz] at hp;go_simp;exact hK _ _ ⟨_, rfl, Blk.new w _ [_, _]⟩ ((Grow.refl _).alloc _)
     refine lexm_it rfl hsz (fun v u => ∃ na nc, v = .slice na (S.rows ++ [(T.key, T.val)]).length nc /\ OwnR bs u (.slice na (S.rows ++ [(T.key, T.val)]).length nc) (S.rows ++ [(T.key, T.val)])) (fun _ _ _ g ⟨na, nc, h1, h2⟩ => ⟨na, nc, h1, owns_fits h2 g⟩) [(4, true), (10, true)] [(43, 0), (44, 1), (45, 2), (46, 3), (47, 4), (48, 5), (49, 6), (50, 7), (51, 8), (52, 9), (53, 10)] none (by kernel_rfl) (by kernel_rfl) (by kernel_rfl) (by kernel_rfl) rfl ?_ ?_
     ·intro xs w hw hp K hK;simp only [hz] at hp;obtain ⟨h4, vb, h10, hvb⟩ := hp;obtain ⟨v', w', hr, h1, h2, h3⟩ := rapp_keeps _ bs S.rows (T.key, T.val) ov0 ⟨vb, 0, none⟩ 1 w (hw.undrew.2 HO7.out) (row_cells hvb) (by have := HRo.out; omega) (Nat.le_trans HL7.out hw.undrew.1.1);obtain ⟨na, nc, e9⟩ := own_form h1;rw [e9] at h1;exact upon_append rfl (by simp [evalF_tmp, lookL, h4]) (by simp [evalF_tmp, lookL, h10]) hr (hK _ _ ⟨na, nc, e9, h1⟩ ⟨RwF.app (hw.undrew.2 HO7.out) h2, fun _ => h3⟩)
     intro xs w hw hp;have ha0 := HA0.out;clear HA0 hsz s0 s11;simp only [hz] at hp;have h43 := hp.1;have h54 := hp.2.2.2.2.2.2.2.2.2.2.2;clear hp;subst ha0;simp only [putAll, h43];obtain ⟨na, nc, h54, HOn⟩ := h54;simp only [h54];generalize hrs : S.rows ++ [(T.key, T.val)] = rs at *;have HRne := keep (show rs ≠ [] by rw [<- hrs]; simp);clear hrs;have hsw : Sel bs pb w4 w := (Sel.of_grow HT4.out.low HG7.out).trans (hw.undrew.1.sel HL7.out);have hBw := HB7.out.rwf hw.undrew.1 HL7.out (by decide);have hPw : RowS w 46 rv0 S.rr.length (rwCells S.rr) /\ EnsS w (.slice ta l.length (lc - 1)) l := by
      refine ⟨?_, rowS_rwf HP7.out.left.1 hw.undrew.1 HL7.out (by decide)⟩;have := HP7.out.rr;rw [show (({ S with left := l } : Pl).rr) = [] from HRr.out] at this;rw [HRr.out];exact rowS_none this
     have hlw : bs <= w.heap.size := Nat.le_trans HL7.out hw.undrew.1.1;have c15 := hBw.cell 15 (by simp [plCells]);simp only [plCells, List.getElem_cons_zero, List.getElem_cons_succ] at c15;have z15 := hBw.free 15;have HBw := keep hBw;have HPw := keep hPw;have HSw := keep hsw;have HLw := keep hlw;clear hw h43 h54 hsw hBw hPw hlw;go_upto_region 6 with fail;obtain ⟨w9, hw9⟩ : ∃ w9, w9 = w.setCell ⟨pb, 15, none⟩ (.slice na rs.length nc) := ⟨_, rfl⟩;rw [<- hw9];have h9 : Blk w9 pb 111 (plCells { S with left := l, rows := rs } (stageV pb S.st) rv0 (.slice na rs.length nc) (.slice ta l.length (lc - 1))) /\ OwnR bs w9 (.slice na rs.length nc) rs /\ PlT bs pb w9 { S with left := l, rows := rs } /\ Sel bs pb w4 w9 := by
      have kk := (But.refl pb w).setCell 15 (.slice na rs.length nc);have hB' := HBw.out.set 15 (.slice na rs.length nc);have hO' := owns_but HOn kk (plan_own_ne HOn HBw.out (by decide));subst hw9;exact ⟨hB', hO', ⟨Nat.le_trans HLw.out kk.size, rv0, _, _, hB', ⟨rowS_typ HPw.out.1 kk HBw.out (by decide), hO', ⟨rowS_typ HPw.out.2 kk HBw.out (by decide), HP7.out.left.2⟩, fun h => absurd h HRne.out⟩⟩, HSw.out.trans (Sel.but kk HBw.out (.inl ⟨rfl, rfl⟩) HLw.out)⟩
     obtain ⟨hB9, hO9, hT9, hS9⟩ := h9;have HO9 := keep hO9;have HT9 := keep hT9;have HS9 := keep hS9;clear c15 z15 hw9 hO9 hT9 hS9 HOn;have c4 := hB9.cell 4 (by simp [plCells]);have c15 := hB9.cell 15 (by simp [plCells]);simp only [plCells, List.getElem_cons_zero, List.getElem_cons_succ] at c4 c15;have hgd := fun (n : Nat) => (below_drewN (Grow.refl w9) n)
     clear hB9
     by_cases hn : (rs.length : Int) = S.n
     ·have en9 : ((rs.length : Int) == S.n) = true := by simpa using hn
      have HR5 := keep (show ({ S with left := l, rows := rs } : Pl).fin 0 false [] rs = R by have h := HR5.out; rw [if_pos hn] at h; exact h);clear hn;go_quiet (fail);have HO9d := keep (owns_fits HO9.out (hgd nq));have HT9d := keep (HT9.out.fits (hgd nq));have HS9d := keep (HS9.out.trans (Sel.of_grow HT9.out.low (hgd nq)));have c15d : (w9.drewN nq).cell? ⟨pb, 15, none⟩ = some (.slice na rs.length nc) := c15;generalize w9.drewN nq = wd at *;clear c4 c15 hgd;have hen := end_any bs pb { S with left := l, rows := rs } 0 false [] (.slice na rs.length nc) rs wd (HT9d.out.fits (Grow.refl wd)) (own_rowO HO9d.out);rw [HR5.out] at hen;unfold rpV PlPost at hen
      try rw [str_nilS] at hen
      have HEn := keep hen;have HGn := keep (Grow.refl wd);clear hen;go_wp2_with fail;refine HEn.out.mono ?_;rintro x wn ⟨rfl, h1, h2⟩;have HTn := keep h1;have HSn := keep (Sel.trans HS9d.out h2);clear h1 h2 HEn;have HSn0 := keep (HS4.out.trans HSn.out);have HRx := keep (HR4.out.sel HSn.out (by decide) (by decide));unfold zC at HRx;go_wp2_with ((refine wpList_store_rec rfl _ _ rfl (w_.heap.size + 2) _ rfl rfl HRx.out rfl rfl rfl ?_); intro wz hset hbz; have Hset := keep hset; have Hbut := keep hbz; clear hset hbz);refine bodyPost_ret (v := .tuple #[rdV noRd (.slice none 0 0), .bool false]) ?_ rfl ?_
      ·exact inspect_res _ _ _ _ noRd _ rfl rfl Hset.out
      ·exact st_zero HTn.out HSn0.out Hbut.out (by omega) HRx.out HT.out.low
     ·have en9 : ((rs.length : Int) == S.n) = false := by simpa using hn
      have HR5 := keep (show ({ S with left := l, rows := rs } : Pl).next = R by have h := HR5.out; rw [if_neg hn] at h; exact h);clear hn;go_quiet (fail);have HT9d := keep (HT9.out.fits (hgd nq));have HS9d := keep (HS9.out.trans (Sel.of_grow HT9.out.low (hgd nq)));generalize w9.drewN nq = wd at *;clear c4 c15 hgd;have hnx := plnext_any bs pb { S with left := l, rows := rs } wd (HT9d.out.fits (Grow.refl wd));rw [HR5.out] at hnx;unfold PlPost at hnx;have HNx := keep hnx;have HGn := keep (Grow.refl wd);clear hnx;go_wp2_with fail;refine HNx.out.mono ?_;rintro x wn ⟨rfl, h1, h2⟩;have HTn := keep h1;have HSn := keep (Sel.trans HS9d.out h2);clear h1 h2 HNx;have HSn0 := keep (HS4.out.trans HSn.out);have HRx := keep (HR4.out.sel HSn.out (by decide) (by decide));unfold zC at HRx;go_wp2_with ((refine wpList_store_rec rfl _ _ rfl (w_.heap.size + 2) _ rfl rfl HRx.out rfl rfl rfl ?_); intro wz hset hbz; have Hset := keep hset; have Hbut := keep hbz; clear hset hbz);refine bodyPost_ret (v := .tuple #[rdV noRd (.slice none 0 0), .bool false]) ?_ rfl ?_
      ·exact inspect_res _ _ _ _ noRd _ rfl rfl Hset.out
      ·exact st_zero HTn.out HSn0.out Hbut.out (by omega) HRx.out HT.out.low
end Go.Proofs.YtcdapdcablnhpaaGreat
namespace Go.Proofs.YtcdapdcablnhpaaGreat
open Go.RowKit
attribute [local go_sem] givesV lookV knAt hgs
def withN (P : Pg) (i : Int) (x : List UInt8) : Pg × Int := if 0 <= i /\ i < P.items.length then turnedN P (P.items.set i.toNat x) else (zeroP, 1)
set_option maxRecDepth 100000 in
set_option maxHeartbeats 4000000 in
theorem with_any (P : Pg) (iv : Value) (i : Int) (x : List UInt8) (w_ : World) (hin : PgIn w_ iv P) (hx : (x.length : Int) <= 140737488355328) (hl : P.items.length <= 8796093021980) :
  Calls Tryz.prog 202 #[pgV P iv, .int .i64 i, .string (str x)] w_ (PgPost (withN P i x).1 (withN P i x).2 w_) := by
 obtain ⟨w0, hw0⟩ : ∃ w0, w0 = (w_.alloc (.cells (pgCells P iv).toArray 28)).alloc (.cells #[.int .i64 0, .int .i64 0, .int .i64 0, .int .i64 0, .string ⟨#[]⟩, .slice none 0 0] 28) := ⟨_, rfl⟩;have hg0 : Grow w_ w0 := by subst hw0; exact ((Grow.refl w_).alloc _).alloc _
 have hP0 : Blk w0 w_.heap.size 28 (pgCells P iv) := by subst hw0; exact (Blk.new w_ _ _).alloc _
 have hR0 : Blk w0 (w_.heap.size + 1) 28 [.int .i64 0, .int .i64 0, .int .i64 0, .int .i64 0, .string ⟨#[]⟩, .slice none 0 0] := by
  have := Blk.new (w_.alloc (.cells (pgCells P iv).toArray 28)) 28 [.int .i64 0, .int .i64 0, .int .i64 0, .int .i64 0, .string ⟨#[]⟩, .slice none 0 0];have e : (w_.alloc (.cells (pgCells P iv).toArray 28)).heap.size = w_.heap.size + 1 := by simp
  rw [e] at this;subst hw0; exact this
 have hcl := clone_any iv P.items w0 (Row.fits hin.1 hg0) (by omega);obtain ⟨ia, ic, rfl⟩ := items_form hin.1;obtain ⟨R, hR⟩ : ∃ R, withN P i x = R := ⟨_, rfl⟩;rw [hR];have HIn := keep hin;have HX := keep hx;have HR := keep hR;have HG0 := keep hg0;have HR0 := keep hR0;have HP0 := keep hP0;have HCl := keep hcl;clear hin hx hR hg0 hcl;unfold pgCells at hw0 hP0;obtain ⟨p0, p1, p2, p3, p4, p5, _⟩ := pgres hP0;obtain ⟨r0, r1, r2, r3, r4, r5, z0, z1, z2, z3, z4, z5⟩ := pgres hR0;clear hP0 hR0;unfold pgV;go_enter Tryz.func202, Tryz.ntmps202;go_upto_region 1 with fail;rw [<- hw0];clear hw0
 by_cases h2 : 0 <= i /\ i < P.items.length
 ·obtain ⟨h3, h4⟩ := h2;obtain ⟨k, rfl⟩ := Int.eq_ofNat_of_zero_le h3;have hk : k < P.items.length := by omega
  have e1 : decide ((k : Int) < 0) = false := decide_eq_false (by omega);have e2 : decide (P.items.length <= k) = false := decide_eq_false (by omega);have hr : turnedN P (P.items.set k x) = R := by rw [<- HR.out]; unfold withN; rw [if_pos ⟨by omega, by omega⟩, Int.toNat_natCast]
  have hsl : ∀ y ∈ P.items.set k x, (y.length : Int) <= 140737488355328 := by
   intro y hy;rcases List.mem_or_eq_of_mem_set hy with h | rfl
   ·exact HIn.out.2.1 y h
   ·exact HX.out
  have ht := fun (u : World) (v : Value) (hv : ItemsC u v (P.items.set k x)) => pturned_any P ia P.items.length ic v (P.items.set k x) u hv hsl HIn.out.2.2.1 (by rw [List.length_set]; exact HIn.out.2.2.2.1)
  rw [hr] at ht;unfold PgPost pgV at ht;have HT := keep ht;have hpos : 0 < P.items.length := by omega
  clear h3 h4 hr hsl ht;go_wp2_with fail;refine HCl.out.mono ?_;rintro y w1 ⟨v', rfl, ho, hb1⟩;have ho : OwnS w0.heap.size w1 v' P.items := ho;obtain ⟨a', c', rfl⟩ := ho.form;obtain ⟨g, rfl, hg, hcs⟩ := own_some ho hpos;obtain ⟨q0, q1⟩ := hcs k hk;have HO := keep ho;have HG1 := keep hb1;have hne : g ≠ w_.heap.size := by have := HP0.out.lt; omega
  have HHg := keep hg;clear p0 p1 p2 p3 p4 p5 r0 r1 r2 r3 r4 r5 z0 z1 z2 z3 z4 z5 hcs ho hb1 hg HCl;go_upto_region 5 with fail;obtain ⟨w2, hw2⟩ : ∃ w2, w2 = w1.setCell ⟨g, k, none⟩ (.string (str x)) := ⟨_, rfl⟩;rw [<- hw2];have hO2 := own_set HO.out hk x;have hb2 : Below w0.heap.size w0 w2 := by
   subst hw2;exact But.below HG1.out ((But.refl g w1).setCell k (.string (str x))) HHg.out HG1.out.size
  rw [<- hw2] at hO2;have HG2 := keep hb2;have HI2 := keep hO2.items;have hP2 := HP0.out.fits hb2;have hR2 := HR0.out.fits hb2;unfold pgCells at hP2;obtain ⟨p0, p1, p2, p3, p4, p5, _⟩ := pgres hP2;have HR2 := keep hR2;have HT2 := keep (HT.out w2 _ HI2.out);clear hw2 hO2 hb2 hP2 hR2 q0 q1 hne HT;obtain ⟨R1, R2⟩ := R;go_wp2_with fail;refine HT2.out.mono ?_;rintro y w3 ⟨jv, rfl, hj, hb3⟩;obtain ⟨ja, jc, rfl⟩ := itemsS_form hj.1;have HJ := keep hj;have hR3 := HR2.out.fits hb3;have HR3 := keep hR3;have HG3 := keep (Grow.trans HG0.out (Grow.trans HG2.out hb3));obtain ⟨r0, r1, r2, r3, r4, r5, z0, z1, z2, z3, z4, z5⟩ := pgres hR3;have Hset := keep (pgset hR3 (.int .i64 R1.lsn) (.int .i64 R1.kind) (.int .i64 R1.level) (.int .i64 R1.right) (.string (str R1.high)) (.slice ja R1.items.length jc));have Hbut := keep (pgbut w3 (w_.heap.size + 1) (.int .i64 R1.lsn) (.int .i64 R1.kind) (.int .i64 R1.level) (.int .i64 R1.right) (.string (str R1.high)) (.slice ja R1.items.length jc));clear p0 p1 p2 p3 p4 p5 hb3 hR3 hj HT2;dsimp only;go_wp2_with fail;refine bodyPost_ret (v := .tuple #[pgV R1 (.slice ja R1.items.length jc), .int .i64 R2]) ?_ rfl ⟨_, rfl, itemsC_but HJ.out Hbut.out HR3.out (by decide), But.below HG3.out Hbut.out (by omega) HG3.out.size⟩;obtain ⟨s0, s1, s2, s3, s4, s5, _⟩ := pgres Hset.out;clear r0 r1 r2 r3 r4 r5 z0 z1 z2 z3 z4 z5;simp [results, Tryz.results202, go_sem, s0, s1, s2, s3, s4, s5, pgV]
 ·have hr : R = (zeroP, 1) := by rw [<- HR.out]; unfold withN; rw [if_neg h2]
  have HRR := keep hr;have hc : (decide (i < 0) = true) \/ (decide (i < 0) = false /\ decide ((P.items.length : Int) <= i) = true) := by
   by_cases h0 : i < 0
   ·exact .inl (decide_eq_true h0)
   ·refine .inr ⟨decide_eq_false h0, decide_eq_true ?_⟩;rcases Decidable.em ((P.items.length : Int) <= i) with h | h
    ·exact h
    ·exact absurd ⟨by omega, by omega⟩ h2
  clear h2 hr HCl;have Hset := keep (pgset HR0.out (.int .i64 0) (.int .i64 0) (.int .i64 0) (.int .i64 0) (.string ⟨#[]⟩) (.slice none 0 0));have Hbut := keep (pgbut w0 (w_.heap.size + 1) (.int .i64 0) (.int .i64 0) (.int .i64 0) (.int .i64 0) (.string ⟨#[]⟩) (.slice none 0 0));rcases hc with e1 | ⟨e1, e2⟩
  all_goals
   go_wp2_with fail;refine bodyPost_ret (v := .tuple #[pgV zeroP (.slice none 0 0), .int .i64 1]) ?_ rfl ⟨_, by rw [HRR.out], by rw [HRR.out]; exact ItemsC.nil _, But.below HG0.out Hbut.out (by omega) HG0.out.size⟩;obtain ⟨s0, s1, s2, s3, s4, s5, _⟩ := pgres Hset.out;clear p0 p1 p2 p3 p4 p5 r0 r1 r2 r3 r4 r5 z0 z1 z2 z3 z4 z5;simp [results, Tryz.results202, go_sem, s0, s1, s2, s3, s4, s5, pgV, zeroP]
   try rfl
end Go.Proofs.YtcdapdcablnhpaaGreat
namespace Go.Proofs.YtcdapdcablnhpaaGreat
open Go.RowKit
def hlayN (P : Pg) (slot : Int) (item : List UInt8) : Pg × Int := if slot = P.items.length then putN P P.items.length item else withN P slot item
theorem hlay_code (P : Pg) (slot : Int) (item : List UInt8) : (hlayN P slot item).2 = 0 ↔ layB P slot item = true := by
 unfold hlayN layB
 by_cases h : slot = P.items.length
 ·rw [if_pos h, if_pos h];unfold putN turnedN;rw [List.take_length, List.drop_length]
  split <;> simp_all
 ·rw [if_neg h, if_neg h];unfold withN
  by_cases h2 : 0 <= slot /\ slot < P.items.length
  ·rw [if_pos h2];unfold turnedN
   split <;> simp_all
  ·rw [if_neg h2];simp [h2]
set_option maxRecDepth 100000 in
set_option maxHeartbeats 4000000 in
theorem hlay_any (P : Pg) (iv : Value) (slot : Int) (x : List UInt8) (w_ : World) (hin : PgIn w_ iv P) (hx : (x.length : Int) <= 140737488355328) (hl : P.items.length <= 8796093021980) :
  Calls Tryz.prog 149 #[pgV P iv, .int .i64 slot, .string (str x)] w_ (PgPost (hlayN P slot x).1 (hlayN P slot x).2 w_) := by
 obtain ⟨w0, hw0⟩ : ∃ w0, w0 = (w_.alloc (.cells (pgCells P iv).toArray 28)).alloc (.cells #[.int .i64 0, .int .i64 0, .int .i64 0, .int .i64 0, .string ⟨#[]⟩, .slice none 0 0] 28) := ⟨_, rfl⟩;have hg0 : Grow w_ w0 := by subst hw0; exact ((Grow.refl w_).alloc _).alloc _
 have hP0 : Blk w0 w_.heap.size 28 (pgCells P iv) := by subst hw0; exact (Blk.new w_ _ _).alloc _
 have hR0 : Blk w0 (w_.heap.size + 1) 28 [.int .i64 0, .int .i64 0, .int .i64 0, .int .i64 0, .string ⟨#[]⟩, .slice none 0 0] := by
  have := Blk.new (w_.alloc (.cells (pgCells P iv).toArray 28)) 28 [.int .i64 0, .int .i64 0, .int .i64 0, .int .i64 0, .string ⟨#[]⟩, .slice none 0 0];have e : (w_.alloc (.cells (pgCells P iv).toArray 28)).heap.size = w_.heap.size + 1 := by simp
  rw [e] at this;subst hw0; exact this
 have hin0 := hin.fits hg0;have hput := put_any P iv P.items.length x w0 hin0.1 (Nat.le_refl _) hin0.2.1 hx hin0.2.2.1 hl;have hwi := with_any P iv slot x w0 hin0 hx hl;obtain ⟨ia, ic, rfl⟩ := items_form hin.1;obtain ⟨R, hR⟩ : ∃ R, hlayN P slot x = R := ⟨_, rfl⟩;rw [hR];have HR := keep hR;have HG0 := keep hg0;have HR0 := keep hR0;clear hin hin0 hR hg0 hR0 hx;unfold pgCells at hw0 hP0;obtain ⟨p0, p1, p2, p3, p4, p5, _⟩ := pgres hP0;clear hP0;obtain ⟨R1, R2⟩ := R;unfold pgV;go_enter Tryz.func149, Tryz.ntmps149;go_upto_region 1 with fail;rw [<- hw0];clear hw0
 by_cases hs : slot = P.items.length
 ·subst hs;have hr : putN P P.items.length x = (R1, R2) := by rw [<- HR.out]; unfold hlayN; rw [if_pos rfl]
  rw [hr] at hput;unfold PgPost pgV at hput;dsimp only at hput;have HCa := keep hput;clear hput hwi hr;go_wp2_with fail;refine (HCa.out).mono ?_;rintro y w3 ⟨jv, rfl, hj, hb3⟩;obtain ⟨ja, jc, rfl⟩ := itemsS_form hj.1;have HJ := keep hj;have hR3 := HR0.out.fits hb3;have HR3 := keep hR3;have HG3 := keep (Grow.trans HG0.out hb3);obtain ⟨r0, r1, r2, r3, r4, r5, z0, z1, z2, z3, z4, z5⟩ := pgres hR3;have Hset := keep (pgset hR3 (.int .i64 R1.lsn) (.int .i64 R1.kind) (.int .i64 R1.level) (.int .i64 R1.right) (.string (str R1.high)) (.slice ja R1.items.length jc));have Hbut := keep (pgbut w3 (w_.heap.size + 1) (.int .i64 R1.lsn) (.int .i64 R1.kind) (.int .i64 R1.level) (.int .i64 R1.right) (.string (str R1.high)) (.slice ja R1.items.length jc));clear p0 p1 p2 p3 p4 p5 hb3 hR3 hj HCa;go_wp2_with fail;refine bodyPost_ret (v := .tuple #[pgV R1 (.slice ja R1.items.length jc), .int .i64 R2]) ?_ rfl ⟨_, rfl, itemsC_but HJ.out Hbut.out HR3.out (by decide), But.below HG3.out Hbut.out (by omega) HG3.out.size⟩;obtain ⟨s0, s1, s2, s3, s4, s5, _⟩ := pgres Hset.out;clear r0 r1 r2 r3 r4 r5 z0 z1 z2 z3 z4 z5;simp [results, Tryz.results149, go_sem, s0, s1, s2, s3, s4, s5, pgV]
 ·have e1 : (slot == (P.items.length : Int)) = false := by simpa using hs
  have hr : withN P slot x = (R1, R2) := by rw [<- HR.out]; unfold hlayN; rw [if_neg hs]
  rw [hr] at hwi;unfold PgPost pgV at hwi;dsimp only at hwi;have HCa := keep hwi;clear hput hwi hr hs;go_wp2_with fail;refine (HCa.out).mono ?_;rintro y w3 ⟨jv, rfl, hj, hb3⟩;obtain ⟨ja, jc, rfl⟩ := itemsS_form hj.1;have HJ := keep hj;have hR3 := HR0.out.fits hb3;have HR3 := keep hR3;have HG3 := keep (Grow.trans HG0.out hb3);obtain ⟨r0, r1, r2, r3, r4, r5, z0, z1, z2, z3, z4, z5⟩ := pgres hR3;have Hset := keep (pgset hR3 (.int .i64 R1.lsn) (.int .i64 R1.kind) (.int .i64 R1.level) (.int .i64 R1.right) (.string (str R1.high)) (.slice ja R1.items.length jc));have Hbut := keep (pgbut w3 (w_.heap.size + 1) (.int .i64 R1.lsn) (.int .i64 R1.kind) (.int .i64 R1.level) (.int .i64 R1.right) (.string (str R1.high)) (.slice ja R1.items.length jc));clear p0 p1 p2 p3 p4 p5 hb3 hR3 hj HCa;go_wp2_with fail;refine bodyPost_ret (v := .tuple #[pgV R1 (.slice ja R1.items.length jc), .int .i64 R2]) ?_ rfl ⟨_, rfl, itemsC_but HJ.out Hbut.out HR3.out (by decide), But.below HG3.out Hbut.out (by omega) HG3.out.size⟩;obtain ⟨s0, s1, s2, s3, s4, s5, _⟩ := pgres Hset.out;clear r0 r1 r2 r3 r4 r5 z0 z1 z2 z3 z4 z5;simp [results, Tryz.results149, go_sem, s0, s1, s2, s3, s4, s5, pgV]
def encTI (xmin xmax : Int) (fz : Bool) (key val : List UInt8) : List UInt8 × Int := if tupOk xmin xmax (str key) (str val) then (tupS xmin.toNat xmax.toNat fz key val, 0) else ([], 110)
theorem tencode_any (xmin xmax : Int) (fz : Bool) (key val : List UInt8) (w : World) : Calls Tryz.prog 41 #[.agg #[.int .i64 xmin, .int .i64 xmax, .bool fz, .string (str key), .string (str val)]] w fun e w' => e = .returned (.tuple #[.string (str (encTI xmin xmax fz key val).1), .int .i64 (encTI xmin xmax fz key val).2]) /\ Below w.heap.size w w' := by
 unfold encTI;cases h : tupOk xmin xmax (str key) (str val) with
 | false => exact enc_bad xmin xmax fz (str key) (str val) w h
 | true =>
  have hn : xmin = ((xmin.toNat : Nat) : Int) /\ xmax = ((xmax.toNat : Nat) : Int) := by
   unfold tupOk at h;simp at h;omega
  obtain ⟨a, rfl⟩ : ∃ a : Nat, xmin = a := ⟨_, hn.1⟩;obtain ⟨b, rfl⟩ : ∃ b : Nat, xmax = b := ⟨_, hn.2⟩;rw [if_pos rfl, Int.toNat_natCast, Int.toNat_natCast];cases fz with
  | true => exact enc_yes a b (str key) (str val) w h
  | false => exact enc_no a b (str key) (str val) w h
theorem encTI_len (xmin xmax : Int) (fz : Bool) (key val : List UInt8) : ((encTI xmin xmax fz key val).1.length : Int) <= 1000 := by
 unfold encTI
 split
 ·rename_i h
  have h3 : key.length <= 24 /\ val.length <= 64 := by
   unfold tupOk fitsB at h;rw [str_size, str_size] at h;simp only [Bool.and_eq_true, decide_eq_true_eq] at h;exact ⟨h.1.2.2, h.2⟩
  have h1 := sev_length key.length;have h2 := sev_length val.length;unfold tupS txt;simp [bigS];omega
 ·simp
theorem underRdR : Tryz.prog.underlying 71 = some (Tryz.prog.underlying 71).get! := by kernel_rfl
theorem wpList_load_rd {ops : Array Oper} {rest : List Oper} {o : Oper} {a : Act} {Q : Exit -> Act -> World -> Prop} {w : World} (hgd : o.guard = none) (x : Operand) (ho : o.op = .load 71 x) (b : Nat)
  (hx : a.eval x = .pointer (some ⟨b, 0, none⟩)) {cs : List Value} (hb : Blk w b 71 cs) (hl : cs.length = 16)
  (h : wpList Tryz.prog ops Q rest (a.put o.dst (.agg cs.toArray)) w) : wpList Tryz.prog ops Q (o :: rest) a w := by
 refine wpList_load_mid hgd _ x ho b 0 hx cs _ ?_ underRdR (by kernel_rfl) (by rw [sizeRecord, hl]) h;intro j v hv;obtain ⟨hj, rfl⟩ := List.getElem?_eq_some_iff.1 hv;rw [Nat.zero_add, hb.cell j hj]
def RdPost (R : Rcd) (c : Int) (w : World) (x : Ending) (w' : World) : Prop := x = .returned (.tuple #[rdV R (.slice none 0 0), .int .i64 c]) /\ Below w.heap.size w w'
theorem hmark_res (tm : Array Value) (w : World) (b : Nat) (g : Int) (R : Rcd) (iv : Value) (h8 : tm.getD 8 undef = .pointer (some ⟨b, 0, none⟩)) (h9 : tm.getD 9 undef = .int .i64 g) (hB : Blk w b 71 (rdC R iv)) :
  (results Tryz.f236 tm).run Tryz.prog w = .ok (.tuple #[rdV R iv, .int .i64 g]) w := by
 unfold rdC at hB;obtain ⟨⟨s0_, s1_, s2_, s3_, s4_, s5_, s6_, s7_, s8_, s9_, s10_, s11_, s12_, s13_, s14_, s15_⟩, _⟩ := recres hB;simp only [Array.getD_eq_getD_getElem?] at h8 h9;simp [results, Tryz.results236, go_sem, h8, h9, s0_, s1_, s2_, s3_, s4_, s5_, s6_, s7_, s8_, s9_, s10_, s11_, s12_, s13_, s14_, s15_, rdV]
theorem prr_new (P : Pg) (jv : Value) (w_ w0 : World) (h : w0 = (w_.alloc (.cells (pgCells P jv).toArray 28)).alloc (.cells zC.toArray 71)) :
  Grow w_ w0 /\ Blk w0 w_.heap.size 28 (pgCells P jv) /\ Blk w0 (w_.heap.size + 1) 71 zC := by
 refine ⟨?_, ?_, ?_⟩
 ·subst h; exact ((Grow.refl w_).alloc _).alloc _
 ·subst h; exact (Blk.new w_ _ _).alloc _
 ·have := Blk.new (w_.alloc (.cells (pgCells P jv).toArray 28)) 71 zC;have e9 : (w_.alloc (.cells (pgCells P jv).toArray 28)).heap.size = w_.heap.size + 1 := by simp
  rw [e9] at this;subst h; exact this
set_option maxRecDepth 100000 in
set_option maxHeartbeats 8000000 in
theorem hmark_any (P : Pg) (iv : Value) (n slot own : Int) (w_ : World) (hin : PgIn w_ iv P) (hl : P.items.length <= 8796093021980) :
  Calls Tryz.prog 236 #[pgV P iv, .int .i64 n, .int .i64 slot, .int .i64 own] w_ (RdPost (markH P n slot own).1 (markH P n slot own).2 w_) := by
 obtain ⟨w0, hw0⟩ : ∃ w0, w0 = (w_.alloc (.cells (pgCells P iv).toArray 28)).alloc (.cells zC.toArray 71) := ⟨_, rfl⟩;obtain ⟨hg0, hP0, hR0⟩ := prr_new P iv w_ w0 hw0;obtain ⟨R, hR⟩ : ∃ R, markH P n slot own = R := ⟨_, rfl⟩;have hr : R = if (atS P slot).2 = false then (noRd, 120) else if own < 1 \/ own = (atS P slot).1.xmax then (noRd, 1) else if tupOk (atS P slot).1.xmin own (str (atS P slot).1.key) (str (atS P slot).1.val) = false then (noRd, 1)
   else if layB P slot (tupS (atS P slot).1.xmin own.toNat (atS P slot).1.frozen (atS P slot).1.key (atS P slot).1.val) = false then (noRd, 121) else (⟨2, own, n, slot, (atS P slot).1.xmax, own, [], []⟩, 0) := by rw [<- hR]; rfl
 rw [hR];have hat := at_any P iv slot w0 (hin.fits hg0);generalize atS P slot = X at *;obtain ⟨T, ok⟩ := X;dsimp only at hr hat;have hen := fun (u : World) => tencode_any T.xmin own T.frozen T.key T.val u
 have hel := encTI_len T.xmin own T.frozen T.key T.val;have hed : encTI T.xmin own T.frozen T.key T.val = if tupOk T.xmin own (str T.key) (str T.val) then (tupS T.xmin own.toNat T.frozen T.key T.val, 0) else ([], 110) := by unfold encTI; rw [Int.toNat_natCast]
 generalize tupOk T.xmin own (str T.key) (str T.val) = eo at *;generalize tupS T.xmin own.toNat T.frozen T.key T.val = bs at *;have hla := fun (u : World) (hu : Grow w_ u) (hx : (bs.length : Int) <= 140737488355328) => hlay_any P iv slot bs u (hin.fits hu) hx hl
 have hlc := hlay_code P slot bs;generalize layB P slot bs = B at *;generalize hlayN P slot bs = Y at *;obtain ⟨Y1, Y2⟩ := Y;dsimp only at hlc hla;obtain ⟨ia, ic, rfl⟩ := items_form hin.1;unfold PgPost pgV at hla;unfold pgV tupV at hat;have HAt := keep hat;have HEn := keep hen;have HLa := keep hla;have HR := keep hr;have HG0 := keep hg0;have HR0 := keep hR0;have HP0 := keep (fun (u : World) (hu : Grow w0 u) => pgres (hP0.fits hu));clear hR hr hen hla hg0 hP0 hR0 hin hl hat;obtain ⟨p0, p1, p2, p3, p4, p5, _⟩ := HP0.out w0 (Grow.refl _);unfold pgCells zC at hw0;unfold pgV RdPost;go_enter Tryz.func236, Tryz.ntmps236;go_upto_region 1 with fail;rw [<- hw0];clear hw0;go_wp2_with fail;refine HAt.out.mono ?_;rintro x w1 ⟨rfl, hb1⟩;have HG1 := keep (show Grow w0 w1 from hb1);clear p0 p1 p2 p3 p4 p5 hb1 HAt;go_upto_region 2 with fail;obtain ⟨w2, hw2⟩ : ∃ w2, w2 = w1.alloc (.cells #[.int .i64 T.xmin, .int .i64 T.xmax, .bool T.frozen, .string (str T.key), .string (str T.val)] 44) := ⟨_, rfl⟩;rw [<- hw2];obtain ⟨hB2, hg2⟩ := tu_new w1 w2 [.int .i64 T.xmin, .int .i64 T.xmax, .bool T.frozen, .string (str T.key), .string (str T.val)] hw2;have HG2 := keep (Grow.trans HG1.out hg2);have HB2 := keep hB2;have hbt : w0.heap.size <= w1.heap.size := HG1.out.size;have hbl := hB2.lt;obtain ⟨t0, t1, t2, t3, t4⟩ := tures hB2;generalize w1.heap.size = bt at *;clear hw2 hB2 hg2;cases ok with
 | false =>
  have HRR := keep (show R = (noRd, 120) by rw [HR.out, if_pos rfl]);clear hel hed hlc t0 t1 t2 t3 t4;have HRx := keep (HR0.out.fits HG2.out);unfold zC at HRx;go_wp2_with ((refine wpList_store_rec rfl _ _ rfl (w_.heap.size + 1) _ rfl rfl HRx.out rfl rfl rfl ?_); intro wz hset hbz; have Hset := keep hset; have Hbut := keep hbz; clear hset hbz);refine bodyPost_ret (v := .tuple #[rdV noRd (.slice none 0 0), .int .i64 120]) ?_ rfl ⟨by rw [HRR.out], But.below (Grow.trans HG0.out HG2.out) Hbut.out (by omega) (Grow.trans HG0.out HG2.out).size⟩;exact hmark_res _ _ _ _ noRd _ rfl rfl Hset.out
 | true =>
  by_cases hc : own < 1 \/ own = T.xmax
  ·have HRR := keep (show R = (noRd, 1) by rw [HR.out, if_neg (by simp), if_pos hc]);have hcc : decide (own < 1) = true \/ (decide (own < 1) = false /\ (own == (T.xmax : Int)) = true) := by
    by_cases h : own < 1
    ·exact .inl (decide_eq_true h)
    ·exact .inr ⟨decide_eq_false h, by simpa using hc.resolve_left h⟩
   clear hc hel hed hlc;rcases hcc with e1 | ⟨e1, e2⟩
   ·clear t0 t2 t3 t4;have HRx := keep (HR0.out.fits HG2.out);unfold zC at HRx;go_wp2_with ((refine wpList_store_rec rfl _ _ rfl (w_.heap.size + 1) _ rfl rfl HRx.out rfl rfl rfl ?_); intro wz hset hbz; have Hset := keep hset; have Hbut := keep hbz; clear hset hbz);refine bodyPost_ret (v := .tuple #[rdV noRd (.slice none 0 0), .int .i64 1]) ?_ rfl ⟨by rw [HRR.out], But.below (Grow.trans HG0.out HG2.out) Hbut.out (by omega) (Grow.trans HG0.out HG2.out).size⟩;exact hmark_res _ _ _ _ noRd _ rfl rfl Hset.out
   ·clear t0 t2 t3 t4;have HRx := keep (HR0.out.fits HG2.out);unfold zC at HRx;go_wp2_with ((refine wpList_store_rec rfl _ _ rfl (w_.heap.size + 1) _ rfl rfl HRx.out rfl rfl rfl ?_); intro wz hset hbz; have Hset := keep hset; have Hbut := keep hbz; clear hset hbz);refine bodyPost_ret (v := .tuple #[rdV noRd (.slice none 0 0), .int .i64 1]) ?_ rfl ⟨by rw [HRR.out], But.below (Grow.trans HG0.out HG2.out) Hbut.out (by omega) (Grow.trans HG0.out HG2.out).size⟩;exact hmark_res _ _ _ _ noRd _ rfl rfl Hset.out
  ·have hc1 : ¬ own < 1 := fun h => hc (.inl h)
   have e1 : decide (own < 1) = false := decide_eq_false hc1;have e2 : (own == (T.xmax : Int)) = false := by simpa using fun h => hc (.inr h)
   have HC := keep hc;clear hc hc1;go_upto_region 7 with fail;obtain ⟨w3, hw3⟩ : ∃ w3, w3 = w2.alloc (.cells (rdC ⟨2, own, n, slot, T.xmax, own, [], []⟩ (.slice none 0 0)).toArray 71) := ⟨_, rfl⟩;have hg3 : Grow w2 w3 := by subst hw3; exact (Grow.refl _).alloc _
   have hRr3 : Blk w3 w2.heap.size 71 (rdC ⟨2, own, n, slot, T.xmax, own, [], []⟩ (.slice none 0 0)) := by subst hw3; exact Blk.new _ _ _
   unfold rdC at hw3;rw [show str [] = ⟨#[]⟩ from rfl] at hw3;rw [<- hw3];have hB3 := HB2.out.fits hg3;have hne : bt ≠ w2.heap.size := by omega
   have HB3 := keep hB3;have HRr3 := keep hRr3;have HG3 := keep (Grow.trans HG2.out hg3);clear t0 t1 t2 t3 t4;obtain ⟨t0, t1, t2, t3, t4⟩ := tures hB3;have z1 := hB3.free 1;generalize w2.heap.size = br at *;clear hw3 hg3 hRr3 hB3;go_upto_region 8 with fail;obtain ⟨w4, hw4⟩ : ∃ w4, w4 = w3.setCell ⟨bt, 1, none⟩ (.int .i64 own) := ⟨_, rfl⟩;rw [<- hw4];have hk4 := (But.refl bt w3).setCell 1 (.int .i64 own);have hB4 := HB3.out.set 1 (.int .i64 own);rw [<- hw4] at hk4 hB4;have HRr4 := keep (HRr3.out.but hk4 (fun h => hne h.symm));have HG4 := keep (show Grow w0 w4 from But.below HG3.out hk4 hbt HG3.out.size);simp only [List.set_cons_succ, List.set_cons_zero] at hB4;clear t0 t1 t2 t3 t4 z1;obtain ⟨t0, t1, t2, t3, t4⟩ := tures hB4;clear hw4 hk4 hB4 hne;cases eo with
   | false =>
    rw [hed] at HEn;have HRR := keep (show R = (noRd, 1) by rw [HR.out, if_neg (by simp), if_neg HC.out, if_pos rfl]);clear hel hed hlc;go_wp2_with fail;refine (HEn.out w4).mono ?_;rintro x w5 ⟨rfl, hb5⟩;have HG5 := keep (Grow.trans HG4.out hb5);clear t0 t1 t2 t3 t4 hb5 HEn;simp only [Bool.false_eq_true, if_false];have HRx := keep (HR0.out.fits HG5.out);unfold zC at HRx;go_wp2_with ((refine wpList_store_rec rfl _ _ rfl (w_.heap.size + 1) _ rfl rfl HRx.out rfl rfl rfl ?_); intro wz hset hbz; have Hset := keep hset; have Hbut := keep hbz; clear hset hbz);refine bodyPost_ret (v := .tuple #[rdV noRd (.slice none 0 0), .int .i64 1]) ?_ rfl ⟨by rw [HRR.out], But.below (Grow.trans HG0.out HG5.out) Hbut.out (by omega) (Grow.trans HG0.out HG5.out).size⟩;exact hmark_res _ _ _ _ noRd _ rfl rfl Hset.out
   | true =>
    rw [hed, if_pos rfl] at HEn hel;have HLa2 := keep (fun (u : World) (hu : Grow w_ u) => HLa.out u hu (by dsimp only at hel; omega));have hbc : (Y2 = 0 /\ B = true) \/ (Y2 ≠ 0 /\ B = false) := by
     by_cases h : Y2 = 0
     ·exact .inl ⟨h, hlc.1 h⟩
     ·refine .inr ⟨h, ?_⟩;cases B with
      | false => rfl
      | true => exact absurd (hlc.2 rfl) h
    clear hel hed hlc HLa;go_wp2_with fail;refine (HEn.out w4).mono ?_;rintro x w5 ⟨rfl, hb5⟩;have HG5 := keep (Grow.trans HG4.out hb5);have HRr5 := keep (HRr4.out.fits hb5);clear t0 t1 t2 t3 t4 hb5 HEn;obtain ⟨p0, p1, p2, p3, p4, p5, _⟩ := HP0.out w5 HG5.out;dsimp only;go_wp2_with fail;refine (HLa2.out w5 (Grow.trans HG0.out HG5.out)).mono ?_;rintro x w6 ⟨jv, rfl, hj, hb6⟩;obtain ⟨ja, jc, rfl⟩ := itemsS_form hj.1;have HG6 := keep (Grow.trans HG5.out hb6);have HRr6 := keep (HRr5.out.fits hb6);clear p0 p1 p2 p3 p4 p5 hb6 hj HLa2;go_upto_region 12 with fail;obtain ⟨w7, hw7⟩ : ∃ w7, w7 = w6.alloc (.cells #[.int .i64 Y1.lsn, .int .i64 Y1.kind, .int .i64 Y1.level, .int .i64 Y1.right, .string (str Y1.high), .slice ja Y1.items.length jc] 28) := ⟨_, rfl⟩;rw [<- hw7];have HG7 := keep (show Grow w0 w7 by subst hw7; exact Grow.trans HG6.out ((Grow.refl _).alloc _));have HRr7 := keep (show Blk w7 br 71 (rdC ⟨2, own, n, slot, T.xmax, own, [], []⟩ (.slice none 0 0)) by subst hw7; exact HRr6.out.alloc _);clear hw7;rcases hbc with ⟨rfl, rfl⟩ | ⟨h2, rfl⟩
    ·have HRR := keep (show R = (⟨2, own, n, slot, T.xmax, own, [], []⟩, 0) by rw [HR.out, if_neg (by simp), if_neg HC.out, if_neg (by simp), if_neg (by simp)]);have HRx := keep (HR0.out.fits HG7.out);unfold zC at HRx;go_wp2_with (first | (refine wpList_load_rd rfl _ rfl br rfl HRr7.out rfl ?_) | (refine wpList_store_rec rfl _ _ rfl (w_.heap.size + 1) _ rfl rfl HRx.out rfl rfl rfl ?_; intro wz hset hbz; have Hset := keep hset; have Hbut := keep hbz; clear hset hbz))
     refine bodyPost_ret (v := .tuple #[rdV ⟨2, own, n, slot, T.xmax, own, [], []⟩ (.slice none 0 0), .int .i64 0]) ?_ rfl ⟨by rw [HRR.out], But.below (Grow.trans HG0.out HG7.out) Hbut.out (by omega) (Grow.trans HG0.out HG7.out).size⟩;exact hmark_res _ _ _ _ ⟨2, own, n, slot, T.xmax, own, [], []⟩ _ rfl rfl Hset.out
    ·have HRR := keep (show R = (noRd, 121) by rw [HR.out, if_neg (by simp), if_neg HC.out, if_neg (by simp), if_pos rfl]);have e3 : (Y2 != 0) = true := by simpa using h2
     clear h2;have HRx := keep (HR0.out.fits HG7.out);unfold zC at HRx;go_wp2_with ((refine wpList_store_rec rfl _ _ rfl (w_.heap.size + 1) _ rfl rfl HRx.out rfl rfl rfl ?_); intro wz hset hbz; have Hset := keep hset; have Hbut := keep hbz; clear hset hbz);refine bodyPost_ret (v := .tuple #[rdV noRd (.slice none 0 0), .int .i64 121]) ?_ rfl ⟨by rw [HRR.out], But.below (Grow.trans HG0.out HG7.out) Hbut.out (by omega) (Grow.trans HG0.out HG7.out).size⟩;exact hmark_res _ _ _ _ noRd _ rfl rfl Hset.out
attribute [local go_sem] hgs
theorem finish_res (tm : Array Value) (w : World) (b : Nat) (g : Bool) (R : Rcd) (iv : Value) (h8 : tm.getD 8 undef = .pointer (some ⟨b, 0, none⟩)) (h9 : tm.getD 9 undef = .bool g) (hB : Blk w b 71 (rdC R iv)) :
  (results Tryz.f223 tm).run Tryz.prog w = .ok (.tuple #[rdV R iv, .bool g]) w := by
 unfold rdC at hB;obtain ⟨⟨s0_, s1_, s2_, s3_, s4_, s5_, s6_, s7_, s8_, s9_, s10_, s11_, s12_, s13_, s14_, s15_⟩, _⟩ := recres hB;simp only [Array.getD_eq_getD_getElem?] at h8 h9;simp [results, Tryz.results223, go_sem, h8, h9, s0_, s1_, s2_, s3_, s4_, s5_, s6_, s7_, s8_, s9_, s10_, s11_, s12_, s13_, s14_, s15_, rdV]
def lk20 (j : Nat) : Nat := if j = 20 then 19 else j
theorem st_rec {bs pb b : Nat} {S : Pl} {R : Rcd} {w w3 w4 : World} {cs : List Value} (hT : PlT bs pb w3 S) (hS : Sel bs pb w w3) (k : But b w3 w4) (hb : w.heap.size <= b) (hB : Blk w3 b 71 cs) (hl : bs <= w.heap.size) (hR : R.imgs = []) :
  StPost bs pb S R true w (.returned (.tuple #[rdV R (.slice none 0 0), .bool true])) w4 :=
 ⟨_, [], rfl, hR.symm, ImgsC.nil _, fun _ => rfl, hT.other k hB (by decide) (by decide) (by decide), hS.other k hb hl⟩
theorem mark_imgs (P : Pg) (n slot own : Int) : (markH P n slot own).1.imgs = [] := by
 unfold markH
 split
 ·rfl
 ·split
  ·rfl
  ·split
   ·rfl
   ·split <;> rfl
set_option maxRecDepth 100000 in
set_option maxHeartbeats 8000000 in
theorem finish_any (bs pb : Nat) (S : Pl) (v : Vw) (av rv iv : Value) (P : Pg) (jv fv : Value) (w_ : World) (h : PlT bs pb w_ S) (hv : VwIn w_ v av rv iv) (hin : PgIn w_ jv P) (hil : P.items.length <= 8796093021980) :
  Calls Tryz.prog 223 #[.pointer (some ⟨pb, 0, none⟩), vwV v av rv iv, pgV P jv, fv] w_ (StPost bs pb (S.finish P).1 (S.finish P).2.1 (S.finish P).2.2 w_) := by
 obtain ⟨w0, hw0⟩ : ∃ w0, w0 = ((w_.alloc (.cells (vwCells v av rv iv).toArray 40)).alloc (.cells (pgCells P jv).toArray 28)).alloc (.cells zC.toArray 71) := ⟨_, rfl⟩;obtain ⟨hg0, hV0, hP0, hR0⟩ := vpr_new v av rv iv P jv w_ w0 hw0;obtain ⟨iva, ivc, rfl⟩ := items_form hv.items;obtain ⟨rva, rvc, rfl, _⟩ := ints_form hv.run;obtain ⟨ava, avc, rfl, _⟩ := ints_form hv.act;obtain ⟨jva, jvc, rfl⟩ := items_form hin.1;have HT := keep h;have HG0 := keep hg0;have HV0 := keep hV0;have HP0 := keep hP0;have HR0 := keep hR0;have HIn := keep hin;have HVw := keep hv;obtain ⟨R, hR⟩ : ∃ R, S.finish P = R := ⟨_, rfl⟩;have hr : R = if (markH P S.wpg S.one.2.2 S.own).2 ≠ 0 then (S.fin (markH P S.wpg S.one.2.2 S.own).2 false [] [], noRd, false) else (S.write, (markH P S.wpg S.one.2.2 S.own).1, true) := by rw [<- hR]; rfl
 rw [hR];have hmk := fun (u : World) (hu : Grow w0 u) => hmark_any P (.slice jva P.items.length jvc) S.wpg S.one.2.2 S.own u ((hin.fits hg0).fits hu) hil
 have him := mark_imgs P S.wpg S.one.2.2 S.own;generalize markH P S.wpg S.one.2.2 S.own = Y at *;obtain ⟨R1, R2⟩ := Y;obtain ⟨Q1, Q2, Q3⟩ := R;dsimp only at hr hmk him;unfold RdPost rdV pgV at hmk;have HMk := keep hmk;have HRR := keep hr;have HIm := keep him;obtain ⟨rv0, ov0, lv0, hB, -⟩ := (h.fits hg0).tab;have HPx := keep (fun (u : World) (hu : Grow w0 u) => pgres (hP0.fits hu))
 have HCx := keep (fun (u : World) (hu : Grow w0 u) => (show u.cell? ⟨pb, 9, none⟩ = some (.int .i64 S.wpg) /\ u.cell? ⟨pb, 22, none⟩ = some (.int .i64 S.one.2.2) /\ u.cell? ⟨pb, 5, none⟩ = some (.int .i64 S.own) from
  ⟨(hB.fits hu).cell 9 (by simp [plCells]), (hB.fits hu).cell 22 (by simp [plCells]), (hB.fits hu).cell 5 (by simp [plCells])⟩))
 clear hR hr hmk him h hg0 hV0 hP0 hR0 hB hv hin hil;unfold vwCells pgCells zC at hw0;unfold vwV pgV;go_enter Tryz.func223, Tryz.ntmps223;go_upto_region 1 with fail;rw [<- hw0];clear hw0;refine wp_region_link_named (by kernel_rfl) 21 lk20 (Fill w0.heap.size 71 (IsC [.int .i64 0, .int .i64 0, .int .i64 0, .int .u8 R1.kind, .int .i64 R1.xid, .int .i64 R1.page, .int .i64 R1.slot, .int .i64 R1.old, .int .i64 R1.new, .int .i64 0, .string (str R1.data), .slice none 0 0, .slice none 0 0, .slice none 0 0, .slice none 0 0, .slice none 0 0])) (Fill.refl _) (fun _ _ _ => Fill.trans (isC_lasts _ _)) (by kernel_rfl) (by kernel_rfl) [(13, 0), (14, 1), (15, 2), (16, 3), (17, 4), (18, 5), (19, 6), (20, 7), (21, 8), (22, 9), (23, 10), (24, 11), (25, 12), (26, 13), (27, 14), (28, 15), (12, 16), (29, 17), (30, 18), (10, 19)] (by kernel_rfl) [(0, true), (1, true), (2, true), (3, true), (4, true), (5, true), (6, true), (7, true), (8, true), (9, true), (10, true), (11, true), (12, true), (13, true), (14, true), (15, true), (16, true), (17, true), (18, true), (19, true), (20, true)] (by kernel_rfl) rfl rfl ?_;intro a0 ha0;have hsz : a0.tmps.size = 41 := (size_at ha0).trans rfl;have s0 := slot_at ha0 0 rfl;have s6 := slot_at ha0 6 rfl;have HA0 := keep ha0;clear ha0
 apply lexkf_eq hsz [] [(14, 1), (15, 2), (16, 3), (17, 4), (18, 5), (19, 6), (20, 7), (21, 8), (22, 9), (23, 10), (24, 11), (25, 12), (26, 13), (27, 14), (12, 16), (29, 17), (30, 18), (10, 19)] none (by kernel_rfl) (by kernel_rfl) (by kernel_rfl) (by kernel_rfl) rfl rfl
 ·intro xs w hw hp K hK;obtain ⟨p0, p1, p2, p3, p4, p5, _⟩ := HPx.out w (Grow.undrew hw.below);go_simp;exact hK _ (Fill.refl _)
 apply lexkf_eq hsz [] [(13, 0), (16, 3), (17, 4), (18, 5), (19, 6), (20, 7), (21, 8), (22, 9), (23, 10), (24, 11), (25, 12), (26, 13), (27, 14), (28, 15), (12, 16), (29, 17), (30, 18), (10, 19)] none (by kernel_rfl) (by kernel_rfl) (by kernel_rfl) (by kernel_rfl) rfl rfl
 ·intro xs w hw hp K hK;go_simp;exact hK _ (Fill.refl _)
 apply lexkf_eq hsz [(1, true)] [(13, 0), (14, 1), (17, 4), (18, 5), (19, 6), (20, 7), (21, 8), (22, 9), (23, 10), (24, 11), (25, 12), (26, 13), (27, 14), (28, 15), (12, 16), (29, 17), (30, 18), (10, 19)] none (by kernel_rfl) (by kernel_rfl) (by kernel_rfl) (by kernel_rfl) rfl rfl
 ·intro xs w hw hp K hK;simp only [hzk, lk20, reduceIte, Nat.reduceEqDiff] at hp;go_simp;exact hK _ (Fill.refl _)
 apply lexkf_eq hsz [(2, true)] [(13, 0), (14, 1), (15, 2), (18, 5), (19, 6), (20, 7), (21, 8), (22, 9), (23, 10), (24, 11), (25, 12), (26, 13), (27, 14), (28, 15), (12, 16), (29, 17), (30, 18), (10, 19)] none (by kernel_rfl) (by kernel_rfl) (by kernel_rfl) (by kernel_rfl) rfl rfl
 ·intro xs w hw hp K hK;simp only [hzk, lk20, reduceIte, Nat.reduceEqDiff] at hp;go_simp;exact hK _ (Fill.refl _)
 apply lexkf_eq hsz [(3, true)] [(13, 0), (14, 1), (15, 2), (16, 3), (19, 6), (20, 7), (21, 8), (22, 9), (23, 10), (24, 11), (25, 12), (26, 13), (27, 14), (28, 15), (12, 16), (29, 17), (30, 18), (10, 19)] none (by kernel_rfl) (by kernel_rfl) (by kernel_rfl) (by kernel_rfl) rfl rfl
 ·intro xs w hw hp K hK;simp only [hzk, lk20, reduceIte, Nat.reduceEqDiff] at hp;go_simp;exact hK _ (Fill.refl _)
 apply lexkf_eq hsz [(4, true)] [(13, 0), (14, 1), (15, 2), (16, 3), (17, 4), (19, 6), (20, 7), (21, 8), (22, 9), (23, 10), (24, 11), (25, 12), (26, 13), (27, 14), (12, 16), (29, 17), (30, 18), (10, 19)] none (by kernel_rfl) (by kernel_rfl) (by kernel_rfl) (by kernel_rfl) rfl rfl
 ·intro xs w hw hp K hK;simp only [hzk, lk20, reduceIte, Nat.reduceEqDiff] at hp;obtain ⟨c9, c22, c5⟩ := HCx.out w (Grow.undrew hw.below);go_simp;exact hK _ (Fill.refl _)
 apply lexkf_eq hsz [] [(13, 0), (14, 1), (15, 2), (16, 3), (17, 4), (18, 5), (21, 8), (22, 9), (23, 10), (24, 11), (25, 12), (26, 13), (27, 14), (28, 15), (12, 16), (29, 17), (30, 18), (10, 19)] none (by kernel_rfl) (by kernel_rfl) (by kernel_rfl) (by kernel_rfl) rfl rfl
 ·intro xs w hw hp K hK;go_simp;exact hK _ (Fill.refl _)
 apply lexkf_eq hsz [(6, true)] [(13, 0), (14, 1), (15, 2), (16, 3), (17, 4), (18, 5), (19, 6), (22, 9), (23, 10), (24, 11), (25, 12), (26, 13), (27, 14), (28, 15), (12, 16), (29, 17), (30, 18), (10, 19)] none (by kernel_rfl) (by kernel_rfl) (by kernel_rfl) (by kernel_rfl) rfl rfl
 ·intro xs w hw hp K hK;simp only [hzk, lk20, reduceIte, Nat.reduceEqDiff] at hp;go_simp;exact hK _ (Fill.refl _)
 apply lexkf_eq hsz [(7, true)] [(13, 0), (14, 1), (15, 2), (16, 3), (17, 4), (18, 5), (19, 6), (20, 7), (23, 10), (24, 11), (25, 12), (26, 13), (27, 14), (28, 15), (12, 16), (29, 17), (30, 18), (10, 19)] none (by kernel_rfl) (by kernel_rfl) (by kernel_rfl) (by kernel_rfl) rfl rfl
 ·intro xs w hw hp K hK;simp only [hzk, lk20, reduceIte, Nat.reduceEqDiff] at hp;go_simp;exact hK _ (Fill.refl _)
 apply lexkf_eq hsz [(8, true)] [(13, 0), (14, 1), (15, 2), (16, 3), (17, 4), (18, 5), (19, 6), (20, 7), (21, 8), (24, 11), (25, 12), (26, 13), (27, 14), (28, 15), (12, 16), (29, 17), (30, 18), (10, 19)] none (by kernel_rfl) (by kernel_rfl) (by kernel_rfl) (by kernel_rfl) rfl rfl
 ·intro xs w hw hp K hK;simp only [hzk, lk20, reduceIte, Nat.reduceEqDiff] at hp;go_simp;exact hK _ (Fill.refl _)
 apply lexkf_eq hsz [(9, true)] [(13, 0), (14, 1), (15, 2), (16, 3), (17, 4), (18, 5), (19, 6), (20, 7), (21, 8), (22, 9), (24, 11), (25, 12), (26, 13), (27, 14), (12, 16), (29, 17), (30, 18), (10, 19)] none (by kernel_rfl) (by kernel_rfl) (by kernel_rfl) (by kernel_rfl) rfl rfl
 ·intro xs w hw hp K hK;simp only [hzk, lk20, reduceIte, Nat.reduceEqDiff] at hp;obtain ⟨c9, c22, c5⟩ := HCx.out w (Grow.undrew hw.below);go_simp;exact hK _ (Fill.refl _)
 apply lexkf_eq hsz [] [(13, 0), (14, 1), (15, 2), (16, 3), (17, 4), (18, 5), (19, 6), (20, 7), (21, 8), (22, 9), (23, 10), (26, 13), (27, 14), (28, 15), (12, 16), (29, 17), (30, 18), (10, 19)] none (by kernel_rfl) (by kernel_rfl) (by kernel_rfl) (by kernel_rfl) rfl rfl
 ·intro xs w hw hp K hK;go_simp;exact hK _ (Fill.refl _)
 apply lexkf_eq hsz [(11, true)] [(13, 0), (14, 1), (15, 2), (16, 3), (17, 4), (18, 5), (19, 6), (20, 7), (21, 8), (22, 9), (23, 10), (24, 11), (27, 14), (28, 15), (12, 16), (29, 17), (30, 18), (10, 19)] none (by kernel_rfl) (by kernel_rfl) (by kernel_rfl) (by kernel_rfl) rfl rfl
 ·intro xs w hw hp K hK;simp only [hzk, lk20, reduceIte, Nat.reduceEqDiff] at hp;go_simp;exact hK _ (Fill.refl _)
 apply lexkf_eq hsz [(12, true)] [(13, 0), (14, 1), (15, 2), (16, 3), (17, 4), (18, 5), (19, 6), (20, 7), (21, 8), (22, 9), (23, 10), (24, 11), (25, 12), (28, 15), (12, 16), (29, 17), (30, 18), (10, 19)] none (by kernel_rfl) (by kernel_rfl) (by kernel_rfl) (by kernel_rfl) rfl rfl
 ·intro xs w hw hp K hK;simp only [hzk, lk20, reduceIte, Nat.reduceEqDiff] at hp;go_simp;exact hK _ (Fill.refl _)
 apply lexkf_eq hsz [(13, true)] [(13, 0), (14, 1), (15, 2), (16, 3), (17, 4), (18, 5), (19, 6), (20, 7), (21, 8), (22, 9), (23, 10), (24, 11), (25, 12), (26, 13), (12, 16), (29, 17), (30, 18), (10, 19)] none (by kernel_rfl) (by kernel_rfl) (by kernel_rfl) (by kernel_rfl) rfl rfl
 ·intro xs w hw hp K hK;simp only [hzk, lk20, reduceIte, Nat.reduceEqDiff] at hp;obtain ⟨c9, c22, c5⟩ := HCx.out w (Grow.undrew hw.below);go_simp;exact hK _ (Fill.refl _)
 apply lexkf_eq hsz [(0, true), (5, true), (10, true), (14, true)] [(13, 0), (14, 1), (15, 2), (16, 3), (17, 4), (18, 5), (19, 6), (20, 7), (21, 8), (22, 9), (23, 10), (24, 11), (25, 12), (26, 13), (27, 14), (29, 17), (30, 18), (10, 19)] none (by kernel_rfl) (by kernel_rfl) (by kernel_rfl) (by kernel_rfl) rfl rfl
 ·intro xs w hw hp K hK;simp only [hzk, lk20, reduceIte, Nat.reduceEqDiff] at hp;go_simp;exact (HMk.out w (Grow.undrew hw.below)).mono fun e w' h => ⟨_, h.1, hK _ (Fill.of_grow h.2 hw.below.size)⟩
 apply lexkf_eq hsz [(15, true)] [(13, 0), (14, 1), (15, 2), (16, 3), (17, 4), (18, 5), (19, 6), (20, 7), (21, 8), (22, 9), (23, 10), (24, 11), (25, 12), (26, 13), (27, 14), (28, 15), (10, 19)] none (by kernel_rfl) (by kernel_rfl) (by kernel_rfl) (by kernel_rfl) rfl rfl
 ·intro xs w hw hp K hK;simp only [hzk, lk20, reduceIte, Nat.reduceEqDiff] at hp;go_simp;exact hK _ (Fill.refl _)
 apply lexkf_eq hsz [(16, true)] [(13, 0), (14, 1), (15, 2), (16, 3), (17, 4), (18, 5), (19, 6), (20, 7), (21, 8), (22, 9), (23, 10), (24, 11), (25, 12), (26, 13), (27, 14), (28, 15), (12, 16), (30, 18), (10, 19)] none (by kernel_rfl) (by kernel_rfl) (by kernel_rfl) (by kernel_rfl) rfl rfl
 ·intro xs w hw hp K hK;simp only [hzk, lk20, reduceIte, Nat.reduceEqDiff] at hp;go_simp;exact hK _ (Fill.refl _)
 apply lexkf_eq hsz [(16, true)] [(13, 0), (14, 1), (15, 2), (16, 3), (17, 4), (18, 5), (19, 6), (20, 7), (21, 8), (22, 9), (23, 10), (24, 11), (25, 12), (26, 13), (27, 14), (28, 15), (12, 16), (29, 17), (10, 19)] none (by kernel_rfl) (by kernel_rfl) (by kernel_rfl) (by kernel_rfl) rfl rfl
 ·intro xs w hw hp K hK;simp only [hzk, lk20, reduceIte, Nat.reduceEqDiff] at hp;go_simp;exact hK _ (Fill.refl _)
 refine lexkf_says hsz (fun v u => ∃ b, v = .pointer (some ⟨b, 0, none⟩) /\ w0.heap.size <= b /\ ∃ cs : List Value, cs.length = 16 /\ Blk u b 71 cs) (fun _ _ _ g ⟨b, h1, h2, h3⟩ => ⟨b, h1, h2, fill_sixteen g h3⟩) [] [(13, 0), (14, 1), (15, 2), (16, 3), (17, 4), (18, 5), (19, 6), (20, 7), (21, 8), (22, 9), (23, 10), (24, 11), (25, 12), (26, 13), (27, 14), (28, 15), (12, 16), (29, 17), (30, 18)] none (by kernel_rfl) (by kernel_rfl) (by kernel_rfl) (by kernel_rfl) rfl rfl ?_ ?_
 ·intro xs w hw hp K hK;go_simp;exact hK _ _ ⟨_, rfl, hw.below.size, _, rfl, Blk.new w _ [.int .i64 0, .int .i64 0, .int .i64 0, .int .u8 0, .int .i64 0, .int .i64 0, .int .i64 0, .int .i64 0, .int .i64 0, .int .i64 0, .string ⟨#[]⟩, .slice none 0 0, .slice none 0 0, .slice none 0 0, .slice none 0 0, .slice none 0 0]⟩ (Fill.of_grow ((Grow.refl w).alloc _) hw.below.size)
 refine lexkf_link hsz (fun v u => ∃ b, v = .pointer (some ⟨b, 0, none⟩) /\ w0.heap.size <= b /\ Blk u b 71 [.int .i64 0, .int .i64 0, .int .i64 0, .int .u8 R1.kind, .int .i64 R1.xid, .int .i64 R1.page, .int .i64 R1.slot, .int .i64 R1.old, .int .i64 R1.new, .int .i64 0, .string (str R1.data), .slice none 0 0, .slice none 0 0, .slice none 0 0, .slice none 0 0, .slice none 0 0]) (fun _ _ _ hg ⟨b, h1, h2, h3⟩ => ⟨b, h1, h2, isC_stays hg h3⟩) [(17, true), (19, true)] [(13, 0), (14, 1), (15, 2), (16, 3), (17, 4), (18, 5), (19, 6), (20, 7), (21, 8), (22, 9), (23, 10), (24, 11), (25, 12), (26, 13), (27, 14), (28, 15), (12, 16), (29, 17), (30, 18), (10, 19)] none (by kernel_rfl) (by kernel_rfl) (by kernel_rfl) (by kernel_rfl) rfl (by decide) ?_ ?_
 ·intro xs w hw hp K hK;simp only [hzk, lk20, reduceIte, Nat.reduceEqDiff] at hp;obtain ⟨h17, b, h19, hbN, cs, hl, hB⟩ := hp;obtain ⟨a0_, a1_, a2_, a3_, a4_, a5_, a6_, a7_, a8_, a9_, a10_, a11_, a12_, a13_, a14_, a15_, rfl⟩ := len16 hl;obtain ⟨⟨r0_, r1_, r2_, r3_, r4_, r5_, r6_, r7_, r8_, r9_, r10_, r11_, r12_, r13_, r14_, r15_⟩, hz_⟩ := recres hB;have z0_ := hz_ 0;have z1_ := hz_ 1;have z2_ := hz_ 2;have z3_ := hz_ 3;have z4_ := hz_ 4;have z5_ := hz_ 5;have z6_ := hz_ 6;have z7_ := hz_ 7;have z8_ := hz_ 8;have z9_ := hz_ 9;have z10_ := hz_ 10;have z11_ := hz_ 11;have z12_ := hz_ 12;have z13_ := hz_ 13;have z14_ := hz_ 14;have z15_ := hz_ 15;have Hset := keep (recset hB (.int .i64 0) (.int .i64 0) (.int .i64 0) (.int .u8 R1.kind) (.int .i64 R1.xid) (.int .i64 R1.page) (.int .i64 R1.slot) (.int .i64 R1.old) (.int .i64 R1.new) (.int .i64 0) (.string (str R1.data)) (.slice none 0 0) (.slice none 0 0) (.slice none 0 0) (.slice none 0 0) (.slice none 0 0));have Hbut := keep (recbut w b (.int .i64 0) (.int .i64 0) (.int .i64 0) (.int .u8 R1.kind) (.int .i64 R1.xid) (.int .i64 R1.page) (.int .i64 R1.slot) (.int .i64 R1.old) (.int .i64 R1.new) (.int .i64 0) (.string (str R1.data)) (.slice none 0 0) (.slice none 0 0) (.slice none 0 0) (.slice none 0 0) (.slice none 0 0));have HB := keep hB;clear hB hl hz_;go_simp
  exact hK _ _ ⟨b, h19, hbN, Hset.out⟩ (Fill.but (cs' := [.int .i64 0, .int .i64 0, .int .i64 0, .int .u8 R1.kind, .int .i64 R1.xid, .int .i64 R1.page, .int .i64 R1.slot, .int .i64 R1.old, .int .i64 R1.new, .int .i64 0, .string (str R1.data), .slice none 0 0, .slice none 0 0, .slice none 0 0, .slice none 0 0, .slice none 0 0]) Hbut.out hbN hw.below.size HB.out rfl Hset.out rfl)
 intro xs w hw hp;have ha0 := HA0.out;clear HA0 hsz s0 s6;simp only [hzk, lk20, reduceIte, Nat.reduceEqDiff] at hp;have hM := hp.2.2.2.2.2.2.2.2.2.2.2.2.2.2.2.2.2.2.1;obtain ⟨b, h19, hbN, hQ⟩ := hp.2.2.2.2.2.2.2.2.2.2.2.2.2.2.2.2.2.2.2.2;clear hp;subst ha0;simp only [putAll, hM, h19];have HG := keep (show Grow w0 w from hw.undrew.below);have HT1 := keep (HT.out.fits (Grow.trans HG0.out HG.out));have HQ := keep hQ;generalize w = w1 at *;clear hw hM h19 hQ HPx HCx HMk
 by_cases h0 : R2 = 0
 ·subst h0;have hRR := HRR.out;rw [if_neg (fun h => h rfl)] at hRR;obtain ⟨rfl, rfl, rfl⟩ : Q1 = S.write /\ Q2 = R1 /\ Q3 = true := by cases hRR; exact ⟨rfl, rfl, rfl⟩
  have hwr := plwrite_any bs pb S w1 HT1.out;unfold PlPost at hwr;have HWr := keep hwr;clear hRR hwr;go_wp2_with fail;refine HWr.out.mono ?_;rintro x w2 ⟨rfl, h1, h2⟩;have HT2 := keep h1;have HS2 := keep ((Sel.of_grow (Nat.le_trans HT.out.low HG0.out.size) HG.out).trans h2);have HS1 := keep h2;have HS3 := keep ((Sel.of_grow HT.out.low (Grow.trans HG0.out HG.out)).trans h2);clear h1 h2 HWr;have HRx := keep (HR0.out.sel HS2.out (by decide) (by decide));have HRb := keep (HQ.out.sel HS1.out (by decide) (by decide));unfold zC at HRx;go_wp2_with (first | (refine wpList_load_rd rfl _ rfl b rfl HRb.out rfl ?_) | (refine wpList_store_rec rfl _ _ rfl (w_.heap.size + 2) _ rfl rfl HRx.out rfl rfl rfl ?_; intro wz hset hbz; have Hset := keep hset; have Hbut := keep hbz; clear hset hbz))
  refine bodyPost_ret (v := .tuple #[rdV Q2 (.slice none 0 0), .bool true]) ?_ rfl ?_
  ·exact finish_res _ _ _ _ Q2 _ rfl rfl Hset.out
  ·exact st_rec HT2.out HS3.out Hbut.out (by omega) HRx.out HT.out.low HIm.out
 ·have e1 : (R2 != 0) = true := by simpa using h0
  have hRR := HRR.out;rw [if_pos h0] at hRR;obtain ⟨rfl, rfl, rfl⟩ : Q1 = S.fin R2 false [] [] /\ Q2 = noRd /\ Q3 = false := by cases hRR; exact ⟨rfl, rfl, rfl⟩
  have hen := end_any bs pb S R2 false [] (.slice none 0 0) [] w1 HT1.out (rows_nilS _);unfold rpV PlPost at hen;rw [str_nilS] at hen;have HEn := keep hen;clear hRR hen h0;go_wp2_with fail;refine HEn.out.mono ?_;rintro x w2 ⟨rfl, h1, h2⟩;have HT2 := keep h1;have HS2 := keep ((Sel.of_grow (Nat.le_trans HT.out.low HG0.out.size) HG.out).trans h2);have HS3 := keep ((Sel.of_grow HT.out.low (Grow.trans HG0.out HG.out)).trans h2);clear h1 h2 HEn;have HRx := keep (HR0.out.sel HS2.out (by decide) (by decide));unfold zC at HRx;go_wp2_with ((refine wpList_store_rec rfl _ _ rfl (w_.heap.size + 2) _ rfl rfl HRx.out rfl rfl rfl ?_); intro wz hset hbz; have Hset := keep hset; have Hbut := keep hbz; clear hset hbz);refine bodyPost_ret (v := .tuple #[rdV noRd (.slice none 0 0), .bool false]) ?_ rfl ?_
  ·exact finish_res _ _ _ _ noRd _ rfl rfl Hset.out
  ·exact st_zero HT2.out HS3.out Hbut.out (by omega) HRx.out HT.out.low
end Go.Proofs.YtcdapdcablnhpaaGreat
namespace Go.Proofs.YtcdapdcablnhpaaGreat
open Go.RowKit
theorem rwCells_take (l : List Rw) (k : Nat) : rwCells (l.take k) = (rwCells l).take (2 * k) := by
 induction l generalizing k with
 | nil => simp [rwCells]
 | cons x l ih =>
  cases k with
  | zero => simp [rwCells]
  | succ k =>
   have e : ∀ m : List Rw, rwCells (x :: m) = rwC x ++ rwCells m := fun _ => rfl
   rw [List.take_succ_cons, e, e, ih, show 2 * (k + 1) = (rwC x).length + 2 * k by show _ = 2 + 2 * k; omega, List.take_length_add_append]
theorem rwCells_drop (l : List Rw) (k : Nat) : rwCells (l.drop k) = (rwCells l).drop (2 * k) := by
 by_cases h : k <= l.length
 ·have h1 := rwCells_append (l.take k) (l.drop k);rw [List.take_append_drop] at h1;rw [h1, List.drop_left' (by rw [rwCells_length, List.length_take]; omega)]
 ·rw [List.drop_eq_nil_of_le (by omega), List.drop_eq_nil_of_le (by rw [rwCells_length]; omega)]
  rfl
theorem rsub_lo {w : World} {a : Option Addr} {n c k : Nat} {l : List Rw} (h : RowsW w (.slice a n c) l) (hk : k <= l.length) : RowsW w (.slice a k c) (l.take k) := by
 have hl : (l.take k).length = k := by rw [List.length_take]; omega
 by_cases h0 : k = 0
 ·subst h0;exact .inl ⟨by simp, by simp [rwCells], _, _, rfl⟩
 ·rcases h with ⟨h1, _⟩ | ⟨c', off', cap', h1, h3⟩
  ·omega
  ·simp only [Value.slice.injEq] at h1;obtain ⟨rfl, _, rfl⟩ := h1;refine .inr ⟨c', off', c, by rw [hl], fun j hj => ?_⟩;rw [rwCells_length, hl] at hj;rw [h3 j (by rw [rwCells_length]; omega)];simp [rwCells_take]
theorem rsub_hi {w : World} {a : Option Addr} {n c k : Nat} {l : List Rw} (h : RowsW w (.slice a n c) l) (hk : k <= l.length) (hc : l.length <= c) : RowsW w (.slice (if c = k then a else a.map fun x => x.add (k * 2)) (l.length - k) (c - k)) (l.drop k) := by
 have hl : (l.drop k).length = l.length - k := List.length_drop
 by_cases h0 : k = l.length
 ·subst h0;exact .inl ⟨by simp, by simp [rwCells], _, _, by rw [Nat.sub_self]⟩
 ·rcases h with ⟨h1, _⟩ | ⟨c', off', cap', h1, h3⟩
  ·omega
  ·simp only [Value.slice.injEq] at h1;obtain ⟨rfl, _, rfl⟩ := h1;refine .inr ⟨c', off' + k * 2, c - k, ?_, fun j hj => ?_⟩
   ·rw [if_neg (show ¬ c = k by omega), hl];simp only [Option.map_some, Addr.add]
    split
    ·rename_i h9
     have : k = 0 := by
      have h8 : k * 2 = 0 := by simpa using h9
      omega
     subst this
     rfl
    ·rfl
   ·rw [rwCells_length, hl] at hj;rw [Nat.add_assoc, h3 (k * 2 + j) (by rw [rwCells_length]; omega)];simp only [rwCells_drop, List.getElem_drop]
    congr 2
    omega
theorem rrow_news {w : World} {v : Value} {l : List Rw} (h : RowsW w v l) (hl : 0 < l.length) : ∃ ad c, v = .slice (some ad) l.length c /\ ∀ j u, (rwCells l)[j]? = some u -> w.cell? (ad.add j) = some u := by
 rcases h with ⟨h1, _⟩ | ⟨c, off, cap, h1, h2⟩
 ·omega
 ·refine ⟨_, _, h1, fun j u hj => ?_⟩;obtain ⟨hj2, rfl⟩ := List.getElem?_eq_some_iff.1 hj;have := h2 j hj2;unfold Addr.add
  split
  ·rename_i h0
   have h9 : j = 0 := by simpa using h0
   subst h9;exact this
  ·exact this
theorem rwCells_one {u : Value} {l : List Rw} (h : u ∈ rwCells l) : u.oneCell' = true := by
 simp only [rwCells, List.mem_flatMap, rwC, List.mem_cons, List.not_mem_nil, or_false] at h;obtain ⟨a, _, rfl | rfl⟩ := h <;> rfl
theorem rapps_run (ty : TypeId) (B : Nat) (xs ys : List Rw) (v0 v : Value) (w : World) (h0 : OwnR B w v0 xs) (h : RowsW w v ys) (hb : xs.length + ys.length <= 1000) (hB : B <= w.heap.size) :
  ∃ v' w', (Builtin.append_ #[41, 41] ty #[v0, v]).run Tryz.prog w = .ok v' w' /\ OwnR B w' v' (xs ++ ys) /\ Below B w w' := by
 obtain ⟨iE, hiE, hzE0, hzE1, hzE2⟩ := info_parts infoRowR
 have hbel : ∀ w', w.grownBy w' v0.ownBlock -> Below B w w' := fun w' g => ⟨g.os, g.tape, g.output, g.size, fun k hk => g.block k (by omega) fun e => by
  have := (h0.lt _ e.symm).1
  omega⟩
 have some_case : ∀ (ad : Addr) (c : Nat), v = .slice (some ad) ys.length c -> (∀ j u, (rwCells ys)[j]? = some u -> w.cell? (ad.add j) = some u) ->
   ∃ v' w', (Builtin.append_ #[41, 41] ty #[v0, v]).run Tryz.prog w = .ok v' w' /\ OwnR B w' v' (xs ++ ys) /\ Below B w w' := by
  rintro ad c rfl hn;obtain ⟨v', w', hr, h1, h2, _⟩ := run_append_own_at (P := Tryz.prog) w B 41 ty 46 iE _ 2 32 Tryz.underlying41 hiE hzE0 hzE1 hzE2 rfl (by decide) v0 xs.length (rwCells xs) h0 ad ys.length c (rwCells ys) (by rw [rwCells_length]; omega) hn (fun u hu => rwCells_one hu) (by unfold maxLen; omega) (by omega) hB;refine ⟨v', w', hr, ?_, hbel _ h2⟩;unfold OwnR;rw [rwCells_append, List.length_append];exact h1
 by_cases hl : 0 < ys.length
 ·obtain ⟨ad, c, hv, hn⟩ := rrow_news h hl;exact some_case ad c hv hn
 ·have hy : ys = [] := List.eq_nil_of_length_eq_zero (by omega);subst hy;obtain ⟨a, c, rfl⟩ := row_slice h;cases a with
  | some ad => exact some_case ad c rfl (by simp [rwCells])
  | none =>
   refine ⟨v0, w, ?_, by rw [List.append_nil]; exact h0, Below.refl _ _⟩;rcases h0.2 with ⟨rfl, _⟩ | ⟨g, cap, cur, rfl, _, _, hnc, _⟩
   ·simp [Builtin.append_, run_underlying Tryz.underlying41, sizeOf, typeInfo, hiE, Builtin.lenOf, Builtin.firstCells]
   ·simp [Builtin.append_, run_underlying Tryz.underlying41, sizeOf, typeInfo, hiE, Builtin.lenOf, Builtin.firstCells, hnc, storeCells]
theorem wpList_rapps {ops : Array Oper} {rest : List Oper} {o : Oper} {a : Act} {Q : Exit -> Act -> World -> Prop} {w : World} (hgd : o.guard = none) (s x : Operand)
  (ho : o.op = .call { callee := .builtin .append, args := #[s, x], argTypes := #[41, 41] }) (B : Nat) (xs ys : List Rw) {l1 : List Rw} (hl1 : xs ++ ys = l1) (v0 v : Value) (hs : a.eval s = v0) (hx : a.eval x = v)
  (h0 : OwnR B w v0 xs) (h : RowsW w v ys) (hb : xs.length + ys.length <= 1000) (hB : B <= w.heap.size)
  (hk : ∀ b c w', OwnR B w' (.slice b l1.length c) l1 -> Below B w w' -> wpList Tryz.prog ops Q rest (a.put o.dst (.slice b l1.length c)) w') : wpList Tryz.prog ops Q (o :: rest) a w := by
 obtain ⟨v', w', hr, h1, h2⟩ := rapps_run o.type B xs ys v0 v w h0 h hb hB;subst hl1;obtain ⟨b, c, rfl⟩ := own_form h1;exact wpList_upon_append hgd ho hs hx hr (hk b c w' h1 h2)
end Go.Proofs.YtcdapdcablnhpaaGreat
