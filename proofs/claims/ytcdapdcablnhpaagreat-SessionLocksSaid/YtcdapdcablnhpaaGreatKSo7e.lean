import Derived.Test.YtcdapdcablnhpaaGreatKSo3
import Derived.Test.YtcdapdcablnhpaaGreatKLexn
namespace Go.Proofs.YtcdapdcablnhpaaGreat
open Go.RowKit
attribute [local go_sem] givesV lookV knAt hgs
attribute [local go_sem] want_f0 want_f3 rep_f1 rep_f2 guard_want
theorem neq_want4 (w : World) : (binOp .neq 61 (.agg #[.int .i64 4, .string ⟨#[]⟩, .int .i64 0, .int .i64 0]) (.agg #[.int .i64 4, .string ⟨#[]⟩, .int .i64 0, .int .i64 0])).run Tryz.prog w = .ok (.bool false) w := by
 have := neq_want 4 0 0 4 0 0 [] [] w;rw [show sameWt (4, [], 0, 0) (4, [], 0, 0) = true by kernel_rfl] at this;exact this
attribute [local simp] neq_want4
def EnRel (pb : Nat) (L : List ShD) (S0 : Pl) (w0 : World) (i : Value) (wr : World) : Prop := ∃ n, n <= L.length /\ i = .int .i64 n /\ Kept (PlT w0.heap.size pb wr (tells S0 ((L.take n).map ShD.x))) /\ Kept (Grow w0 wr)
def EoRel (n9 : Nat) (wA : World) (i : Value) (wr : World) : Prop := ∃ n : Nat, n <= n9 /\ i = .int .i64 n /\ Kept (Grow wA wr)
theorem tells_take (S : Pl) (l : List ShD) {n : Nat} (h : n < l.length) : tells S ((l.take (n + 1)).map ShD.x) = ((tells S ((l.take n).map ShD.x)).tell l[n].x).1 := by
 rw [List.take_succ_eq_append_getElem h, List.map_append, List.map_singleton, tells_append]
theorem shows_get {W : World} {T : Nat} {v : Value} {l : List ShD} (h : Row W T v l.length (l.flatMap ShD.cells)) {i : Nat} (hi : i < l.length) : ∃ c off cap, v = .slice (some ⟨c, off, none⟩) l.length cap := by
 rcases h with ⟨h0, _⟩ | ⟨c, off, cap, e, _⟩
 ·omega
 ·exact ⟨c, off, cap, e⟩
set_option maxRecDepth 100000 in
set_option maxHeartbeats 16000000 in
theorem ends_law (call : Int) (key upk val : List UInt8) (num own : Int) (lv : Value) (l : List ShD) (e : Int) (mv : Value) (m : List ShD) (w_ : World)
  (hl : Row w_ 65 lv l.length (l.flatMap ShD.cells)) (hls : ∀ d ∈ l, ShIn w_ d) (hln : (l.length : Int) <= 1000000000000)
  (hm : Row w_ 65 mv m.length (m.flatMap ShD.cells)) (hms : ∀ d ∈ m, ShIn w_ d) (hmn : (m.length : Int) <= 1000000000000) :
  Calls Tryz.prog 6 #[askV call key upk val num, .int .i64 own, .agg #[lv, .int .i64 e, mv]] w_ fun y w' => y = .returned (.bool true) /\ Below w_.heap.size w_ w' := by
 obtain ⟨la, lc, rfl, -⟩ := row22_slice hl;obtain ⟨ma, mc, rfl, -⟩ := row22_slice hm;obtain ⟨w0, hw0⟩ : ∃ w0, w0 = (w_.alloc (.cells (askC call key upk val num).toArray 52)).alloc (.cells #[.slice la l.length lc, .int .i64 e, .slice ma m.length mc] 79) := ⟨_, rfl⟩;have hg0 : Grow w_ w0 := by subst hw0; exact ((Grow.refl w_).alloc _).alloc _
 have hA0 : Blk w0 w_.heap.size 52 (askC call key upk val num) := by subst hw0; exact (Blk.new w_ _ _).alloc _
 have hE0 : Blk w0 (w_.heap.size + 1) 79 [.slice la l.length lc, .int .i64 e, .slice ma m.length mc] := by
  have := Blk.new (w_.alloc (.cells (askC call key upk val num).toArray 52)) 79 [.slice la l.length lc, .int .i64 e, .slice ma m.length mc];have e : (w_.alloc (.cells (askC call key upk val num).toArray 52)).heap.size = w_.heap.size + 1 := by simp
  rw [e] at this;subst hw0; exact this
 have HL := keep (Row.fits hl hg0);have HM := keep (Row.fits hm hg0);have HLs := keep (fun d hd => (hls d hd).fits hg0);have HMs := keep (fun d hd => (hms d hd).fits hg0);have HLn := keep hln;have HMn := keep hmn;have HG0 := keep hg0;have HE := keep hE0;have hn := plnew_any call key upk val num own w0;unfold NewPost askV at hn;have HN := keep hn;obtain ⟨a0, a1, a2, a3, a4⟩ := (show w0.cell? ⟨w_.heap.size, 0, none⟩ = some (.int .u8 call) /\ w0.cell? ⟨w_.heap.size, 1, none⟩ = some (.string (str key)) /\ w0.cell? ⟨w_.heap.size, 2, none⟩ = some (.string (str upk)) /\ w0.cell? ⟨w_.heap.size, 3, none⟩ = some (.string (str val)) /\ w0.cell? ⟨w_.heap.size, 4, none⟩ = some (.int .i64 num) from ⟨hA0.cell 0 (by simp [askC]), hA0.cell 1 (by simp [askC]), hA0.cell 2 (by simp [askC]), hA0.cell 3 (by simp [askC]), hA0.cell 4 (by simp [askC])⟩);unfold askC at hw0;clear hl hm hls hms hln hmn hg0 hE0 hA0 hn;unfold askV;go_enter Tryz.func6, Tryz.ntmps6;go_upto_region 1 with fail;rw [<- hw0];clear hw0;go_wp2_with fail;refine HN.out.mono ?_;clear a0 a1 a2 a3 a4;rintro y w1 (⟨-, rfl, hb1⟩ | ⟨hr, pb, rfl, hpb, hT, hb1⟩)
 ·have HG1 := keep (Grow.trans HG0.out hb1);clear hb1 HN;go_wp2_with fail;refine (awake19_any w1).mono ?_;rintro y w2 ⟨rfl, hb2⟩;have HG2 := keep (Grow.trans HG1.out hb2);clear hb2;go_wp2_with fail;go_ret;exact ⟨rfl, HG2.out⟩
 have HOk := keep (PlOk.start hr);have HEd := keep (edOk_start call key upk val num own);generalize startS call key upk val num own = S0 at *;have HG1 := keep (show Grow w0 w1 from hb1);have HT1 := keep hT;have HPb := keep hpb;have hLn := HLn.out;have hMn := HMn.out;clear hr hpb hT hb1 HN;go_wp2_with fail;go_loopw [9] (fun i wr => EnRel pb l S0 w0 i wr) (fun i _ => l.length - (intOf i).toNat)
 case atStart => exact show EnRel _ _ _ _ _ _ from ⟨0, Nat.zero_le _, rfl, HT1, HG1⟩
 case round =>
  obtain ⟨n, hn1, rfl, HT, HG⟩ := hrel;obtain ⟨g0, g1, g2⟩ := (show wr.cell? ⟨w_.heap.size + 1, 0, none⟩ = some (.slice la l.length lc) /\ wr.cell? ⟨w_.heap.size + 1, 1, none⟩ = some (.int .i64 e) /\ wr.cell? ⟨w_.heap.size + 1, 2, none⟩ = some (.slice ma m.length mc) from ⟨(HE.out.fits HG.out).cell 0 (by simp), (HE.out.fits HG.out).cell 1 (by simp), (HE.out.fits HG.out).cell 2 (by simp)⟩)
  by_cases h1 : n < l.length
  ·have HTk := keep (tells_take S0 l h1);obtain ⟨c, off, cap, e1⟩ := shows_get HL.out h1;simp only [Value.slice.injEq] at e1;obtain ⟨rfl, -, rfl⟩ := e1;have hrg := show_range (Row.fits HL.out HG.out) h1;have hx := HLs.out l[n] (List.getElem_mem h1);have hok := hx.ok (pb := pb) HG.out HPb.out;obtain ⟨bva, bvc, ebv⟩ := items_form hx.pg.1;obtain ⟨iva, ivc, eiv⟩ := items_form hx.vw.items;obtain ⟨rva, rvc, erv, _⟩ := ints_form hx.vw.run;obtain ⟨ava, avc, eav, _⟩ := ints_form hx.vw.act;obtain ⟨fva, fvc, efv, _⟩ := ints_form hx.fr;have htl := tell_any _ pb _ _ _ _ _ _ _ wr HT.out (HOk.out.tells ((l.take n).map ShD.x)) hok;generalize tells S0 ((l.take n).map ShD.x) = S at *;generalize l[n] = d at *;obtain ⟨x, bv, av, rv, iv, fv⟩ := d;dsimp only at *;subst ebv eiv erv eav efv;unfold shV at htl;unfold ShD.cells shC at hrg;dsimp only at hrg;have HRg := keep hrg;clear hrg;have HTl := keep htl;clear htl hx hok;go_wp2_with (refine wpList_load_show rfl _ rfl c (off + n * 22) rfl HRg.out rfl ?_);refine HTl.out.mono ?_;rintro y w2 ⟨rfl, hT2, hS2⟩;have HT2 := keep hT2;have HG2 := keep (show Grow w0 w2 from Below.trans HG.out (hS2.below HPb.out));clear hT2 hS2 HRg g0 g1 g2 HTl;go_wp2_with fail;go_roundw
   case rel => exact show EnRel _ _ _ _ _ _ from ⟨n + 1, h1, by go_num, keep (by rw [HTk.out]; exact HT2.out), HG2⟩
   case measure => simp [intOf]; omega
  ·have hok := HOk.out.tells ((l.take n).map ShD.x);have hed := HEd.out.tells HOk.out ((l.take n).map ShD.x);have hT := HT.out;generalize tells S0 ((l.take n).map ShD.x) = S at *;have hfa := plfail_any _ pb S e wr hT;have h4 := fail_over S e;have hok2 := hok.failed e;have hed2 := edOk_fail hed e h4;have hrr := hok2.rrl;have h0 := (hok2.over h4).1;unfold PlPost at hfa;have HFa := keep hfa;clear hT hfa hok hed hok2 HT;generalize S.fail e = S2 at *;go_wp2_with fail;refine HFa.out.mono ?_;rintro y w2 ⟨rfl, hT2, hS2⟩;have HG2 := keep (show Grow w0 w2 from Below.trans HG.out (hS2.below HPb.out));have hre := fun (u : World) (hu : Grow w2 u) => plreply_any _ pb S2 u (hT2.fits hu) hrr
   have hwt := fun (u : World) (hu : Grow w2 u) => plwant_any _ pb S2 u (hT2.fits hu)
   obtain ⟨d1, d2, d3⟩ := hed2;unfold wtV at hwt;rw [h4, d1, d2, d3, str_nilS] at hwt;have hrl : S2.rep.2.2.2.length <= 1000 := by
    unfold Pl.rep;rw [if_pos h4];exact hrr
   unfold RpPost rpV at hre;have hov := fun (u : World) (hu : Grow w2 u) (d : ShD) (hd : ShIn w0 d) => over_tell _ pb S2 d u (hT2.fits hu) h4 h0 (hd.fits (Grow.trans HG2.out hu))
   generalize S2.rep = q at *;obtain ⟨q1, q2, q3, q4⟩ := q;dsimp only at hre hrl;have HRe := keep hre;have HWt := keep hwt;have HOv := keep hov;have HRl := keep hrl;have hrr2 := fun (u : World) (qv rv : Value) (hq : RowS u 46 qv q4.length (rwCells q4)) (hr : RowS u 46 rv q4.length (rwCells q4)) => reply19_any (q1, q2, q3, q4) (q1, q2, q3, q4) qv rv u hq hr HRl.out HRl.out
   rw [show sameRp (q1, q2, q3, q4) (q1, q2, q3, q4) = true by unfold sameRp; simp] at hrr2;unfold rpV at hrr2;dsimp only at hrr2;have HRr2 := keep hrr2;clear hT2 hS2 hre hwt hov hrl hrr hrr2 h4 h0 d1 d2 d3 HFa g0 g1 g2 HG;go_wp2_with fail;refine (HRe.out w2 (Grow.refl _)).mono ?_;rintro y w3 ⟨qv, rfl, hq, hb3⟩;obtain ⟨qa, qc, rfl⟩ := row_slice hq.weak;have HQ3 := keep hq;have HB3 := keep (show Grow w2 w3 from hb3);clear hq hb3;go_upto_region 10 with fail;obtain ⟨w4, hw4⟩ : ∃ w4, w4 = w3.alloc (.cells #[.int .i64 q1, .bool q2, .string (str q3), .slice qa q4.length qc] 56) := ⟨_, rfl⟩;rw [<- hw4];have hg4 : Grow w3 w4 := by subst hw4; exact (Grow.refl _).alloc _
   have hB4 : Blk w4 w3.heap.size 56 [.int .i64 q1, .bool q2, .string (str q3), .slice qa q4.length qc] := by subst hw4; exact Blk.new w3 _ [_, _, _, _]
   have HB := keep hB4;have HQ4 := keep (RowS.fits HQ3.out hg4);have HG4 := keep (Grow.trans HB3.out hg4);generalize w3.heap.size = rb at *;clear hw4 hg4 hB4 HQ3 HB3;go_wp2_with fail;refine (HWt.out w4 HG4.out).mono ?_;rintro y w5 ⟨rfl, hb5⟩;have HG5 := keep (Grow.trans HG4.out hb5);have HQ5 := keep (RowS.fits HQ4.out hb5);have HB5 := keep (HB.out.fits hb5);clear hb5 HB HQ4 HG4;go_wp2_with fail;go_loopw [11] (fun i wr => EoRel m.length w5 i wr) (fun i _ => m.length - (intOf i).toNat)
   case atStart => exact show EoRel _ _ _ _ from ⟨0, Nat.zero_le _, rfl, keep (Grow.refl _)⟩
   case round =>
    obtain ⟨n2, hn2, rfl, HGn⟩ := hrel;have hGE := Grow.trans HG2.out (Grow.trans HG5.out HGn.out);have g2 := (HE.out.fits hGE).cell 2 (by simp);simp only [List.getElem_cons_zero, List.getElem_cons_succ] at g2
    by_cases h1 : n2 < m.length
    ·obtain ⟨c, off, cap, e1⟩ := shows_get HM.out h1;simp only [Value.slice.injEq] at e1;obtain ⟨rfl, -, rfl⟩ := e1;have hrg := fun (u : World) (hu : Grow w0 u) => show_range (Row.fits HM.out hu) h1
     have htl := fun (u : World) (hu : Grow w2 u) => HOv.out u hu m[n2] (HMs.out m[n2] (List.getElem_mem h1))
     obtain ⟨ba_, bn_, bc_, aa_, an_, ac_, ra_, rn_, rc_, ia_, iN_, ic_, fa_, fn_, fc_, e1, e2, e3, e4, e5⟩ := (HMs.out m[n2] (List.getElem_mem h1)).forms;generalize m[n2] = d at *;obtain ⟨x, bv, av, rv, iv, fv⟩ := d;dsimp only at *;subst e1 e2 e3 e4 e5;unfold shV at htl;unfold ShD.cells shC at hrg;dsimp only at hrg;have HRg := keep hrg;have HTl := keep htl;clear hrg htl;go_upto_region 15 with fail;clear g2;refine rgv 19 (by kernel_rfl) (by kernel_rfl) rfl rfl ?_;intro a0 ha0;have hsz : a0.tmps.size = 81 := (size_at ha0).trans rfl;have s5 := slot_at ha0 5 rfl;have s7 := slot_at ha0 7 rfl;have s10 := slot_at ha0 10 rfl;have s11 := slot_at ha0 11 rfl;have HA0 := keep ha0;clear ha0
     iterate 2
      apply lxv hsz Grow.refl (by kernel_rfl) rfl
      ·intro xs w hw K hK;go_simp;exact hK
     apply lxv hsz Grow.refl (by kernel_rfl) rfl
     ·intro xs w hw K hK;have f2 := (HE.out.fits (Grow.trans HG2.out (Grow.trans HG5.out (Grow.trans HGn.out hw.undrew)))).cell 2 (by simp);simp only [List.getElem_cons_zero, List.getElem_cons_succ] at f2;go_simp;exact hK
     iterate 2
      apply lxv hsz Grow.refl (by kernel_rfl) rfl
      ·intro xs w hw K hK;go_simp;exact hK
     apply lxe hsz [] (by kernel_rfl) rfl
     ·intro xs w hw hp K hK;refine givesV_load_mid rfl _ _ rfl c (off + n2 * 22) (by go_simp) _ (HRg.out w (Grow.trans HG2.out (Grow.trans HG5.out (Grow.trans HGn.out hw.undrew)))) underShow (by kernel_rfl) (show _ = some 22 by kernel_rfl) (hK _ (Grow.refl _))
     apply lxe hsz [] (by kernel_rfl) rfl
     ·intro xs w hw hp K hK;go_simp;exact (HTl.out w (Grow.trans HG5.out (Grow.trans HGn.out hw.undrew))).mono fun e w' ⟨h1, h2⟩ => ⟨_, h1, hK _ h2⟩
     iterate 2
      apply lxv hsz Grow.refl (by kernel_rfl) rfl
      ·intro xs w hw K hK;go_simp;exact hK
     apply lxe hsz [] (by kernel_rfl) rfl
     ·intro xs w hw hp K hK;go_simp;exact (HWt.out w (Grow.trans HG5.out (Grow.trans HGn.out hw.undrew))).mono fun e w' ⟨h1, h2⟩ => ⟨_, h1, hK _ h2⟩
     iterate 5
      apply lxv hsz Grow.refl (by kernel_rfl) rfl
      ·intro xs w hw K hK;go_simp;exact hK
     refine lxs hsz (fun v u => ∃ ra rc, v = .agg #[.int .i64 q1, .bool q2, .string (str q3), .slice ra q4.length rc] /\ RowS u 46 (.slice ra q4.length rc) q4.length (rwCells q4)) (fun _ _ _ g ⟨ra, rc, h1, h2⟩ => ⟨ra, rc, h1, RowS.fits h2 g⟩) [] (by kernel_rfl) rfl ?_ ?_
     ·intro xs w hw hp K hK;go_simp;refine (HRe.out w (Grow.trans HG5.out (Grow.trans HGn.out hw.undrew))).mono ?_;rintro e w' ⟨rv, h1, h2, h3⟩;obtain ⟨ra, rc, rfl⟩ := row_slice h2.weak;exact ⟨_, h1, hK _ _ ⟨ra, rc, rfl, h2⟩ h3⟩
     apply lxv hsz Grow.refl (by kernel_rfl) rfl
     ·intro xs w hw K hK;obtain ⟨⟨b0, b1, b2, b3⟩, -⟩ := rp4 (HB5.out.fits (Grow.trans HGn.out hw.undrew));go_simp;exact hK
     apply lxe hsz [(15, true)] (by kernel_rfl) rfl
     ·intro xs w hw hp K hK;simp only [hzv] at hp;obtain ⟨ra2, rc2, h2, h2b⟩ := hp;go_simp;exact (HRr2.out w _ _ h2b (RowS.fits HQ5.out (Grow.trans HGn.out hw.undrew))).mono fun e w' ⟨h1, h2⟩ => ⟨_, h1, hK _ h2⟩
     apply lxv hsz Grow.refl (by kernel_rfl) rfl
     ·intro xs w hw K hK;go_simp;exact hK
     refine rgd [] (by kernel_rfl) rfl ?_;intro xs w hw hp;have ha0 := HA0.out;clear HA0 hsz s5 s7 s10 s11;clear hp;subst ha0;simp only [putV];have HG6 := keep (Grow.trans HGn.out hw.undrew);generalize w = w6 at *;clear hw;go_frame;go_wp2_with fail;go_roundw
     case rel => exact show EoRel _ _ _ _ from ⟨n2 + 1, h1, by go_num, HG6⟩
     case measure => simp [intOf]; omega
    ·go_wp2_with fail;refine (awake19_any wr).mono ?_;rintro y w6 ⟨rfl, hb6⟩;have HG6 := keep (Grow.trans HG0.out (Grow.trans hGE hb6));clear hb6 g2 hGE;go_wp2_with fail;go_ret;exact ⟨rfl, HG6.out⟩
end Go.Proofs.YtcdapdcablnhpaaGreat
namespace Go.Proofs.YtcdapdcablnhpaaGreat
open Go.ChangeShapes Go.WideShapes Go.ChangeAt Go.RowKit
theorem ends_top (call : Int) (key upk val : List UInt8) (num own : Int) (lv : Value) (l : List ShD) (e : Int) (mv : Value) (m : List ShD) (w : World) (_ : 0 <= call) (_ : call <= 255) (_ : (key.length : Int) <= 140737488355328) (_ : (upk.length : Int) <= 140737488355328) (_ : (val.length : Int) <= 140737488355328) (_ : num <= 9223372036854775807)
  (hl : Row w 65 lv l.length (l.flatMap ShD.cells)) (hls : ∀ d ∈ l, ShIn w d) (hln : (l.length : Int) <= 1000000000000)
  (hm : Row w 65 mv m.length (m.flatMap ShD.cells)) (hms : ∀ d ∈ m, ShIn w d) (hmn : (m.length : Int) <= 1000000000000) :
  Calls Tryz.prog 6 #[askV call key upk val num, .int .i64 own, .agg #[lv, .int .i64 e, mv]] w fun y w' => y = .returned (.bool true) /\ Below w.heap.size w w' :=
 ends_law call key upk val num own lv l e mv m w hl hls hln hm hms hmn
end Go.Proofs.YtcdapdcablnhpaaGreat
