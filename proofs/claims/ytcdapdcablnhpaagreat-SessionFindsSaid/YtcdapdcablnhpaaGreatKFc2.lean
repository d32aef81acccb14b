import Derived.Test.YtcdapdcablnhpaaGreatKFd2
import Derived.Test.YtcdapdcablnhpaaGreatKSo4
import Derived.Deep.CutRange
namespace Go.Proofs.YtcdapdcablnhpaaGreat
open Go.RowKit
attribute [local go_sem] givesV lookV knAt hgs
attribute [local go_sem] want_f0 want_f3 rep_f1 rep_f2 guard_want
def RdRel (v : Vw) (A H : Pg) (bs pb : Nat) (S : Pl) (w0 : World) (i : Value) (wr : World) : Prop := ∃ (k : Nat) (S' : Pl), k <= 1000 /\ i = .int .i64 k /\ Kept (PlT bs pb wr S') /\ Kept (PlOk S' /\ ∃ n, RdOk S' n) /\ Kept (runP v A H (1000 - k) S' = runP v A H 1000 S) /\ Kept (Sel bs pb w0 wr)
theorem runP_end {v : Vw} {A H : Pg} {S S' : Pl} {k : Nat} (h : runP v A H (1000 - k) S' = runP v A H 1000 S) (hk : k = 1000 \/ S'.wk ≠ 3) : S' = runP v A H 1000 S := by
 rcases hk with rfl | hk
 ·exact h
 ·rw [<- h, runP_over _ _ _ _ hk]
set_option maxRecDepth 100000 in
set_option maxHeartbeats 8000000 in
theorem reads19_any (bs pb : Nat) (S : Pl) (v : Vw) (A H : Pg) (aa ra ia : Option Addr) (an ac rn rc iN ic : Nat) (ba : Option Addr) (bn bc : Nat) (ha : Option Addr) (hn hc : Nat) (w_ : World) (h : PlT bs pb w_ S) (ok : PlOk S /\ ∃ n, RdOk S n)
  (hvk : VwK bs pb w_ v (.slice aa an ac) (.slice ra rn rc) (.slice ia iN ic)) (hpa : PgK bs pb w_ (.slice ba bn bc) A) (hca : Capd (.slice ba bn bc)) (hla : A.items.length <= 8796093021980) (hph : PgK bs pb w_ (.slice ha hn hc) H) (hch : Capd (.slice ha hn hc)) (hlh : H.items.length <= 8796093021980) :
  Calls Tryz.prog 15 #[.pointer (some ⟨pb, 0, none⟩), vwV v (.slice aa an ac) (.slice ra rn rc) (.slice ia iN ic), pgV A (.slice ba bn bc), pgV H (.slice ha hn hc)] w_ (PlPost bs pb (runP v A H 1000 S) w_) := by
 obtain ⟨w0, hw0⟩ : ∃ w0, w0 = ((w_.alloc (.cells (vwCells v (.slice aa an ac) (.slice ra rn rc) (.slice ia iN ic)).toArray 40)).alloc (.cells (pgCells A (.slice ba bn bc)).toArray 28)).alloc (.cells (pgCells H (.slice ha hn hc)).toArray 28) := ⟨_, rfl⟩;have hg0 : Grow w_ w0 := by subst hw0; exact (((Grow.refl w_).alloc _).alloc _).alloc _
 have hV0 : Blk w0 w_.heap.size 40 (vwCells v (.slice aa an ac) (.slice ra rn rc) (.slice ia iN ic)) := by subst hw0; exact ((Blk.new w_ _ _).alloc _).alloc _
 have hA0 : Blk w0 (w_.heap.size + 1) 28 (pgCells A (.slice ba bn bc)) := by
  have := (Blk.new (w_.alloc (.cells (vwCells v (.slice aa an ac) (.slice ra rn rc) (.slice ia iN ic)).toArray 40)) 28 (pgCells A (.slice ba bn bc))).alloc (.cells (pgCells H (.slice ha hn hc)).toArray 28);have e : (w_.alloc (.cells (vwCells v (.slice aa an ac) (.slice ra rn rc) (.slice ia iN ic)).toArray 40)).heap.size = w_.heap.size + 1 := by simp
  rw [e] at this;subst hw0; exact this
 have hB0 : Blk w0 (w_.heap.size + 2) 28 (pgCells H (.slice ha hn hc)) := by
  have := Blk.new ((w_.alloc (.cells (vwCells v (.slice aa an ac) (.slice ra rn rc) (.slice ia iN ic)).toArray 40)).alloc (.cells (pgCells A (.slice ba bn bc)).toArray 28)) 28 (pgCells H (.slice ha hn hc));have e : ((w_.alloc (.cells (vwCells v (.slice aa an ac) (.slice ra rn rc) (.slice ia iN ic)).toArray 40)).alloc (.cells (pgCells A (.slice ba bn bc)).toArray 28)).heap.size = w_.heap.size + 2 := by simp
  rw [e] at this;subst hw0; exact this
 have HS0 := keep (Sel.of_grow (pb := pb) h.low hg0);have HT0 := keep (h.fits hg0);have HOk0 := keep ok;have HV0 := keep hV0;have HA0 := keep hA0;have HB0 := keep hB0;have HVk := keep hvk;have HPkA := keep hpa;have HPkH := keep hph;have HCA := keep hca;have HCH := keep hch;have HLA := keep hla;have HLH := keep hlh;unfold vwCells pgCells at hw0;clear h ok hvk hpa hph hca hch hla hlh hg0 hV0 hA0 hB0;unfold vwV pgV;go_enter Tryz.func15, Tryz.ntmps15;go_upto_region 1 with fail;rw [<- hw0];clear hw0;go_wp2_with fail;go_loopw [8] (fun i wr => RdRel v A H bs pb S w0 i wr) (fun i _ => 1000 - (intOf i).toNat)
 case atStart => exact show RdRel _ _ _ _ _ _ _ _ _ from ⟨0, S, Nat.zero_le _, rfl, HT0, HOk0, keep rfl, keep (Sel.refl _ _ _)⟩
 case round =>
  obtain ⟨k, S9, hk, rfl, HT, HOk, HRun, HS⟩ := hrel;have HSw := keep (HS0.out.trans HS.out);have hlow := HT.out.low;have hwt := fun (u : World) (hu : Grow wr u) => plwant_any bs pb S9 u (HT.out.fits hu)
  unfold wtV at hwt;have HWt := keep hwt;have HLow := keep hlow;clear hwt hlow
  by_cases hlt : k < 1000
  ·have e1 : decide ((k : Int) < 1000) = true := decide_eq_true (by omega);go_wp2_with fail;refine (HWt.out wr (Grow.refl _)).mono ?_;rintro y w2 ⟨rfl, hb2⟩;have HG2 := keep (show Grow wr w2 from hb2);clear hb2
   by_cases h3 : S9.wk = 3
   ·have e3 : (S9.wk == 3) = true := by simp [h3]
    have HW3 := keep h3;clear h3;go_wp2_with fail;refine (HWt.out w2 HG2.out).mono ?_;rintro y w3 ⟨rfl, hb3⟩;have HG3 := keep (Grow.trans HG2.out hb3);have HSq := keep (HS.out.trans (Sel.of_grow (pb := pb) HLow.out HG3.out));have HS3 := keep (HSw.out.trans (Sel.of_grow (pb := pb) HLow.out HG3.out));have HT3 := keep (HT.out.fits HG3.out);have HV3 := keep (HV0.out.sel HSq.out (by decide) (by decide));have HA3 := keep (HA0.out.sel HSq.out (by decide) (by decide));have HB3 := keep (HB0.out.sel HSq.out (by decide) (by decide));clear hb3 HWt HG2 HSw
    by_cases h1 : S9.wpg = 1
    ·have e4 : (S9.wpg == 1) = true := by simp [h1]
     have HPg1 := keep h1;clear h1;have hpg := plpage_low bs pb S9 v (.slice aa an ac) (.slice ra rn rc) (.slice ia iN ic) A (.slice ba bn bc) (.slice none 0 0) [] w3 HT3.out HOk.out.1 (by obtain ⟨n, h⟩ := HOk.out.2; exact Nat.le_trans h.st (by decide)) (HVk.out.sel HS3.out) (HPkA.out.sel HS3.out) HCA.out (fun _ _ => (none_ints _).weak) (by decide) HLA.out;unfold StPost vwV pgV at hpg;have HPg := keep hpg;clear hpg;obtain ⟨q0, q1, q2, q3, q4, q5, q6, q7, q8, q9, q10⟩ := vwres HV3.out;obtain ⟨p0, p1, p2, p3, p4, p5, _⟩ := pgres HA3.out;obtain ⟨s0, s1, s2, s3, s4, s5, _⟩ := pgres HB3.out;go_wp2_with fail;refine HPg.out.mono ?_;rintro yy w4 ⟨iv4, T4, rfl, hT4, hI4, hn4, h1, h2⟩;have HS4 := keep (HSq.out.trans h2);have HT4 := keep h1
     have HRun4 := keep (show runP v A H (1000 - (k + 1)) (S9.page v A []).1 = runP v A H 1000 S by
      rw [<- HRun.out, show 1000 - k = (1000 - (k + 1)) + 1 by omega, runP_step _ _ _ _ HW3.out, if_pos HPg1.out])
     clear q0 q1 q2 q3 q4 q5 q6 q7 q8 q9 q10 p0 p1 p2 p3 p4 p5 s0 s1 s2 s3 s4 s5 h1 h2 hT4 hI4 hn4 HPg;go_wp2_with fail;go_roundw
     case rel => exact show RdRel _ _ _ _ _ _ _ _ _ from ⟨k + 1, _, by omega, by go_num, HT4, keep ⟨HOk.out.1.page v A [], by obtain ⟨n, h⟩ := HOk.out.2; exact ⟨n, (h.page v A []).1⟩⟩, HRun4, HS4⟩
     case measure => simp [intOf]; omega
    ·have e4 : (S9.wpg == 1) = false := by simpa using h1
     have HPg1 := keep h1;clear h1;have hpg := plpage_low bs pb S9 v (.slice aa an ac) (.slice ra rn rc) (.slice ia iN ic) H (.slice ha hn hc) (.slice none 0 0) [] w3 HT3.out HOk.out.1 (by obtain ⟨n, h⟩ := HOk.out.2; exact Nat.le_trans h.st (by decide)) (HVk.out.sel HS3.out) (HPkH.out.sel HS3.out) HCH.out (fun _ _ => (none_ints _).weak) (by decide) HLH.out;unfold StPost vwV pgV at hpg;have HPg := keep hpg;clear hpg;obtain ⟨q0, q1, q2, q3, q4, q5, q6, q7, q8, q9, q10⟩ := vwres HV3.out;obtain ⟨p0, p1, p2, p3, p4, p5, _⟩ := pgres HA3.out;obtain ⟨s0, s1, s2, s3, s4, s5, _⟩ := pgres HB3.out;go_wp2_with fail;refine HPg.out.mono ?_;rintro yy w4 ⟨iv4, T4, rfl, hT4, hI4, hn4, h1, h2⟩;have HS4 := keep (HSq.out.trans h2);have HT4 := keep h1
     have HRun4 := keep (show runP v A H (1000 - (k + 1)) (S9.page v H []).1 = runP v A H 1000 S by
      rw [<- HRun.out, show 1000 - k = (1000 - (k + 1)) + 1 by omega, runP_step _ _ _ _ HW3.out, if_neg HPg1.out])
     clear q0 q1 q2 q3 q4 q5 q6 q7 q8 q9 q10 p0 p1 p2 p3 p4 p5 s0 s1 s2 s3 s4 s5 h1 h2 hT4 hI4 hn4 HPg;go_wp2_with fail;go_roundw
     case rel => exact show RdRel _ _ _ _ _ _ _ _ _ from ⟨k + 1, _, by omega, by go_num, HT4, keep ⟨HOk.out.1.page v H [], by obtain ⟨n, h⟩ := HOk.out.2; exact ⟨n, (h.page v H []).1⟩⟩, HRun4, HS4⟩
     case measure => simp [intOf]; omega
   ·have e3 : (S9.wk == 3) = false := by simpa using h3
    have HE := keep (runP_end HRun.out (.inr h3));clear h3;go_wp2_with fail;refine bodyPost_ret (v := .tuple #[]) ?_ rfl (show PlPost _ _ _ _ _ _ from ⟨rfl, by rw [<- HE.out]; exact HT.out.fits HG2.out, HSw.out.trans (Sel.of_grow HLow.out HG2.out)⟩);simp [results, Tryz.results15, go_sem]
  ·have hk9 : k = 1000 := by omega
   have e1 : decide ((k : Int) < 1000) = false := decide_eq_false (by omega);have HE := keep (runP_end HRun.out (.inl hk9));clear hk9;go_wp2_with fail;refine bodyPost_ret (v := .tuple #[]) ?_ rfl (show PlPost _ _ _ _ _ _ from ⟨rfl, by rw [<- HE.out]; exact HT.out, HSw.out⟩);simp [results, Tryz.results15, go_sem]
end Go.Proofs.YtcdapdcablnhpaaGreat
