import Derived.Test.YtcdapdcablnhpaaGreatKWc9
import Derived.Test.YtcdapdcablnhpaaGreatKSe2
namespace Go.Proofs.YtcdapdcablnhpaaGreat
open Go.RowKit
theorem statusS_zero (v : Vw) : decide (statusS v 0 = 2) = false := by
 refine decide_eq_false fun h' => ?_
 unfold statusS at h'
 split at h'
 ·omega
 ·unfold getS at h'
  split at h'
  ·have : idsB v.m [0] = false := by
    cases hq : idsB v.m [0] with
    | false => rfl
    | true => have := (idsB_one hq).2.1; omega
   rw [this] at h';cases h'
  ·cases h'
theorem stat_two (v : Vw) (x : Int) : ((statusS v x : Int) == 2) = decide (statusS v x = 2) := by
 by_cases h : statusS v x = 2
 ·rw [h]; rfl
 ·have : ¬ ((statusS v x : Int) = 2) := by omega
  rw [decide_eq_false h]
  simpa using this
set_option maxRecDepth 100000 in
set_option maxHeartbeats 2000000 in
theorem rsees_any (v : Vw) (av rv iv : Value) (x : Int) (w : World) (hv : VwIn w v av rv iv) (h62 : ∀ x ∈ v.clog.items, (x.length : Int) <= 4611686018427387904) :
  Calls Tryz.prog 44 #[vwV v av rv iv, .int .i64 x] w fun e w' => e = .returned (.bool (seesB v x)) /\ Below w.heap.size w w' := by
 obtain ⟨w0, hw0⟩ : ∃ w0, w0 = w.alloc (.cells (vwCells v av rv iv).toArray 40) := ⟨_, rfl⟩;have hg0 : Grow w w0 := by subst hw0; exact (Grow.refl w).alloc _
 have hB0 : Blk w0 w.heap.size 40 (vwCells v av rv iv) := by subst hw0; exact Blk.new w _ _
 have hst := fun (u : World) (hu : Grow w0 u) => rstatus_any v av rv iv x u ((hv.fits hg0).fits hu) h62
 have hbe := fun (u : World) => rbefore_any v.m x v.next u
 have hin := fun (u : World) (hu : Grow w0 u) => rin_any av v.active x u ((hv.act.fits hg0).fits hu) hv.actl
 have hz := statusS_zero v;have h2 := stat_two v x;obtain ⟨iva, ivc, rfl⟩ := items_form hv.items;obtain ⟨rva, rvc, rfl, _⟩ := ints_form hv.run;obtain ⟨ava, avc, rfl, _⟩ := ints_form hv.act;obtain ⟨R, hR⟩ : ∃ R, seesB v x = R := ⟨_, rfl⟩;have hr : R = if x = 0 then false else if x = v.own then true else if v.active.contains x || !beforeB v.m x v.next then false else decide (statusS v x = 2) := by rw [<- hR]; rfl
 rw [hR];unfold vwV at hst;have HSt := keep hst;have HBe := keep hbe;have HIn := keep hin;have HR := keep hr;have HZ := keep hz;have H2 := keep h2;have HG0 := keep hg0;have HVx := keep (fun (u : World) (hu : Grow w0 u) => vwres (hB0.fits hu));clear hv hst hbe hin hR hr hz h2 hg0 hB0;unfold vwCells at hw0 HVx;obtain ⟨c0, c1, c2, c3, c4, c5, c6, c7, c8, c9, c10⟩ := HVx.out w0 (Grow.refl _);unfold vwV;go_enter Tryz.func44, Tryz.ntmps44;go_upto_region 1 with fail;rw [<- hw0];clear hw0
 by_cases hx : x = v.own /\ x ≠ 0
 ·obtain ⟨h1, h0⟩ := hx;have e0 : (x != 0) = true := by simpa using h0
  have e1 : (x == v.own) = true := by simpa using h1
  have HRR := keep (show R = true by rw [HR.out, if_neg h0, if_pos h1]);clear h1 h0;go_wp2_with fail;go_ret;exact ⟨by rw [HRR.out]; rfl, HG0.out⟩
 ·have hq : (x != 0) = false \/ ((x != 0) = true /\ (x == v.own) = false) := by
   by_cases h0 : x = 0
   ·exact .inl (by simp [h0])
   ·exact .inr ⟨by simpa using h0, by simpa using fun h => hx ⟨h, h0⟩⟩
  have HRR := keep (show R = (decide (statusS v x = 2) && (beforeB v.m x v.next && !v.active.contains x)) by
   rw [HR.out]
   by_cases h0 : x = 0
   ·subst h0;rw [if_pos rfl, HZ.out]
    rfl
   ·rw [if_neg h0, if_neg (fun h => hx ⟨h, h0⟩)]
    cases decide (statusS v x = 2) <;> cases beforeB v.m x v.next <;> cases v.active.contains x <;> rfl)
  clear hx;go_cut [12] from 5 to 12 (fun s12 wx => s12 = .bool false /\ wx = w0)
  case first =>
   rcases hq with e0 | ⟨e0, e1⟩
   ·go_wp2_with fail;go_meet
    case rel => exact ⟨rfl, rfl⟩
   ·go_wp2_with fail;go_meet
    case rel => exact ⟨rfl, rfl⟩
  case rest =>
  obtain ⟨rfl, rfl⟩ := hcut;generalize wc = w0 at *;clear hq;go_wp2_with fail;refine (HSt.out w0 (Grow.refl _)).mono ?_;rintro y w1 ⟨rfl, hb1⟩;have HG1 := keep (show Grow w0 w1 from hb1);have e2 := H2.out;clear hb1 c0 c1 c2 c3 c4 c5 c6 c7 c8 c9 c10;cases hs : decide (statusS v x = 2) with
  | false =>
   rw [hs] at e2 HRR;clear hs;go_wp2_with fail;go_ret;exact ⟨by rw [HRR.out]; rfl, Grow.trans HG0.out HG1.out⟩
  | true =>
   rw [hs] at e2 HRR;clear hs;obtain ⟨c0, c1, c2, c3, c4, c5, c6, c7, c8, c9, c10⟩ := HVx.out w1 HG1.out;go_wp2_with fail;refine (HBe.out w1).mono ?_;rintro y w2 ⟨rfl, hb2⟩;have HG2 := keep (Grow.trans HG1.out hb2);clear hb2 c0 c1 c2 c3 c4 c5 c6 c7 c8 c9 c10;cases hb : beforeB v.m x v.next with
   | false =>
    rw [hb] at HRR;clear hb;go_wp2_with fail;go_ret;exact ⟨by rw [HRR.out]; rfl, Grow.trans HG0.out HG2.out⟩
   | true =>
    rw [hb] at HRR;clear hb;obtain ⟨c0, c1, c2, c3, c4, c5, c6, c7, c8, c9, c10⟩ := HVx.out w2 HG2.out;go_wp2_with fail;refine (HIn.out w2 HG2.out).mono ?_;rintro y w3 ⟨rfl, hb3⟩;have HG3 := keep (Grow.trans HG2.out hb3);clear hb3 c0 c1 c2 c3 c4 c5 c6 c7 c8 c9 c10;generalize v.active.contains x = bb at *;go_wp2_with fail;go_ret;exact ⟨by rw [HRR.out]; rfl, Grow.trans HG0.out HG3.out⟩
theorem visB_r (v : Vw) (t : Tup) : visB v t = ((t.frozen || seesB v t.xmin) && (decide ((t.xmax : Int) = 0) || !seesB v t.xmax)) := by
 have h0 : seesB v 0 = false := by unfold seesB; rw [if_pos rfl]
 unfold visB
 by_cases hx : (t.xmax : Int) = 0
 ·rw [hx, h0];cases t.frozen <;> cases seesB v t.xmin <;> rfl
 ·rw [decide_eq_false hx];cases t.frozen <;> cases seesB v t.xmin <;> cases seesB v t.xmax <;> rfl
set_option maxRecDepth 100000 in
set_option maxHeartbeats 4000000 in
theorem rvisible_any (v : Vw) (av rv iv : Value) (t : Tup) (w : World) (hv : VwIn w v av rv iv) (h62 : ∀ x ∈ v.clog.items, (x.length : Int) <= 4611686018427387904) :
  Calls Tryz.prog 13 #[vwV v av rv iv, tupV t] w fun e w' => e = .returned (.bool (visB v t)) /\ Below w.heap.size w w' := by
 obtain ⟨w1, hw1⟩ : ∃ w1, w1 = (w.alloc (.cells (vwCells v av rv iv).toArray 40)).alloc (.cells (tuCells t).toArray 44) := ⟨_, rfl⟩;obtain ⟨hg1, hB1, hT1⟩ := vt_new v av rv iv t w w1 hw1;have h1 := fun (u : World) (hu : Grow w1 u) => rsees_any v av rv iv t.xmin u ((hv.fits hg1).fits hu) h62
 have h2 := fun (u : World) (hu : Grow w1 u) => rsees_any v av rv iv t.xmax u ((hv.fits hg1).fits hu) h62
 rw [visB_r];obtain ⟨iva, ivc, rfl⟩ := items_form hv.items;obtain ⟨rva, rvc, rfl, _⟩ := ints_form hv.run;obtain ⟨ava, avc, rfl, _⟩ := ints_form hv.act;unfold tuCells at hw1;unfold tupV;generalize seesB v t.xmin = X at *;generalize seesB v t.xmax = Y at *;have H1 := keep h1;have H2 := keep h2;have HG1 := keep hg1;have HVx := keep (fun (u : World) (hu : Grow w1 u) => vwres (hB1.fits hu));have HTx := keep (fun (u : World) (hu : Grow w1 u) => tures (hT1.fits hu));clear h1 h2 hv hg1 hB1 hT1;unfold vwV at H1 H2;unfold vwCells at hw1 HVx;unfold tuCells at HTx;generalize t.frozen = F at *;have hx0 : decide ((t.xmax : Int) = 0) = ((t.xmax : Int) == 0) := by rfl
 rw [hx0];clear hx0;obtain ⟨xb, hxb⟩ : ∃ xb, ((t.xmax : Int) == 0) = xb := ⟨_, rfl⟩;have hxn : ((t.xmax : Int) != 0) = !xb := by rw [<- hxb]; rfl
 rw [hxb];obtain ⟨c0, c1, c2, c3, c4, c5, c6, c7, c8, c9, c10⟩ := HVx.out w1 (Grow.refl _);obtain ⟨d0, d1, d2, d3, d4⟩ := HTx.out w1 (Grow.refl _);unfold vwV;go_enter Tryz.func13, Tryz.ntmps13;go_upto_region 1 with fail;rw [<- hw1];clear hw1;cases hX : (F || X) with
 | false =>
  have hF : F = false := by cases F <;> simp_all
  have hX' : X = false := by cases X <;> simp_all
  subst hF hX';clear hX;go_wp2_with fail;refine (H1.out w1 (Grow.refl _)).mono ?_;rintro e w2 ⟨rfl, hb⟩;have HG2 := keep (Grow.trans HG1.out hb);clear hb H1 c0 c1 c2 c3 c4 c5 c6 c7 c8 c9 c10 d0 d1 d2 d3 d4;go_wp2_with fail;go_ret;exact ⟨rfl, HG2.out⟩
 | true =>
  cases F with
  | true =>
   clear hX;cases xb with
   | true =>
    go_wp2_with fail;go_ret;exact ⟨rfl, HG1.out⟩
   | false =>
    go_wp2_with fail;refine (H2.out w1 (Grow.refl _)).mono ?_;rintro e w2 ⟨rfl, hb⟩;have HG2 := keep (Grow.trans HG1.out hb);clear hb H2 c0 c1 c2 c3 c4 c5 c6 c7 c8 c9 c10 d0 d1 d2 d3 d4;go_wp2_with fail;go_ret;exact ⟨rfl, HG2.out⟩
  | false =>
   have hX' : X = true := by simpa using hX
   subst hX';clear hX;go_wp2_with fail;refine (H1.out w1 (Grow.refl _)).mono ?_;rintro e w2 ⟨rfl, hb⟩;have HB2 := keep (show Grow w1 w2 from hb);have HG2 := keep (Grow.trans HG1.out hb);clear hb H1 c0 c1 c2 c3 c4 c5 c6 c7 c8 c9 c10 d0 d1 d2 d3 d4;obtain ⟨c0, c1, c2, c3, c4, c5, c6, c7, c8, c9, c10⟩ := HVx.out w2 HB2.out;obtain ⟨d0, d1, d2, d3, d4⟩ := HTx.out w2 HB2.out;cases xb with
   | true =>
    go_wp2_with fail;go_ret;exact ⟨rfl, HG2.out⟩
   | false =>
    go_wp2_with fail;refine (H2.out w2 HB2.out).mono ?_;rintro e w3 ⟨rfl, hb⟩;have HG3 := keep (Grow.trans HG2.out hb);clear hb H2 c0 c1 c2 c3 c4 c5 c6 c7 c8 c9 c10 d0 d1 d2 d3 d4;go_wp2_with fail;go_ret;exact ⟨rfl, HG3.out⟩
end Go.Proofs.YtcdapdcablnhpaaGreat
