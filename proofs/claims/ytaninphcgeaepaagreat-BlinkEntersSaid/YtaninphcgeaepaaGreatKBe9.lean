import Derived.Test.YtaninphcgeaepaaGreatKBe5
import Derived.Test.YtaninphcgeaepaaGreatKBe8
import Derived.Deep.CutRange
namespace Go.Proofs.YtaninphcgeaepaaGreat
open Go.RowKit
attribute [local go_sem] givesF_none givesF_some evalF_tmp evalF_const evalF_global evalF_func lookL isB_bool isB_undef givesUpon_value givesUpon_skip givesUpon_enter
theorem laid_code (P : Pg) (item : List UInt8) : (laidN P item).2.2 = (layN P item).2.2 := by
 unfold laidN
 split
 ·rename_i h; exact h.symm
 ·rfl
set_option maxRecDepth 100000 in
set_option maxHeartbeats 2000000 in
theorem rneed_any (P : Pg) (iv : Value) (n : Int) (item : List UInt8) (w_ : World) (hin : PgIn w_ iv P) (hcap : Capd iv) (hs : (item.length : Int) ≤ 140737488355328) :
  Calls Tryz.prog 6 #[pgV P iv, .int .i64 n, .string (str item)] w_ (NeedPost P n item w_) := by
 obtain ⟨w0, hw0⟩ : ∃ w0, w0 = w_.alloc (.cells (pgCells P iv).toArray 24) := ⟨_, rfl⟩
 have hg0 : Grow w_ w0 := by subst hw0; exact (Grow.refl w_).alloc _
 have hP0 : Blk w0 w_.heap.size 24 (pgCells P iv) := by subst hw0; exact Blk.new w_ _ _
 have hla := rlaid_any P iv item w0 (hin.fits hg0) hcap hs
 have hpo : ∀ (x : Ending) (w' : World), NeedPost P n item w_ x w' ↔ (x = .returned (.tuple #[.int .i64 (if (layN P item).2.2 ≠ 3 then (0, (layN P item).2.2) else if n = 1 then (2, 0) else (1, 0) : Int × Int).1, .int .i64 (if (layN P item).2.2 ≠ 3 then (0, (layN P item).2.2) else if n = 1 then (2, 0) else (1, 0) : Int × Int).2]) ∧ Below w_.heap.size w_ w') := fun _ _ => Iff.rfl
 unfold LaidN LayPost at hla
 rw [← laid_code P item] at hpo
 generalize laidN P item = Y at *
 obtain ⟨Q, e, c⟩ := Y
 obtain ⟨k, p, s⟩ := e
 unfold pgV enV at hla
 dsimp only at hla hpo
 have HLa := keep hla
 have HPo := keep hpo
 have HG0 := keep hg0
 clear hla hpo hin hcap hg0
 unfold pgCells at hw0 hP0
 obtain ⟨p0, p1, p2, p3, p4, p5, _⟩ := pgres hP0
 clear hP0
 unfold pgV
 go_enter Tryz.func6, Tryz.ntmps6
 go_upto_region 1 with fail
 rw [← hw0]
 clear hw0
 go_wp2_with fail
 refine HLa.out.mono ?_
 rintro x w1 ⟨jv, rfl, hit, hb1⟩
 obtain ⟨ja, jc, rfl⟩ := itemsS_form hit.1
 clear p0 p1 p2 p3 p4 p5 hit
 have HG1 := keep (Grow.trans HG0.out hb1)
 clear hb1
 go_upto_region 2 with fail
 obtain ⟨w2, hw2⟩ : ∃ w2, w2 = (w1.alloc (.cells #[.int .i64 Q.lsn, .int .i64 Q.kind, .int .i64 Q.level, .int .i64 Q.right, .string (str Q.high), .slice ja Q.items.length jc] 24)).alloc (.cells #[.string (str k), .int .i64 p, .int .i64 s] 41) := ⟨_, rfl⟩
 have HG2 := keep (show Grow w_ w2 by subst hw2; exact (HG1.out.alloc _).alloc _)
 rw [← hw2]
 clear hw2
 by_cases hc : c = 3
 ·have hc2 : (c != 3) = false := by simp [hc]
  by_cases hn : n = 1
  ·have hn2 : (n == 1) = true := by simp [hn]
   have HC := keep hc
   have HN := keep hn
   clear hc hn
   go_wp2_with fail
   go_ret2
   exact (HPo.out _ _).2 ⟨by rw [if_neg (fun h => h HC.out), if_pos HN.out]; rfl, HG2.out⟩
  ·have hn2 : (n == 1) = false := by simp [hn]
   have HC := keep hc
   have HN := keep hn
   clear hc hn
   go_wp2_with fail
   go_ret2
   exact (HPo.out _ _).2 ⟨by rw [if_neg (fun h => h HC.out), if_neg HN.out]; rfl, HG2.out⟩
 ·have hc2 : (c != 3) = true := by simp [hc]
  have HC := keep hc
  clear hc
  go_wp2_with fail
  go_ret2
  exact (HPo.out _ _).2 ⟨by rw [if_pos HC.out]; rfl, HG2.out⟩
theorem getD_at {l : List Int} {n : Nat} (h : n < l.length) : l.getD n 0 = l[n] := by simp [List.getD, h]
theorem apart_few (l : List Int) (k : Int) (h : (l.length : Int) ≠ k) : apartN l k = false := by unfold apartN; rw [decide_eq_false h]; rfl
theorem apart_old {l : List Int} {k : Int} {j : Nat} (hj : j < l.length) (h : l.getD j 0 < 2) : apartN l k = false := by
 have : allNew l = false := by
  unfold allNew
  rw [Bool.eq_false_iff]
  intro hall
  have h1 := List.all_eq_true.1 hall _ (List.getElem_mem hj)
  simp only [decide_eq_true_eq] at h1
  rw [getD_at hj] at h
  omega
 unfold apartN
 rw [this]
 simp
theorem apart_same {l : List Int} {k : Int} (hk : ¬ k < 2) (h : l.getD 0 0 = l.getD 1 0) : apartN l k = false := by
 unfold apartN
 rw [decide_eq_false hk, h]
 simp
theorem apart_yes {l : List Int} {m : Nat} (hm : m ≤ 2) (hl : l.length = m) (h1 : ∀ j, j < m → 2 ≤ l.getD j 0) (h2 : ∀ j, 0 < j → j < m → l.getD j 0 ≠ l.getD (j - 1) 0) : apartN l (m : Int) = true := by
 have ha : allNew l = true := by
  unfold allNew
  rw [List.all_eq_true]
  intro x hx
  obtain ⟨j, hj, rfl⟩ := List.mem_iff_getElem.1 hx
  have := h1 j (by omega)
  rw [getD_at hj] at this
  exact decide_eq_true this
 unfold apartN
 rw [ha, decide_eq_true (show (l.length : Int) = (m : Int) by omega)]
 by_cases h3 : m < 2
 ·rw [decide_eq_true (show (m : Int) < 2 by omega)]; rfl
 ·have := h2 1 (by omega) (by omega)
  have h4 : decide (l.getD 0 0 ≠ l.getD 1 0) = true := decide_eq_true (fun h => this h.symm)
  rw [h4]
  simp
set_option maxRecDepth 100000 in
set_option maxHeartbeats 2000000 in
theorem rright_any (l : List Int) (v : Value) (m : Nat) (w_ : World) (h : Ints w_ v l) (hl : (l.length : Int) ≤ 4611686018427387904) (hm : m ≤ 2) :
  Calls Tryz.prog 27 #[v, .int .i64 (m : Int)] w_ fun x w' => x = .returned (.bool (apartN l (m : Int))) ∧ Below w_.heap.size w_ w' := by
 obtain ⟨ia, ic, rfl⟩ := row_slice h
 have HI0 := keep h
 have HM := keep hm
 clear h
 go_enter Tryz.func27, Tryz.ntmps27
 by_cases hk : (l.length : Int) = (m : Int)
 ·have hk2 : ((l.length : Int) != (m : Int)) = false := by simp [hk]
  have hlm : l.length = m := by omega
  have HLm := keep hlm
  clear hk hlm
  go_wp2_with fail
  clear hk2
  go_loopw [5] (fun x wr => ∃ n : Nat, n ≤ m ∧ x = .int .i64 n ∧ Kept (∀ j, j < n → 2 ≤ l.getD j 0) ∧ Kept (∀ j, 0 < j → j < n → l.getD j 0 ≠ l.getD (j - 1) 0) ∧ Kept (Grow w_ wr)) (fun x _ => m - (intOf x).toNat)
  case atStart => exact ⟨0, Nat.zero_le _, rfl, keep (fun _ h => absurd h (by omega)), keep (fun _ _ h => absurd h (by omega)), keep (Grow.refl _)⟩
  case round =>
   obtain ⟨n, hn, rfl, H1, H2, HG⟩ := hrel
   by_cases hlt : n < m
   ·have hll : n < l.length := by rw [HLm.out]; exact hlt
    obtain ⟨c1, off1, cap1, e1, hc1⟩ := ints_at HI0.out hll
    simp only [Value.slice.injEq] at e1
    obtain ⟨rfl, x1, x2⟩ := e1
    have d1 := hc1 wr HG.out
    have z1 : l.getD n 0 = l[n] := getD_at hll
    have Z1 := keep z1
    generalize l[n] = a at *
    have q2 : (n : Int) < (l.length : Int) := by omega
    clear hc1 x1 x2 z1
    have hn01 : n = 0 ∨ n = 1 := by omega
    rcases hn01 with rfl | rfl
    ·rw [Nat.add_zero] at d1
     by_cases ha : a < 2
     ·have ha2 : decide (a < 2) = true := decide_eq_true ha
      have HF := keep (apart_old (k := (m : Int)) hll (by rw [Z1.out]; exact ha))
      go_upto_region 6 with fail
      go_quiet (fail)
      go_wp2_with fail
      go_ret
      exact ⟨by rw [HF.out]; rfl, Grow.trans HG.out (below_drewN (Grow.refl _) _)⟩
     ·have ha2 : decide (a < 2) = false := decide_eq_false ha
      have HA := keep (show 2 ≤ a by omega)
      clear ha
      go_upto_region 6 with fail
      go_quiet (fail)
      go_wp2_with fail
      go_roundw
      case rel =>
       refine ⟨1, by omega, by go_num, keep (fun j hj => ?_), keep (fun j h1 h2 => by omega), keep (Grow.trans HG.out (below_drewN (Grow.refl _) _))⟩
       obtain rfl : j = 0 := by omega
       rw [Z1.out]; exact HA.out
      case measure => simp [intOf]; omega
    ·have hll0 : 0 < l.length := by omega
     obtain ⟨c2, off2, cap2, e2, hc2⟩ := ints_at HI0.out hll0
     simp only [Value.slice.injEq, Option.some.injEq, Addr.mk.injEq] at e2
     obtain ⟨⟨rfl, rfl, _⟩, x1, x2⟩ := e2
     have d2 := hc2 wr HG.out
     rw [Nat.add_zero] at d2
     have z2 : l.getD 0 0 = l[0] := getD_at hll0
     have Z2 := keep z2
     generalize l[0] = b at *
     clear hc2 x1 x2 z2
     by_cases ha : a < 2
     ·have ha2 : decide (a < 2) = true := decide_eq_true ha
      have HF := keep (apart_old (k := (m : Int)) hll (by rw [Z1.out]; exact ha))
      go_upto_region 6 with fail
      go_quiet (fail)
      go_wp2_with fail
      go_ret
      exact ⟨by rw [HF.out]; rfl, Grow.trans HG.out (below_drewN (Grow.refl _) _)⟩
     ·have ha2 : decide (a < 2) = false := decide_eq_false ha
      have HA := keep (show 2 ≤ a by omega)
      clear ha
      by_cases hab : a = b
      ·have hab2 : (a == b) = true := by simp [hab]
       have HF := keep (apart_same (l := l) (k := (m : Int)) (by omega) (by rw [Z1.out, Z2.out]; exact hab.symm))
       clear hab
       go_upto_region 6 with fail
       go_quiet (fail)
       go_wp2_with fail
       go_ret
       exact ⟨by rw [HF.out]; rfl, Grow.trans HG.out (below_drewN (Grow.refl _) _)⟩
      ·have hab2 : (a == b) = false := by simp [hab]
       have HAb := keep hab
       clear hab
       go_upto_region 6 with fail
       go_quiet (fail)
       go_wp2_with fail
       go_roundw
       case rel =>
        refine ⟨2, by omega, by go_num, keep (fun j hj => ?_), keep (fun j h1 h2 => ?_), keep (Grow.trans HG.out (below_drewN (Grow.refl _) _))⟩
        ·by_cases hj1 : j = 1
         ·subst hj1; rw [Z1.out]; exact HA.out
         ·exact H1.out j (by omega)
        ·obtain rfl : j = 1 := by omega
         rw [Z1.out, Z2.out]; exact HAb.out
       case measure => simp [intOf]; omega
   ·have e : n = m := by omega
    subst e
    have HF := keep (apart_yes HM.out HLm.out H1.out H2.out)
    go_wp2_with fail
    go_ret
    exact ⟨by rw [HF.out]; rfl, HG.out⟩
 ·have hk2 : ((l.length : Int) != (m : Int)) = true := by simp [hk]
  have HF := keep (apart_few l (m : Int) hk)
  clear hk
  go_wp2_with fail
  go_ret
  exact ⟨by rw [HF.out]; rfl, Grow.refl _⟩
end Go.Proofs.YtaninphcgeaepaaGreat
