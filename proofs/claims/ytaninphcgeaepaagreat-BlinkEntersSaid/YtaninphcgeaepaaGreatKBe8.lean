import Derived.Test.YtaninphcgeaepaaGreatKBe5
import Derived.Test.YtaninphcgeaepaaGreatKRk1
import Derived.Test.YtaninphcgeaepaaGreatKAp1
import Derived.Test.YtaninphcgeaepaaGreatKRd3
import Derived.Test.YtaninphcgeaepaaGreatKRd2
import Derived.Deep.CutRange
import Derived.Test.YtaninphcgeaepaaGreatKCg6
import Derived.Test.YtaninphcgeaepaaGreatKRu2
namespace Go.Proofs.YtaninphcgeaepaaGreat
open Go.RowKit
attribute [local go_sem] givesF_none givesF_some evalF_tmp evalF_const evalF_global evalF_func lookL isB_bool isB_undef givesUpon_value givesUpon_skip givesUpon_enter
attribute [local simp] eql_entry neq_entry neq_zeroE
attribute [local go_sem] guard_entry
set_option maxRecDepth 100000 in
set_option maxHeartbeats 2000000 in
theorem rstands_any (t : En) (L : List En) (v : Value) (w_ : World) (h : EnsS w_ v L) (hl : L.length ≤ 1759218604441) :
  Calls Tryz.prog 51 #[v, enV t] w_ fun x w' => x = .returned (.bool (decide (t ∈ L))) ∧ Below w_.heap.size w_ w' := by
 obtain ⟨a, c, rfl⟩ : ∃ a c, v = .slice a L.length c := row_slice h.weak
 obtain ⟨k, p, s⟩ := t
 obtain ⟨w0, hw0⟩ : ∃ w0, w0 = w_.alloc (.cells #[.string (str k), .int .i64 p, .int .i64 s] 41) := ⟨_, rfl⟩
 have hg0 : Grow w_ w0 := by subst hw0; exact (Grow.refl w_).alloc _
 have hE0 : Blk w0 w_.heap.size 41 [.string (str k), .int .i64 p, .int .i64 s] := by subst hw0; exact Blk.new w_ _ [_, _, _]
 have HEs := keep (RowS.fits h hg0 : EnsS w0 _ L)
 have HE0 := keep hE0
 have HG0 := keep hg0
 clear h hE0 hg0
 unfold enV
 go_enter Tryz.func51, Tryz.ntmps51
 go_upto_region 1 with fail
 rw [← hw0]
 clear hw0
 go_wp2_with fail
 go_loopw [5] (fun x wr => ∃ m : Nat, m ≤ L.length ∧ x = .int .i64 m ∧ Kept (∀ j (hj : j < L.length), j < m → L[j] ≠ (k, p, s)) ∧ Kept (Grow w0 wr)) (fun x _ => L.length - (intOf x).toNat)
 case atStart => exact ⟨0, Nat.zero_le _, rfl, keep (fun _ _ h => absurd h (by omega)), keep (Grow.refl _)⟩
 case round =>
  obtain ⟨m, hm, rfl, HNe, HG⟩ := hrel
  by_cases hlt : m < L.length
  ·obtain ⟨ce, offe, cape, ee, hce⟩ := ens_at HEs.out hlt
   simp only [Value.slice.injEq] at ee
   obtain ⟨rfl, x1, x2⟩ := ee
   obtain ⟨g, hgl⟩ : ∃ g, L[m] = g := ⟨_, rfl⟩
   rw [hgl] at hce
   have HGl := keep hgl
   clear hgl
   obtain ⟨gk, gp, gs⟩ := g
   obtain ⟨c0, c1, c2⟩ := hce wr HG.out
   obtain ⟨e0, e1, e2, _⟩ := enres (HE0.out.fits HG.out)
   have q2 : (m : Int) < (L.length : Int) := by omega
   dsimp only at c0 c1 c2
   clear hce x1 x2
   go_upto_region 4 with fail
   generalize hS : sameE (gk, gp, gs) (k, p, s) = S at *
   cases S with
   | false =>
    have HS := keep hS
    go_quiet (fail)
    clear c0 c1 c2 e0 e1 e2
    go_wp2_with fail
    go_roundw
    case rel =>
     refine ⟨m + 1, by omega, by go_num, keep (fun j hj h => ?_), keep (Grow.trans HG.out (below_drewN (Grow.refl _) _))⟩
     by_cases e : j = m
     ·subst e
      rw [HGl.out]
      exact of_decide_eq_false HS.out
     ·exact HNe.out j hj (by omega)
    case measure => simp [intOf]; omega
   | true =>
    have he : L[m]'hlt = (k, p, s) := HGl.out.trans (of_decide_eq_true hS)
    have hmem : (k, p, s) ∈ L := by rw [← he]; exact List.getElem_mem hlt
    have HM := keep hmem
    clear hmem he
    go_quiet (fail)
    clear c0 c1 c2 e0 e1 e2 hS
    go_wp2_with fail
    go_ret
    exact ⟨by rw [decide_eq_true HM.out]; rfl, Grow.trans HG0.out (Grow.trans HG.out (below_drewN (Grow.refl _) _))⟩
  ·have e : m = L.length := by omega
   subst e
   have hno : (k, p, s) ∉ L := fun h => by
    obtain ⟨j, hj, e⟩ := List.mem_iff_getElem.1 h
    exact HNe.out j hj hj e
   have HN := keep hno
   clear hno
   go_wp2_with fail
   go_ret
   exact ⟨by rw [decide_eq_false HN.out]; rfl, Grow.trans HG0.out HG.out⟩
theorem dec_codes (l : List UInt8) : (decN l).2 = 0 ∨ (decN l).2 = 140 := by unfold decN; split <;> simp
theorem uns_codes (l : List UInt8) : (unsN l).2.2 = 0 ∨ (unsN l).2.2 = 140 := by unfold unsN; split <;> simp
theorem turned_codes (P : Pg) (l : List (List UInt8)) : (turnedN P l).2 = 0 ∨ (turnedN P l).2 = 3 := by unfold turnedN; split <;> simp
theorem ins_codes (P : Pg) (e : En) : (insN P e).2 = 0 ∨ (insN P e).2 = 3 ∨ (insN P e).2 = 140 := by
 unfold insN
 split
 ·split
  ·exact .inr (.inr rfl)
  ·rcases turned_codes P (P.items.take (posE (ensN P) e) ++ (enBytes e []) :: P.items.drop (posE (ensN P) e)) with h | h
   ·exact .inl h
   ·exact .inr (.inl h)
 ·exact .inr (.inr rfl)
theorem post_codes (P : Pg) (e : En) (c : Int) : (postN P e c).2 = 0 ∨ (postN P e c).2 = 3 ∨ (postN P e c).2 = 140 := by
 unfold postN
 split
 ·split
  ·exact .inr (.inr rfl)
  ·rcases turned_codes P (P.items.take (posE (ensN P) e) ++ (enBytes e [c]) :: P.items.drop (posE (ensN P) e)) with h | h
   ·exact .inl h
   ·exact .inr (.inl h)
 ·exact .inr (.inr rfl)
def laidN (P : Pg) (item : List UInt8) : Pg × En × Int := if (layN P item).2.2 = 140 then (zeroP, leastE, 140) else layN P item
def LaidN (P : Pg) (item : List UInt8) (w : World) (x : Ending) (w' : World) : Prop := LayPost (laidN P item).1 (laidN P item).2.1 (laidN P item).2.2 w x w'
theorem least_bad : enOk leastE = false := by decide
theorem least_tail {P : Pg} (h : openOk P = true) (hlv : P.level ≠ 0) {e : En} : (e ∈ (ensN P).drop 1 ↔ e ∈ ensN P ∧ e ≠ leastE) := by
 obtain ⟨h1, h2⟩ := first_least h hlv
 have hl : 0 < (ensN P).length := by rw [ensN_length]; exact h1
 have hs := open_sorted h
 have h3 := h2 hl
 obtain ⟨x, L, hL⟩ : ∃ x L, ensN P = x :: L := by cases hE : ensN P with
  | nil => rw [hE] at hl; simp at hl
  | cons x L => exact ⟨x, L, rfl⟩
 simp only [hL, List.getElem_cons_zero] at h3
 subst h3
 rw [hL] at hs ⊢
 rw [List.drop_one, List.tail_cons, List.mem_cons]
 constructor
 ·intro he
  refine ⟨.inr he, ?_⟩
  rintro rfl
  obtain ⟨j, hj, hj2⟩ := List.mem_iff_getElem.1 he
  have := hs.at (i := 0) (j := j + 1) (by simp) (by simpa using hj) (by omega)
  simp only [List.getElem_cons_zero, List.getElem_cons_succ, hj2] at this
  rw [cmpE_self] at this
  omega
 ·rintro ⟨h4 | h4, h5⟩
  ·exact absurd h4 h5
  ·exact h4
end Go.Proofs.YtaninphcgeaepaaGreat
namespace Go.Proofs.YtaninphcgeaepaaGreat
open Go.RowKit
attribute [local go_sem] givesF_none givesF_some evalF_tmp evalF_const evalF_global evalF_func lookL isB_bool isB_undef givesUpon_value givesUpon_skip givesUpon_enter
attribute [local simp] eql_entry neq_entry neq_zeroE
attribute [local go_sem] guard_entry
set_option maxRecDepth 100000 in
set_option maxHeartbeats 4000000 in
theorem rlaid_shut (P : Pg) (iv : Value) (item : List UInt8) (w_ : World) (hin : PgIn w_ iv P) (hopen : openOk P = false) :
  Calls Tryz.prog 21 #[pgV P iv, .string (str item)] w_ (LaidN P item w_) := by
 have hck := fun (u : World) (hu : Grow w_ u) => rcheck_any P iv u (hin.fits hu)
 have hpo : ∀ (x : Ending) (w' : World), LaidN P item w_ x w' ↔ (∃ jv, x = .returned (.tuple #[pgV (laidN P item).1 jv, enV (laidN P item).2.1, .int .i64 (laidN P item).2.2]) ∧ ItemsC w' jv (laidN P item).1.items ∧ Below w_.heap.size w_ w') := fun _ _ => Iff.rfl
 have hy : laidN P item = (zeroP, leastE, 140) := by unfold laidN layN; rw [hopen]; rfl
 unfold ChkPost at hck
 rw [hopen] at hck
 simp only [Bool.false_eq_true, if_false] at hck
 rw [hy] at hpo
 unfold pgV at hck
 dsimp only at hpo
 obtain ⟨w0, hw0⟩ : ∃ w0, w0 = ((w_.alloc (.cells (pgCells P iv).toArray 24)).alloc (.cells #[.int .i64 0, .int .i64 0, .int .i64 0, .int .i64 0, .string ⟨#[]⟩, .slice none 0 0] 24)).alloc (.cells #[.string ⟨#[]⟩, .int .i64 0, .int .i64 0] 41) := ⟨_, rfl⟩
 obtain ⟨hg0, hP0, hR0, hE0⟩ := ppe_new P iv w_ w0 hw0
 have HCk := keep hck
 have HPo := keep hpo
 have HP0 := keep hP0
 have HR0 := keep hR0
 have HE0 := keep hE0
 have HG0 := keep hg0
 clear hck hpo hR0 hE0 hg0 hin hopen hy
 unfold pgCells at hw0 hP0
 obtain ⟨p0, p1, p2, p3, p4, p5, _⟩ := pgres hP0
 clear hP0
 unfold pgV
 go_enter Tryz.func21, Tryz.ntmps21
 go_upto_region 1 with fail
 rw [← hw0]
 clear hw0
 go_wp2_with fail
 refine (HCk.out w0 HG0.out).mono ?_
 rintro x w1 ⟨rfl, hb1⟩
 have HG1 := keep hb1
 clear p0 p1 p2 p3 p4 p5 hb1 HCk
 have HRz := keep (HR0.out.fits HG1.out)
 have HEz := keep (HE0.out.fits HG1.out)
 have Hgz := keep (Grow.trans HG0.out HG1.out)
 have hzz := HEz.out.lt
 go_wp2_with (first | ((refine wpList_store_pg rfl _ _ rfl (w_.heap.size + 1) _ rfl rfl HRz.out rfl rfl rfl ?_); intro wy hsety hbuty; have Hsety := keep hsety; have Hbuty := keep hbuty; have HEy := keep (HEz.out.but hbuty (by omega)); clear hsety hbuty) | ((refine wpList_store_en rfl _ _ rfl (w_.heap.size + 2) _ rfl rfl HEy.out rfl rfl rfl ?_); intro wx hsetx hbutx; have Hsetx := keep hsetx; have Hbutx := keep hbutx; clear hsetx hbutx))
 have hga := But.below Hgz.out Hbuty.out (show w_.heap.size ≤ w_.heap.size + 1 by omega) Hgz.out.size
 have hgb := But.below hga Hbutx.out (show w_.heap.size ≤ w_.heap.size + 2 by omega) hga.size
 have HRx := Hsety.out.but Hbutx.out (by omega)
 refine bodyPost_ret (v := .tuple #[pgV zeroP (.slice none 0 0), enV leastE, .int .i64 140]) ?_ rfl ?_
 ·obtain ⟨s0, s1, s2, s3, s4, s5, _⟩ := pgres HRx
  obtain ⟨t0, t1, t2, _⟩ := enres (show Blk _ (w_.heap.size + 1 + 1) _ _ from Hsetx.out)
  simp [results, Tryz.results21, go_sem, s0, s1, s2, s3, s4, s5, t0, t1, t2, pgV, enV, zeroP, leastE]
  try rfl
 ·exact (HPo.out _ _).2 ⟨_, rfl, ItemsC.nil _, hgb⟩
set_option maxRecDepth 100000 in
set_option maxHeartbeats 4000000 in
theorem rlaid_leaf (P : Pg) (iv : Value) (item : List UInt8) (w_ : World) (hin : PgIn w_ iv P) (hcap : Capd iv) (hs : (item.length : Int) ≤ 140737488355328) (hopen : openOk P = true) (hlv : P.level = 0) :
  Calls Tryz.prog 21 #[pgV P iv, .string (str item)] w_ (LaidN P item w_) := by
 have hck := fun (u : World) (hu : Grow w_ u) => rcheck_any P iv u (hin.fits hu)
 have hpo : ∀ (x : Ending) (w' : World), LaidN P item w_ x w' ↔ (∃ jv, x = .returned (.tuple #[pgV (laidN P item).1 jv, enV (laidN P item).2.1, .int .i64 (laidN P item).2.2]) ∧ ItemsC w' jv (laidN P item).1.items ∧ Below w_.heap.size w_ w') := fun _ _ => Iff.rfl
 have hen := fun (u : World) (hu : Grow w_ u) => rentries_any P iv u (hin.fits hu)
 have hdc := fun (u : World) => rdecode_any item u (by omega)
 have hst := fun (u : World) (v : Value) (h : EnsS u v (ensN P)) => rstands_any (decN item).1 (ensN P) v u h (by rw [ensN_length]; have := (open_fine hopen).1; omega)
 have hins2 := fun (u : World) (hu : Grow w_ u) => rinsert_any P iv (decN item).1 u (hin.fits hu) hcap
 have hek : entriesOk P = true := by unfold entriesOk; rw [hopen, decide_eq_true hlv]; rfl
 have hdcc := dec_codes item
 have hqc := ins_codes P (decN item).1
 have hlay : layN P item = if (decN item).2 ≠ 0 then (zeroP, leastE, (decN item).2) else if (decN item).1 ∈ ensN P then (zeroP, (decN item).1, 150) else ((insN P (decN item).1).1, (decN item).1, (insN P (decN item).1).2) := by unfold layN; rw [hopen, if_pos rfl, if_pos hlv]
 have hy0 : (decN item).2 = 0 → ((decN item).1 ∈ ensN P → laidN P item = (zeroP, (decN item).1, 150)) ∧ ((decN item).1 ∉ ensN P → (((insN P (decN item).1).2 = 0 ∨ (insN P (decN item).1).2 = 3) → laidN P item = ((insN P (decN item).1).1, (decN item).1, (insN P (decN item).1).2)) ∧ ((insN P (decN item).1).2 = 140 → laidN P item = (zeroP, leastE, 140))) := by
  intro h0
  rw [if_neg (fun h => h h0)] at hlay
  refine ⟨fun h1 => ?_, fun h1 => ⟨fun h2 => ?_, fun h2 => ?_⟩⟩
  ·rw [if_pos h1] at hlay
   unfold laidN; rw [hlay, if_neg (by dsimp only; decide)]
  ·rw [if_neg h1] at hlay
   unfold laidN; rw [hlay, if_neg (by dsimp only; rcases h2 with h2 | h2 <;> rw [h2] <;> decide)]
  ·rw [if_neg h1] at hlay
   unfold laidN; rw [hlay, if_pos h2]
 have hyb : (decN item).2 = 140 → laidN P item = (zeroP, leastE, 140) := by
  intro h0
  rw [if_pos (by rw [h0]; decide)] at hlay
  unfold laidN; rw [hlay, if_pos h0]
 have hlv2 : (P.level == 0) = true := by simp [hlv]
 unfold ChkPost at hck
 rw [hopen] at hck
 unfold EntPost at hen
 rw [hek] at hen
 simp only [if_true] at hen hck
 unfold PgPost at hins2
 generalize laidN P item = Y at *
 generalize decN item = D at *
 obtain ⟨e, dc⟩ := D
 dsimp only at hdc hst hins2 hdcc hqc hy0 hyb
 generalize insN P e = I at *
 generalize ensN P = L at *
 obtain ⟨Q, qc⟩ := I
 obtain ⟨k, p, s⟩ := e
 dsimp only at hins2 hqc hy0
 unfold pgV at hck hen hins2
 unfold enV at hdc hst hins2
 dsimp only at hdc hst hins2
 obtain ⟨w0, hw0⟩ : ∃ w0, w0 = ((w_.alloc (.cells (pgCells P iv).toArray 24)).alloc (.cells #[.int .i64 0, .int .i64 0, .int .i64 0, .int .i64 0, .string ⟨#[]⟩, .slice none 0 0] 24)).alloc (.cells #[.string ⟨#[]⟩, .int .i64 0, .int .i64 0] 41) := ⟨_, rfl⟩
 obtain ⟨hg0, hP0, hR0, hE0⟩ := ppe_new P iv w_ w0 hw0
 have HCk := keep hck
 have HEn := keep hen
 have HDc := keep hdc
 have HSt := keep hst
 have HIns := keep hins2
 have HPo := keep hpo
 have HQC := keep hqc
 have HDC := keep hdcc
 have HY0 := keep hy0
 have HYB := keep hyb
 have HP0 := keep hP0
 have HR0 := keep hR0
 have HE0 := keep hE0
 have HG0 := keep hg0
 have HLv := keep hlv2
 have hz0 := hE0.lt
 clear hck hen hdc hst hins2 hpo hR0 hE0 hg0 hlv hlv2 hin hcap hopen hek hlay hqc hdcc hy0 hyb
 unfold pgCells at hw0 hP0
 obtain ⟨p0, p1, p2, p3, p4, p5, _⟩ := pgres hP0
 clear hP0
 unfold pgV
 go_enter Tryz.func21, Tryz.ntmps21
 go_upto_region 1 with fail
 rw [← hw0]
 clear hw0
 go_wp2_with fail
 refine (HCk.out w0 HG0.out).mono ?_
 rintro x w1 ⟨rfl, hb1⟩
 have HG1 := keep hb1
 have hP1 := HP0.out.fits hb1
 clear p0 p1 p2 p3 p4 p5 hb1 HCk
 unfold pgCells at hP1
 obtain ⟨p0, p1, p2, p3, p4, p5, _⟩ := pgres hP1
 have hl1 : w_.heap.size < w1.heap.size := hP1.lt
 clear hP1
 have hlv := HLv.out
 go_upto_region 7 with fail
 clear hlv p0 p1 p2 p3 p4 p5
 obtain ⟨w2, hw2⟩ : ∃ w2, w2 = (w1.alloc (.cells #[.int .i64 0, .int .i64 0, .int .i64 0, .int .i64 0, .string ⟨#[]⟩, .slice none 0 0] 24)).alloc (.cells #[.string ⟨#[]⟩, .int .i64 0, .int .i64 0] 41) := ⟨_, rfl⟩
 have hg2 : Grow w1 w2 := by subst hw2; exact ((Grow.refl _).alloc _).alloc _
 have hQ2 : Blk w2 w1.heap.size 24 [.int .i64 0, .int .i64 0, .int .i64 0, .int .i64 0, .string ⟨#[]⟩, .slice none 0 0] := by
  have := (Blk.new w1 24 [.int .i64 0, .int .i64 0, .int .i64 0, .int .i64 0, .string ⟨#[]⟩, .slice none 0 0]).alloc (.cells #[.string ⟨#[]⟩, .int .i64 0, .int .i64 0] 41)
  subst hw2; exact this
 have hX2 : Blk w2 (w1.heap.size + 1) 41 [.string ⟨#[]⟩, .int .i64 0, .int .i64 0] := by
  have := Blk.new (w1.alloc (.cells #[.int .i64 0, .int .i64 0, .int .i64 0, .int .i64 0, .string ⟨#[]⟩, .slice none 0 0] 24)) 41 [.string ⟨#[]⟩, .int .i64 0, .int .i64 0]
  have e : (w1.alloc (.cells #[.int .i64 0, .int .i64 0, .int .i64 0, .int .i64 0, .string ⟨#[]⟩, .slice none 0 0] 24)).heap.size = w1.heap.size + 1 := by simp
  rw [e] at this
  subst hw2; exact this
 rw [← hw2]
 have HQ2 := keep hQ2
 have HX2 := keep hX2
 have HG2 := keep (Grow.trans HG1.out hg2)
 have hz2 := hX2.lt
 have HZ1 := keep (show w0.heap.size ≤ w1.heap.size from HG1.out.size)
 clear hw2 hg2 hQ2 hX2
 go_wp2_with fail
 refine (HDc.out w2).mono ?_
 rintro x w3 ⟨rfl, hb3⟩
 have hX3 := HX2.out.fits hb3
 have HQ3 := keep (HQ2.out.fits hb3)
 have HG3 := keep (Grow.trans HG2.out hb3)
 have HX3 := keep hX3
 clear hb3 hX3 HDc HQ2 HX2
 go_upto_region 8 with ((refine wpList_store_en rfl _ _ rfl (w1.heap.size + 1) _ rfl rfl HX3.out rfl rfl rfl ?_); intro w4 hset4 hbut4; have HX4 := keep hset4; have HB4 := keep hbut4; clear hset4 hbut4)
 have HQ4 := keep (HQ3.out.but HB4.out (by omega))
 have HG4 := keep (show Below w0.heap.size w0 w4 from But.below HG3.out HB4.out (by have := HZ1.out; omega) HG3.out.size)
 have hP4 := HP0.out.fits HG4.out
 unfold pgCells at hP4
 clear HQ3 HX3 HB4
 obtain ⟨p0, p1, p2, p3, p4, p5, _⟩ := pgres hP4
 clear hP4
 go_wp2_with fail
 refine (HEn.out w4 (Grow.trans HG0.out HG4.out)).mono ?_
 rintro x w5 ⟨⟨a, c, rfl, hes⟩, hb5⟩
 have HX5 := keep (HX4.out.fits hb5)
 have HQ5 := keep (HQ4.out.fits hb5)
 have HG5 := keep (Grow.trans HG4.out hb5)
 have HEs := keep hes
 clear p0 p1 p2 p3 p4 p5 hb5 hes HEn HX4 HQ4
 obtain ⟨c0, c1, c2, _⟩ := enres HX5.out
 rcases HDC.out with hdz | hdz
 ·subst hdz
  go_wp2_with fail
  refine (HSt.out w5 _ HEs.out).mono ?_
  rintro x w6 ⟨rfl, hb6⟩
  have HX6 := keep (HX5.out.fits hb6)
  have HQ6 := keep (HQ5.out.fits hb6)
  have HG6 := keep (Grow.trans HG5.out hb6)
  clear c0 c1 c2 hb6 HX5 HQ5 HSt
  obtain ⟨c0, c1, c2, _⟩ := enres HX6.out
  by_cases hm : (k, p, s) ∈ L
  ·have hy := (HY0.out (by first | rfl | trivial)).1 hm
   have HY := keep hy
   rw [decide_eq_true hm]
   clear hm hy HY0
   go_upto_region 10 with fail
   have hR8 := HR0.out.fits HG6.out
   have hE8 := HE0.out.fits HG6.out
   obtain ⟨r0, r1, r2, r3, r4, r5, f0, f1, f2, f3, f4, f5⟩ := pgres hR8
   obtain ⟨e0, e1, e2, g0, g1, g2⟩ := enres hE8
   have Hset := keep (pgset hR8 (.int .i64 0) (.int .i64 0) (.int .i64 0) (.int .i64 0) (.string ⟨#[]⟩) (.slice none 0 0))
   have Hbut := keep (pgbut w6 (w_.heap.size + 1) (.int .i64 0) (.int .i64 0) (.int .i64 0) (.int .i64 0) (.string ⟨#[]⟩) (.slice none 0 0))
   have hz8 := (HG6.out).size
   have hz1 := HZ1.out
   have n1 : ¬ w_.heap.size + 1 = w1.heap.size := by omega
   have n2 : ¬ w_.heap.size + 1 = w1.heap.size + 1 := by omega
   have n3 : ¬ w_.heap.size + 2 = w1.heap.size := by omega
   have n4 : ¬ w_.heap.size + 2 = w1.heap.size + 1 := by omega
   have n5 : ¬ w1.heap.size = w_.heap.size + 1 := by omega
   have n6 : ¬ w1.heap.size + 1 = w_.heap.size + 1 := by omega
   have n7 : ¬ w1.heap.size = w_.heap.size + 2 := by omega
   have n8 : ¬ w1.heap.size + 1 = w_.heap.size + 2 := by omega
   have HE9 := keep (hE8.but Hbut.out (by omega))
   have Hset2 := keep (enset HE9.out (.string (str k)) (.int .i64 p) (.int .i64 s))
   have Hbut2 := keep (enbut _ (w_.heap.size + 2) (.string (str k)) (.int .i64 p) (.int .i64 s) : But (w_.heap.size + 2) ((((((w6.setCell ⟨w_.heap.size + 1, 0, none⟩ (.int .i64 0)).setCell ⟨w_.heap.size + 1, 1, none⟩ (.int .i64 0)).setCell ⟨w_.heap.size + 1, 2, none⟩ (.int .i64 0)).setCell ⟨w_.heap.size + 1, 3, none⟩ (.int .i64 0)).setCell ⟨w_.heap.size + 1, 4, none⟩ (.string ⟨#[]⟩)).setCell ⟨w_.heap.size + 1, 5, none⟩ (.slice none 0 0)) _)
   have HR9 := keep (Hset.out.but Hbut2.out (by omega))
   have hga := But.below (Grow.trans HG0.out HG6.out) Hbut.out (show w_.heap.size ≤ w_.heap.size + 1 by omega) (show w_.heap.size ≤ w6.heap.size by omega)
   have HGa := keep (But.below hga Hbut2.out (show w_.heap.size ≤ w_.heap.size + 2 by omega) (by simp; omega))
   clear hR8 hE8 hga
   go_region
   all_goals go_wp2_with fail
   all_goals refine bodyPost_ret (v := .tuple #[pgV zeroP (.slice none 0 0), enV (k, p, s), .int .i64 150]) ?_ rfl ((HPo.out _ _).2 ⟨.slice none 0 0, by rw [HY.out], by rw [HY.out]; exact ItemsC.nil _, Below.drew HGa.out⟩)
   all_goals
    obtain ⟨s0, s1, s2, s3, s4, s5, _⟩ := pgres (Blk.drew HR9.out)
    have hx9 := Blk.drew Hset2.out
    obtain ⟨t0, t1, t2, _⟩ := enres (show Blk _ (w_.heap.size + 1 + 1) _ _ from hx9)
    simp [results, Tryz.results21, go_sem, s0, s1, s2, s3, s4, s5, t0, t1, t2, pgV, enV, zeroP]
    try rfl
  ·have hy := (HY0.out (by first | rfl | trivial)).2 hm
   have HY1 := keep hy
   rw [decide_eq_false hm]
   have hP6 := HP0.out.fits HG6.out
   unfold pgCells at hP6
   obtain ⟨p0, p1, p2, p3, p4, p5, _⟩ := pgres hP6
   clear hm hy HY0 hP6
   go_wp2_with fail
   refine (HIns.out w6 (Grow.trans HG0.out HG6.out)).mono ?_
   rintro x w7 ⟨jv, rfl, hit, hb7⟩
   have HX7 := keep (HX6.out.fits hb7)
   have HQ7 := keep (HQ6.out.fits hb7)
   have HG7 := keep (Grow.trans HG6.out hb7)
   obtain ⟨ja, jc, rfl⟩ := itemsS_form hit.1
   have HIt7 := keep hit
   clear p0 p1 p2 p3 p4 p5 c0 c1 c2 hb7 hit HX6 HQ6 HIns
   go_upto_region 18 with ((refine wpList_store_pg rfl _ _ rfl w1.heap.size _ rfl rfl HQ7.out rfl rfl rfl ?_); intro w8 hset8 hbut8; have HQ8 := keep hset8; have HB8 := keep hbut8; clear hset8 hbut8)
   have HX8 := keep (HX7.out.but HB8.out (by omega))
   have HG8 := keep (show Below w0.heap.size w0 w8 from But.below HG7.out HB8.out (by have := HZ1.out; omega) HG7.out.size)
   have HIt8 := keep (itemsC_but HIt7.out HB8.out HQ7.out (by decide))
   rcases HQC.out with rfl | rfl | rfl
   ·have hy := (HY1.out).1 (.inl rfl)
    have HY := keep hy
    clear hy HY1
    go_upto_region 20 with fail
    obtain ⟨q0, q1, q2, q3, q4, q5, _⟩ := pgres HQ8.out
    obtain ⟨c0, c1, c2, _⟩ := enres HX8.out
    have hR8 := HR0.out.fits HG8.out
    have hE8 := HE0.out.fits HG8.out
    obtain ⟨r0, r1, r2, r3, r4, r5, f0, f1, f2, f3, f4, f5⟩ := pgres hR8
    obtain ⟨e0, e1, e2, g0, g1, g2⟩ := enres hE8
    have Hset := keep (pgset hR8 (.int .i64 Q.lsn) (.int .i64 Q.kind) (.int .i64 Q.level) (.int .i64 Q.right) (.string (str Q.high)) (.slice ja Q.items.length jc))
    have Hbut := keep (pgbut w8 (w_.heap.size + 1) (.int .i64 Q.lsn) (.int .i64 Q.kind) (.int .i64 Q.level) (.int .i64 Q.right) (.string (str Q.high)) (.slice ja Q.items.length jc))
    have hz8 := (HG8.out).size
    have hz1 := HZ1.out
    have n1 : ¬ w_.heap.size + 1 = w1.heap.size := by omega
    have n2 : ¬ w_.heap.size + 1 = w1.heap.size + 1 := by omega
    have n3 : ¬ w_.heap.size + 2 = w1.heap.size := by omega
    have n4 : ¬ w_.heap.size + 2 = w1.heap.size + 1 := by omega
    have n5 : ¬ w1.heap.size = w_.heap.size + 1 := by omega
    have n6 : ¬ w1.heap.size + 1 = w_.heap.size + 1 := by omega
    have n7 : ¬ w1.heap.size = w_.heap.size + 2 := by omega
    have n8 : ¬ w1.heap.size + 1 = w_.heap.size + 2 := by omega
    have HE9 := keep (hE8.but Hbut.out (by omega))
    have Hset2 := keep (enset HE9.out (.string (str k)) (.int .i64 p) (.int .i64 s))
    have Hbut2 := keep (enbut _ (w_.heap.size + 2) (.string (str k)) (.int .i64 p) (.int .i64 s) : But (w_.heap.size + 2) ((((((w8.setCell ⟨w_.heap.size + 1, 0, none⟩ (.int .i64 Q.lsn)).setCell ⟨w_.heap.size + 1, 1, none⟩ (.int .i64 Q.kind)).setCell ⟨w_.heap.size + 1, 2, none⟩ (.int .i64 Q.level)).setCell ⟨w_.heap.size + 1, 3, none⟩ (.int .i64 Q.right)).setCell ⟨w_.heap.size + 1, 4, none⟩ (.string (str Q.high))).setCell ⟨w_.heap.size + 1, 5, none⟩ (.slice ja Q.items.length jc)) _)
    have HR9 := keep (Hset.out.but Hbut2.out (by omega))
    have HIt9 := keep (itemsC_but (itemsC_but HIt8.out Hbut.out hR8 (by decide)) Hbut2.out HE9.out (by decide))
    have hga := But.below (Grow.trans HG0.out HG8.out) Hbut.out (show w_.heap.size ≤ w_.heap.size + 1 by omega) (show w_.heap.size ≤ w8.heap.size by omega)
    have HGa := keep (But.below hga Hbut2.out (show w_.heap.size ≤ w_.heap.size + 2 by omega) (by simp; omega))
    clear hR8 hE8 hga
    go_region
    all_goals go_wp2_with fail
    all_goals refine bodyPost_ret (v := .tuple #[pgV Q (.slice ja Q.items.length jc), enV (k, p, s), .int .i64 0]) ?_ rfl ((HPo.out _ _).2 ⟨.slice ja Q.items.length jc, by rw [HY.out], by rw [HY.out]; exact HIt9.out.fits (Below.drew (Grow.refl _)), Below.drew HGa.out⟩)
    all_goals
     obtain ⟨s0, s1, s2, s3, s4, s5, _⟩ := pgres (Blk.drew HR9.out)
     have hx9 := Blk.drew Hset2.out
     obtain ⟨t0, t1, t2, _⟩ := enres (show Blk _ (w_.heap.size + 1 + 1) _ _ from hx9)
     simp [results, Tryz.results21, go_sem, s0, s1, s2, s3, s4, s5, t0, t1, t2, pgV, enV]
     try rfl
   ·have hy := (HY1.out).1 (.inr rfl)
    have HY := keep hy
    clear hy HY1
    go_upto_region 20 with fail
    obtain ⟨q0, q1, q2, q3, q4, q5, _⟩ := pgres HQ8.out
    obtain ⟨c0, c1, c2, _⟩ := enres HX8.out
    have hR8 := HR0.out.fits HG8.out
    have hE8 := HE0.out.fits HG8.out
    obtain ⟨r0, r1, r2, r3, r4, r5, f0, f1, f2, f3, f4, f5⟩ := pgres hR8
    obtain ⟨e0, e1, e2, g0, g1, g2⟩ := enres hE8
    have Hset := keep (pgset hR8 (.int .i64 Q.lsn) (.int .i64 Q.kind) (.int .i64 Q.level) (.int .i64 Q.right) (.string (str Q.high)) (.slice ja Q.items.length jc))
    have Hbut := keep (pgbut w8 (w_.heap.size + 1) (.int .i64 Q.lsn) (.int .i64 Q.kind) (.int .i64 Q.level) (.int .i64 Q.right) (.string (str Q.high)) (.slice ja Q.items.length jc))
    have hz8 := (HG8.out).size
    have hz1 := HZ1.out
    have n1 : ¬ w_.heap.size + 1 = w1.heap.size := by omega
    have n2 : ¬ w_.heap.size + 1 = w1.heap.size + 1 := by omega
    have n3 : ¬ w_.heap.size + 2 = w1.heap.size := by omega
    have n4 : ¬ w_.heap.size + 2 = w1.heap.size + 1 := by omega
    have n5 : ¬ w1.heap.size = w_.heap.size + 1 := by omega
    have n6 : ¬ w1.heap.size + 1 = w_.heap.size + 1 := by omega
    have n7 : ¬ w1.heap.size = w_.heap.size + 2 := by omega
    have n8 : ¬ w1.heap.size + 1 = w_.heap.size + 2 := by omega
    have HE9 := keep (hE8.but Hbut.out (by omega))
    have Hset2 := keep (enset HE9.out (.string (str k)) (.int .i64 p) (.int .i64 s))
    have Hbut2 := keep (enbut _ (w_.heap.size + 2) (.string (str k)) (.int .i64 p) (.int .i64 s) : But (w_.heap.size + 2) ((((((w8.setCell ⟨w_.heap.size + 1, 0, none⟩ (.int .i64 Q.lsn)).setCell ⟨w_.heap.size + 1, 1, none⟩ (.int .i64 Q.kind)).setCell ⟨w_.heap.size + 1, 2, none⟩ (.int .i64 Q.level)).setCell ⟨w_.heap.size + 1, 3, none⟩ (.int .i64 Q.right)).setCell ⟨w_.heap.size + 1, 4, none⟩ (.string (str Q.high))).setCell ⟨w_.heap.size + 1, 5, none⟩ (.slice ja Q.items.length jc)) _)
    have HR9 := keep (Hset.out.but Hbut2.out (by omega))
    have HIt9 := keep (itemsC_but (itemsC_but HIt8.out Hbut.out hR8 (by decide)) Hbut2.out HE9.out (by decide))
    have hga := But.below (Grow.trans HG0.out HG8.out) Hbut.out (show w_.heap.size ≤ w_.heap.size + 1 by omega) (show w_.heap.size ≤ w8.heap.size by omega)
    have HGa := keep (But.below hga Hbut2.out (show w_.heap.size ≤ w_.heap.size + 2 by omega) (by simp; omega))
    clear hR8 hE8 hga
    go_region
    all_goals go_wp2_with fail
    all_goals refine bodyPost_ret (v := .tuple #[pgV Q (.slice ja Q.items.length jc), enV (k, p, s), .int .i64 3]) ?_ rfl ((HPo.out _ _).2 ⟨.slice ja Q.items.length jc, by rw [HY.out], by rw [HY.out]; exact HIt9.out.fits (Below.drew (Grow.refl _)), Below.drew HGa.out⟩)
    all_goals
     obtain ⟨s0, s1, s2, s3, s4, s5, _⟩ := pgres (Blk.drew HR9.out)
     have hx9 := Blk.drew Hset2.out
     obtain ⟨t0, t1, t2, _⟩ := enres (show Blk _ (w_.heap.size + 1 + 1) _ _ from hx9)
     simp [results, Tryz.results21, go_sem, s0, s1, s2, s3, s4, s5, t0, t1, t2, pgV, enV]
     try rfl
   ·have hy := (HY1.out).2 rfl
    have HY2 := keep hy
    clear hy HY1
    have HRz := keep (HR0.out.fits HG8.out)
    have HEz := keep (HE0.out.fits HG8.out)
    have Hgz := keep (Grow.trans HG0.out HG8.out)
    have hzz := HEz.out.lt
    go_wp2_with (first | ((refine wpList_store_pg rfl _ _ rfl (w_.heap.size + 1) _ rfl rfl HRz.out rfl rfl rfl ?_); intro wy hsety hbuty; have Hsety := keep hsety; have Hbuty := keep hbuty; have HEy := keep (HEz.out.but hbuty (by omega)); clear hsety hbuty) | ((refine wpList_store_en rfl _ _ rfl (w_.heap.size + 2) _ rfl rfl HEy.out rfl rfl rfl ?_); intro wx hsetx hbutx; have Hsetx := keep hsetx; have Hbutx := keep hbutx; clear hsetx hbutx))
    have hga := But.below Hgz.out Hbuty.out (show w_.heap.size ≤ w_.heap.size + 1 by omega) Hgz.out.size
    have hgb := But.below hga Hbutx.out (show w_.heap.size ≤ w_.heap.size + 2 by omega) hga.size
    have HRx := Hsety.out.but Hbutx.out (by omega)
    refine bodyPost_ret (v := .tuple #[pgV zeroP (.slice none 0 0), enV leastE, .int .i64 140]) ?_ rfl ?_
    ·obtain ⟨s0, s1, s2, s3, s4, s5, _⟩ := pgres HRx
     obtain ⟨t0, t1, t2, _⟩ := enres (show Blk _ (w_.heap.size + 1 + 1) _ _ from Hsetx.out)
     simp [results, Tryz.results21, go_sem, s0, s1, s2, s3, s4, s5, t0, t1, t2, pgV, enV, zeroP, leastE]
     try rfl
    ·exact (HPo.out _ _).2 ⟨_, by rw [HY2.out], by rw [HY2.out]; exact ItemsC.nil _, hgb⟩
 ·subst hdz
  have hy := HYB.out (by first | rfl | trivial)
  have HY2 := keep hy
  have HX6 := HX5
  have HQ6 := HQ5
  obtain ⟨w6, hw6⟩ : ∃ w6, w6 = w5 := ⟨_, rfl⟩
  rw [← hw6] at HG5 HX6 HQ6 c0 c1 c2 ⊢
  have HG6 := HG5
  have hP6 := HP0.out.fits HG6.out
  unfold pgCells at hP6
  obtain ⟨p0, p1, p2, p3, p4, p5, _⟩ := pgres hP6
  clear hy hP6 hw6 HYB HY0 HX5 HQ5 HEs
  go_wp2_with fail
  refine (HIns.out w6 (Grow.trans HG0.out HG6.out)).mono ?_
  rintro x w7 ⟨jv, rfl, hit, hb7⟩
  have HX7 := keep (HX6.out.fits hb7)
  have HQ7 := keep (HQ6.out.fits hb7)
  have HG7 := keep (Grow.trans HG6.out hb7)
  obtain ⟨ja, jc, rfl⟩ := itemsS_form hit.1
  have HIt7 := keep hit
  clear p0 p1 p2 p3 p4 p5 c0 c1 c2 hb7 hit HX6 HQ6 HIns
  go_upto_region 18 with ((refine wpList_store_pg rfl _ _ rfl w1.heap.size _ rfl rfl HQ7.out rfl rfl rfl ?_); intro w8 hset8 hbut8; have HQ8 := keep hset8; have HB8 := keep hbut8; clear hset8 hbut8)
  have HX8 := keep (HX7.out.but HB8.out (by omega))
  have HG8 := keep (show Below w0.heap.size w0 w8 from But.below HG7.out HB8.out (by have := HZ1.out; omega) HG7.out.size)
  have HIt8 := keep (itemsC_but HIt7.out HB8.out HQ7.out (by decide))
  have HRz := keep (HR0.out.fits HG8.out)
  have HEz := keep (HE0.out.fits HG8.out)
  have Hgz := keep (Grow.trans HG0.out HG8.out)
  have hzz := HEz.out.lt
  go_wp2_with (first | ((refine wpList_store_pg rfl _ _ rfl (w_.heap.size + 1) _ rfl rfl HRz.out rfl rfl rfl ?_); intro wy hsety hbuty; have Hsety := keep hsety; have Hbuty := keep hbuty; have HEy := keep (HEz.out.but hbuty (by omega)); clear hsety hbuty) | ((refine wpList_store_en rfl _ _ rfl (w_.heap.size + 2) _ rfl rfl HEy.out rfl rfl rfl ?_); intro wx hsetx hbutx; have Hsetx := keep hsetx; have Hbutx := keep hbutx; clear hsetx hbutx))
  have hga := But.below Hgz.out Hbuty.out (show w_.heap.size ≤ w_.heap.size + 1 by omega) Hgz.out.size
  have hgb := But.below hga Hbutx.out (show w_.heap.size ≤ w_.heap.size + 2 by omega) hga.size
  have HRx := Hsety.out.but Hbutx.out (by omega)
  refine bodyPost_ret (v := .tuple #[pgV zeroP (.slice none 0 0), enV leastE, .int .i64 140]) ?_ rfl ?_
  ·obtain ⟨s0, s1, s2, s3, s4, s5, _⟩ := pgres HRx
   obtain ⟨t0, t1, t2, _⟩ := enres (show Blk _ (w_.heap.size + 1 + 1) _ _ from Hsetx.out)
   simp [results, Tryz.results21, go_sem, s0, s1, s2, s3, s4, s5, t0, t1, t2, pgV, enV, zeroP, leastE]
   try rfl
  ·exact (HPo.out _ _).2 ⟨_, by rw [HY2.out], by rw [HY2.out]; exact ItemsC.nil _, hgb⟩
end Go.Proofs.YtaninphcgeaepaaGreat
namespace Go.Proofs.YtaninphcgeaepaaGreat
open Go.RowKit
attribute [local go_sem] givesF_none givesF_some evalF_tmp evalF_const evalF_global evalF_func lookL isB_bool isB_undef givesUpon_value givesUpon_skip givesUpon_enter
attribute [local simp] eql_entry neq_entry neq_zeroE
attribute [local go_sem] guard_entry
set_option maxRecDepth 100000 in
set_option maxHeartbeats 4000000 in
theorem rlaid_inner (P : Pg) (iv : Value) (item : List UInt8) (w_ : World) (hin : PgIn w_ iv P) (hcap : Capd iv) (hs : (item.length : Int) ≤ 140737488355328) (hopen : openOk P = true) (hlv : P.level ≠ 0) :
  Calls Tryz.prog 21 #[pgV P iv, .string (str item)] w_ (LaidN P item w_) := by
 have hck := fun (u : World) (hu : Grow w_ u) => rcheck_any P iv u (hin.fits hu)
 have hpo : ∀ (x : Ending) (w' : World), LaidN P item w_ x w' ↔ (∃ jv, x = .returned (.tuple #[pgV (laidN P item).1 jv, enV (laidN P item).2.1, .int .i64 (laidN P item).2.2]) ∧ ItemsC w' jv (laidN P item).1.items ∧ Below w_.heap.size w_ w') := fun _ _ => Iff.rfl
 have hen := fun (u : World) (hu : Grow w_ u) => rkids_any P iv u (hin.fits hu)
 have hdc := fun (u : World) => runsep_any item u (by omega)
 have hst := fun (u : World) (v : Value) (h : EnsS u v (ensN P)) => rstands_any (unsN item).1 (ensN P) v u h (by rw [ensN_length]; have := (open_fine hopen).1; omega)
 have hins2 := fun (u : World) (hu : Grow w_ u) => rpost_any P iv (unsN item).1 (unsN item).2.1 u (hin.fits hu) hcap
 have hek : kidsOk P = true := by unfold kidsOk; rw [hopen, decide_eq_false hlv]; rfl
 have hdcc := uns_codes item
 have hqc := post_codes P (unsN item).1 (unsN item).2.1
 have hlay : layN P item = if (unsN item).2.2 ≠ 0 then (zeroP, leastE, (unsN item).2.2) else if (unsN item).1 ∈ (ensN P).drop 1 then (zeroP, (unsN item).1, 150) else ((postN P (unsN item).1 (unsN item).2.1).1, (unsN item).1, (postN P (unsN item).1 (unsN item).2.1).2) := by unfold layN; rw [hopen, if_pos rfl, if_neg hlv]
 have htl := least_tail hopen hlv (e := (unsN item).1)
 have hy0 : (unsN item).2.2 = 0 → (isL (unsN item).1 = false → ((unsN item).1 ∈ ensN P → laidN P item = (zeroP, (unsN item).1, 150)) ∧ ((unsN item).1 ∉ ensN P → (((postN P (unsN item).1 (unsN item).2.1).2 = 0 ∨ (postN P (unsN item).1 (unsN item).2.1).2 = 3) → laidN P item = ((postN P (unsN item).1 (unsN item).2.1).1, (unsN item).1, (postN P (unsN item).1 (unsN item).2.1).2)) ∧ ((postN P (unsN item).1 (unsN item).2.1).2 = 140 → laidN P item = (zeroP, leastE, 140)))) ∧
   (isL (unsN item).1 = true → (postN P (unsN item).1 (unsN item).2.1).2 = 140 ∧ laidN P item = (zeroP, leastE, 140)) := by
  intro h0
  rw [if_neg (fun h => h h0)] at hlay
  refine ⟨fun hL => ?_, fun hL => ?_⟩
  ·have hne : (unsN item).1 ≠ leastE := of_decide_eq_false hL
   refine ⟨fun h1 => ?_, fun h1 => ⟨fun h2 => ?_, fun h2 => ?_⟩⟩
   ·rw [if_pos (htl.2 ⟨h1, hne⟩)] at hlay
    unfold laidN; rw [hlay, if_neg (by dsimp only; decide)]
   ·rw [if_neg (fun h => h1 (htl.1 h).1)] at hlay
    unfold laidN; rw [hlay, if_neg (by dsimp only; rcases h2 with h2 | h2 <;> rw [h2] <;> decide)]
   ·rw [if_neg (fun h => h1 (htl.1 h).1)] at hlay
    unfold laidN; rw [hlay, if_pos h2]
  ·have he : (unsN item).1 = leastE := of_decide_eq_true hL
   have hp : (postN P (unsN item).1 (unsN item).2.1).2 = 140 := by unfold postN postOk; rw [he, least_bad]; simp
   refine ⟨hp, ?_⟩
   rw [if_neg (fun h => (htl.1 h).2 he)] at hlay
   unfold laidN; rw [hlay, if_pos hp]
 have hyb : (unsN item).2.2 = 140 → laidN P item = (zeroP, leastE, 140) := by
  intro h0
  rw [if_pos (by rw [h0]; decide)] at hlay
  unfold laidN; rw [hlay, if_pos h0]
 have hlv2 : (P.level == 0) = false := by simp [hlv]
 unfold ChkPost at hck
 rw [hopen] at hck
 unfold KidsPost at hen
 rw [hek] at hen
 simp only [if_true] at hen hck
 unfold PgPost at hins2
 clear hlay htl
 generalize laidN P item = Y at *
 generalize unsN item = D at *
 obtain ⟨e, ch, dc⟩ := D
 dsimp only at hdc hst hins2 hdcc hqc hy0 hyb
 generalize postN P e ch = I at *
 generalize ensN P = L at *
 obtain ⟨Q, qc⟩ := I
 obtain ⟨k, p, s⟩ := e
 dsimp only at hins2 hqc hy0
 unfold pgV at hck hen hins2
 unfold enV at hdc hst hins2
 dsimp only at hdc hst hins2
 obtain ⟨w0, hw0⟩ : ∃ w0, w0 = ((w_.alloc (.cells (pgCells P iv).toArray 24)).alloc (.cells #[.int .i64 0, .int .i64 0, .int .i64 0, .int .i64 0, .string ⟨#[]⟩, .slice none 0 0] 24)).alloc (.cells #[.string ⟨#[]⟩, .int .i64 0, .int .i64 0] 41) := ⟨_, rfl⟩
 obtain ⟨hg0, hP0, hR0, hE0⟩ := ppe_new P iv w_ w0 hw0
 have HCk := keep hck
 have HEn := keep hen
 have HDc := keep hdc
 have HSt := keep hst
 have HIns := keep hins2
 have HPo := keep hpo
 have HQC := keep hqc
 have HDC := keep hdcc
 have HY0 := keep hy0
 have HYB := keep hyb
 have HP0 := keep hP0
 have HR0 := keep hR0
 have HE0 := keep hE0
 have HG0 := keep hg0
 have HLv := keep hlv2
 have hz0 := hE0.lt
 clear hck hen hdc hst hins2 hpo hR0 hE0 hg0 hlv hlv2 hin hcap hopen hek hqc hdcc hy0 hyb
 unfold pgCells at hw0 hP0
 obtain ⟨p0, p1, p2, p3, p4, p5, _⟩ := pgres hP0
 clear hP0
 unfold pgV
 go_enter Tryz.func21, Tryz.ntmps21
 go_upto_region 1 with fail
 rw [← hw0]
 clear hw0
 go_wp2_with fail
 refine (HCk.out w0 HG0.out).mono ?_
 rintro x w1 ⟨rfl, hb1⟩
 have HG1 := keep hb1
 have hP1 := HP0.out.fits hb1
 clear p0 p1 p2 p3 p4 p5 hb1 HCk
 unfold pgCells at hP1
 obtain ⟨p0, p1, p2, p3, p4, p5, _⟩ := pgres hP1
 have hl1 : w_.heap.size < w1.heap.size := hP1.lt
 clear hP1
 have hlv := HLv.out
 go_upto_region 13 with fail
 clear hlv p0 p1 p2 p3 p4 p5
 obtain ⟨w2, hw2⟩ : ∃ w2, w2 = (w1.alloc (.cells #[.int .i64 0, .int .i64 0, .int .i64 0, .int .i64 0, .string ⟨#[]⟩, .slice none 0 0] 24)).alloc (.cells #[.string ⟨#[]⟩, .int .i64 0, .int .i64 0] 41) := ⟨_, rfl⟩
 have hg2 : Grow w1 w2 := by subst hw2; exact ((Grow.refl _).alloc _).alloc _
 have hQ2 : Blk w2 w1.heap.size 24 [.int .i64 0, .int .i64 0, .int .i64 0, .int .i64 0, .string ⟨#[]⟩, .slice none 0 0] := by
  have := (Blk.new w1 24 [.int .i64 0, .int .i64 0, .int .i64 0, .int .i64 0, .string ⟨#[]⟩, .slice none 0 0]).alloc (.cells #[.string ⟨#[]⟩, .int .i64 0, .int .i64 0] 41)
  subst hw2; exact this
 have hX2 : Blk w2 (w1.heap.size + 1) 41 [.string ⟨#[]⟩, .int .i64 0, .int .i64 0] := by
  have := Blk.new (w1.alloc (.cells #[.int .i64 0, .int .i64 0, .int .i64 0, .int .i64 0, .string ⟨#[]⟩, .slice none 0 0] 24)) 41 [.string ⟨#[]⟩, .int .i64 0, .int .i64 0]
  have e : (w1.alloc (.cells #[.int .i64 0, .int .i64 0, .int .i64 0, .int .i64 0, .string ⟨#[]⟩, .slice none 0 0] 24)).heap.size = w1.heap.size + 1 := by simp
  rw [e] at this
  subst hw2; exact this
 rw [← hw2]
 have HQ2 := keep hQ2
 have HX2 := keep hX2
 have HG2 := keep (Grow.trans HG1.out hg2)
 have hz2 := hX2.lt
 have HZ1 := keep (show w0.heap.size ≤ w1.heap.size from HG1.out.size)
 clear hw2 hg2 hQ2 hX2
 go_wp2_with fail
 refine (HDc.out w2).mono ?_
 rintro x w3 ⟨rfl, hb3⟩
 have hX3 := HX2.out.fits hb3
 have HQ3 := keep (HQ2.out.fits hb3)
 have HG3 := keep (Grow.trans HG2.out hb3)
 have HX3 := keep hX3
 clear hb3 hX3 HDc HQ2 HX2
 go_upto_region 14 with ((refine wpList_store_en rfl _ _ rfl (w1.heap.size + 1) _ rfl rfl HX3.out rfl rfl rfl ?_); intro w4 hset4 hbut4; have HX4 := keep hset4; have HB4 := keep hbut4; clear hset4 hbut4)
 have HQ4 := keep (HQ3.out.but HB4.out (by omega))
 have HG4 := keep (show Below w0.heap.size w0 w4 from But.below HG3.out HB4.out (by have := HZ1.out; omega) HG3.out.size)
 have hP4 := HP0.out.fits HG4.out
 unfold pgCells at hP4
 clear HQ3 HX3 HB4
 obtain ⟨p0, p1, p2, p3, p4, p5, _⟩ := pgres hP4
 clear hP4
 go_wp2_with fail
 refine (HEn.out w4 (Grow.trans HG0.out HG4.out)).mono ?_
 rintro x w5 ⟨⟨a, c, a2, c2, rfl, hes, _⟩, hb5⟩
 have HX5 := keep (HX4.out.fits hb5)
 have HQ5 := keep (HQ4.out.fits hb5)
 have HG5 := keep (Grow.trans HG4.out hb5)
 have HEs := keep hes
 clear p0 p1 p2 p3 p4 p5 hb5 hes HEn HX4 HQ4
 obtain ⟨c0, c1, c2, _⟩ := enres HX5.out
 rcases HDC.out with hdz | hdz
 ·subst hdz
  cases hL : isL (k, p, s) with
  | true =>
   obtain ⟨hq, hy⟩ := (HY0.out (by first | rfl | trivial)).2 hL
   subst hq
   have HY2 := keep hy
   clear hy
   have HX6 := HX5
   have HQ6 := HQ5
   obtain ⟨w6, hw6⟩ : ∃ w6, w6 = w5 := ⟨_, rfl⟩
   rw [← hw6] at HG5 HX6 HQ6 c0 c1 c2 ⊢
   have HG6 := HG5
   have hP6 := HP0.out.fits HG6.out
   unfold pgCells at hP6
   obtain ⟨p0, p1, p2, p3, p4, p5, _⟩ := pgres hP6
   clear hP6 hw6 HYB HY0 HX5 HQ5 HEs
   go_wp2_with fail
   refine (HIns.out w6 (Grow.trans HG0.out HG6.out)).mono ?_
   rintro x w7 ⟨jv, rfl, hit, hb7⟩
   have HX7 := keep (HX6.out.fits hb7)
   have HQ7 := keep (HQ6.out.fits hb7)
   have HG7 := keep (Grow.trans HG6.out hb7)
   obtain ⟨ja, jc, rfl⟩ := itemsS_form hit.1
   have HIt7 := keep hit
   clear p0 p1 p2 p3 p4 p5 c0 c1 c2 hb7 hit HX6 HQ6 HIns
   go_upto_region 18 with ((refine wpList_store_pg rfl _ _ rfl w1.heap.size _ rfl rfl HQ7.out rfl rfl rfl ?_); intro w8 hset8 hbut8; have HQ8 := keep hset8; have HB8 := keep hbut8; clear hset8 hbut8)
   have HX8 := keep (HX7.out.but HB8.out (by omega))
   have HG8 := keep (show Below w0.heap.size w0 w8 from But.below HG7.out HB8.out (by have := HZ1.out; omega) HG7.out.size)
   have HIt8 := keep (itemsC_but HIt7.out HB8.out HQ7.out (by decide))
   have HRz := keep (HR0.out.fits HG8.out)
   have HEz := keep (HE0.out.fits HG8.out)
   have Hgz := keep (Grow.trans HG0.out HG8.out)
   have hzz := HEz.out.lt
   go_wp2_with (first | ((refine wpList_store_pg rfl _ _ rfl (w_.heap.size + 1) _ rfl rfl HRz.out rfl rfl rfl ?_); intro wy hsety hbuty; have Hsety := keep hsety; have Hbuty := keep hbuty; have HEy := keep (HEz.out.but hbuty (by omega)); clear hsety hbuty) | ((refine wpList_store_en rfl _ _ rfl (w_.heap.size + 2) _ rfl rfl HEy.out rfl rfl rfl ?_); intro wx hsetx hbutx; have Hsetx := keep hsetx; have Hbutx := keep hbutx; clear hsetx hbutx))
   have hga := But.below Hgz.out Hbuty.out (show w_.heap.size ≤ w_.heap.size + 1 by omega) Hgz.out.size
   have hgb := But.below hga Hbutx.out (show w_.heap.size ≤ w_.heap.size + 2 by omega) hga.size
   have HRx := Hsety.out.but Hbutx.out (by omega)
   refine bodyPost_ret (v := .tuple #[pgV zeroP (.slice none 0 0), enV leastE, .int .i64 140]) ?_ rfl ?_
   ·obtain ⟨s0, s1, s2, s3, s4, s5, _⟩ := pgres HRx
    obtain ⟨t0, t1, t2, _⟩ := enres (show Blk _ (w_.heap.size + 1 + 1) _ _ from Hsetx.out)
    simp [results, Tryz.results21, go_sem, s0, s1, s2, s3, s4, s5, t0, t1, t2, pgV, enV, zeroP, leastE]
    try rfl
   ·exact (HPo.out _ _).2 ⟨_, by rw [HY2.out], by rw [HY2.out]; exact ItemsC.nil _, hgb⟩
  | false =>
   have HLn := keep hL
   go_wp2_with fail
   refine (HSt.out w5 _ HEs.out).mono ?_
   rintro x w6 ⟨rfl, hb6⟩
   have HX6 := keep (HX5.out.fits hb6)
   have HQ6 := keep (HQ5.out.fits hb6)
   have HG6 := keep (Grow.trans HG5.out hb6)
   clear c0 c1 c2 hb6 HX5 HQ5 HSt
   obtain ⟨c0, c1, c2, _⟩ := enres HX6.out
   by_cases hm : (k, p, s) ∈ L
   ·have hy := ((HY0.out (by first | rfl | trivial)).1 HLn.out).1 hm
    have HY := keep hy
    rw [decide_eq_true hm]
    clear hm hy HY0
    go_upto_region 16 with fail
    have hR8 := HR0.out.fits HG6.out
    have hE8 := HE0.out.fits HG6.out
    obtain ⟨r0, r1, r2, r3, r4, r5, f0, f1, f2, f3, f4, f5⟩ := pgres hR8
    obtain ⟨e0, e1, e2, g0, g1, g2⟩ := enres hE8
    have Hset := keep (pgset hR8 (.int .i64 0) (.int .i64 0) (.int .i64 0) (.int .i64 0) (.string ⟨#[]⟩) (.slice none 0 0))
    have Hbut := keep (pgbut w6 (w_.heap.size + 1) (.int .i64 0) (.int .i64 0) (.int .i64 0) (.int .i64 0) (.string ⟨#[]⟩) (.slice none 0 0))
    have hz8 := (HG6.out).size
    have hz1 := HZ1.out
    have n1 : ¬ w_.heap.size + 1 = w1.heap.size := by omega
    have n2 : ¬ w_.heap.size + 1 = w1.heap.size + 1 := by omega
    have n3 : ¬ w_.heap.size + 2 = w1.heap.size := by omega
    have n4 : ¬ w_.heap.size + 2 = w1.heap.size + 1 := by omega
    have n5 : ¬ w1.heap.size = w_.heap.size + 1 := by omega
    have n6 : ¬ w1.heap.size + 1 = w_.heap.size + 1 := by omega
    have n7 : ¬ w1.heap.size = w_.heap.size + 2 := by omega
    have n8 : ¬ w1.heap.size + 1 = w_.heap.size + 2 := by omega
    have HE9 := keep (hE8.but Hbut.out (by omega))
    have Hset2 := keep (enset HE9.out (.string (str k)) (.int .i64 p) (.int .i64 s))
    have Hbut2 := keep (enbut _ (w_.heap.size + 2) (.string (str k)) (.int .i64 p) (.int .i64 s) : But (w_.heap.size + 2) ((((((w6.setCell ⟨w_.heap.size + 1, 0, none⟩ (.int .i64 0)).setCell ⟨w_.heap.size + 1, 1, none⟩ (.int .i64 0)).setCell ⟨w_.heap.size + 1, 2, none⟩ (.int .i64 0)).setCell ⟨w_.heap.size + 1, 3, none⟩ (.int .i64 0)).setCell ⟨w_.heap.size + 1, 4, none⟩ (.string ⟨#[]⟩)).setCell ⟨w_.heap.size + 1, 5, none⟩ (.slice none 0 0)) _)
    have HR9 := keep (Hset.out.but Hbut2.out (by omega))
    have hga := But.below (Grow.trans HG0.out HG6.out) Hbut.out (show w_.heap.size ≤ w_.heap.size + 1 by omega) (show w_.heap.size ≤ w6.heap.size by omega)
    have HGa := keep (But.below hga Hbut2.out (show w_.heap.size ≤ w_.heap.size + 2 by omega) (by simp; omega))
    clear hR8 hE8 hga
    go_region
    all_goals go_wp2_with fail
    all_goals refine bodyPost_ret (v := .tuple #[pgV zeroP (.slice none 0 0), enV (k, p, s), .int .i64 150]) ?_ rfl ((HPo.out _ _).2 ⟨.slice none 0 0, by rw [HY.out], by rw [HY.out]; exact ItemsC.nil _, Below.drew HGa.out⟩)
    all_goals
     obtain ⟨s0, s1, s2, s3, s4, s5, _⟩ := pgres (Blk.drew HR9.out)
     have hx9 := Blk.drew Hset2.out
     obtain ⟨t0, t1, t2, _⟩ := enres (show Blk _ (w_.heap.size + 1 + 1) _ _ from hx9)
     simp [results, Tryz.results21, go_sem, s0, s1, s2, s3, s4, s5, t0, t1, t2, pgV, enV, zeroP]
     try rfl
   ·have hy := ((HY0.out (by first | rfl | trivial)).1 HLn.out).2 hm
    have HY1 := keep hy
    rw [decide_eq_false hm]
    have hP6 := HP0.out.fits HG6.out
    unfold pgCells at hP6
    obtain ⟨p0, p1, p2, p3, p4, p5, _⟩ := pgres hP6
    clear hm hy HY0 hP6
    go_wp2_with fail
    refine (HIns.out w6 (Grow.trans HG0.out HG6.out)).mono ?_
    rintro x w7 ⟨jv, rfl, hit, hb7⟩
    have HX7 := keep (HX6.out.fits hb7)
    have HQ7 := keep (HQ6.out.fits hb7)
    have HG7 := keep (Grow.trans HG6.out hb7)
    obtain ⟨ja, jc, rfl⟩ := itemsS_form hit.1
    have HIt7 := keep hit
    clear p0 p1 p2 p3 p4 p5 c0 c1 c2 hb7 hit HX6 HQ6 HIns
    go_upto_region 18 with ((refine wpList_store_pg rfl _ _ rfl w1.heap.size _ rfl rfl HQ7.out rfl rfl rfl ?_); intro w8 hset8 hbut8; have HQ8 := keep hset8; have HB8 := keep hbut8; clear hset8 hbut8)
    have HX8 := keep (HX7.out.but HB8.out (by omega))
    have HG8 := keep (show Below w0.heap.size w0 w8 from But.below HG7.out HB8.out (by have := HZ1.out; omega) HG7.out.size)
    have HIt8 := keep (itemsC_but HIt7.out HB8.out HQ7.out (by decide))
    rcases HQC.out with rfl | rfl | rfl
    ·have hy := (HY1.out).1 (.inl rfl)
     have HY := keep hy
     clear hy HY1
     go_upto_region 20 with fail
     obtain ⟨q0, q1, q2, q3, q4, q5, _⟩ := pgres HQ8.out
     obtain ⟨c0, c1, c2, _⟩ := enres HX8.out
     have hR8 := HR0.out.fits HG8.out
     have hE8 := HE0.out.fits HG8.out
     obtain ⟨r0, r1, r2, r3, r4, r5, f0, f1, f2, f3, f4, f5⟩ := pgres hR8
     obtain ⟨e0, e1, e2, g0, g1, g2⟩ := enres hE8
     have Hset := keep (pgset hR8 (.int .i64 Q.lsn) (.int .i64 Q.kind) (.int .i64 Q.level) (.int .i64 Q.right) (.string (str Q.high)) (.slice ja Q.items.length jc))
     have Hbut := keep (pgbut w8 (w_.heap.size + 1) (.int .i64 Q.lsn) (.int .i64 Q.kind) (.int .i64 Q.level) (.int .i64 Q.right) (.string (str Q.high)) (.slice ja Q.items.length jc))
     have hz8 := (HG8.out).size
     have hz1 := HZ1.out
     have n1 : ¬ w_.heap.size + 1 = w1.heap.size := by omega
     have n2 : ¬ w_.heap.size + 1 = w1.heap.size + 1 := by omega
     have n3 : ¬ w_.heap.size + 2 = w1.heap.size := by omega
     have n4 : ¬ w_.heap.size + 2 = w1.heap.size + 1 := by omega
     have n5 : ¬ w1.heap.size = w_.heap.size + 1 := by omega
     have n6 : ¬ w1.heap.size + 1 = w_.heap.size + 1 := by omega
     have n7 : ¬ w1.heap.size = w_.heap.size + 2 := by omega
     have n8 : ¬ w1.heap.size + 1 = w_.heap.size + 2 := by omega
     have HE9 := keep (hE8.but Hbut.out (by omega))
     have Hset2 := keep (enset HE9.out (.string (str k)) (.int .i64 p) (.int .i64 s))
     have Hbut2 := keep (enbut _ (w_.heap.size + 2) (.string (str k)) (.int .i64 p) (.int .i64 s) : But (w_.heap.size + 2) ((((((w8.setCell ⟨w_.heap.size + 1, 0, none⟩ (.int .i64 Q.lsn)).setCell ⟨w_.heap.size + 1, 1, none⟩ (.int .i64 Q.kind)).setCell ⟨w_.heap.size + 1, 2, none⟩ (.int .i64 Q.level)).setCell ⟨w_.heap.size + 1, 3, none⟩ (.int .i64 Q.right)).setCell ⟨w_.heap.size + 1, 4, none⟩ (.string (str Q.high))).setCell ⟨w_.heap.size + 1, 5, none⟩ (.slice ja Q.items.length jc)) _)
     have HR9 := keep (Hset.out.but Hbut2.out (by omega))
     have HIt9 := keep (itemsC_but (itemsC_but HIt8.out Hbut.out hR8 (by decide)) Hbut2.out HE9.out (by decide))
     have hga := But.below (Grow.trans HG0.out HG8.out) Hbut.out (show w_.heap.size ≤ w_.heap.size + 1 by omega) (show w_.heap.size ≤ w8.heap.size by omega)
     have HGa := keep (But.below hga Hbut2.out (show w_.heap.size ≤ w_.heap.size + 2 by omega) (by simp; omega))
     clear hR8 hE8 hga
     go_region
     all_goals go_wp2_with fail
     all_goals refine bodyPost_ret (v := .tuple #[pgV Q (.slice ja Q.items.length jc), enV (k, p, s), .int .i64 0]) ?_ rfl ((HPo.out _ _).2 ⟨.slice ja Q.items.length jc, by rw [HY.out], by rw [HY.out]; exact HIt9.out.fits (Below.drew (Grow.refl _)), Below.drew HGa.out⟩)
     all_goals
      obtain ⟨s0, s1, s2, s3, s4, s5, _⟩ := pgres (Blk.drew HR9.out)
      have hx9 := Blk.drew Hset2.out
      obtain ⟨t0, t1, t2, _⟩ := enres (show Blk _ (w_.heap.size + 1 + 1) _ _ from hx9)
      simp [results, Tryz.results21, go_sem, s0, s1, s2, s3, s4, s5, t0, t1, t2, pgV, enV]
      try rfl
    ·have hy := (HY1.out).1 (.inr rfl)
     have HY := keep hy
     clear hy HY1
     go_upto_region 20 with fail
     obtain ⟨q0, q1, q2, q3, q4, q5, _⟩ := pgres HQ8.out
     obtain ⟨c0, c1, c2, _⟩ := enres HX8.out
     have hR8 := HR0.out.fits HG8.out
     have hE8 := HE0.out.fits HG8.out
     obtain ⟨r0, r1, r2, r3, r4, r5, f0, f1, f2, f3, f4, f5⟩ := pgres hR8
     obtain ⟨e0, e1, e2, g0, g1, g2⟩ := enres hE8
     have Hset := keep (pgset hR8 (.int .i64 Q.lsn) (.int .i64 Q.kind) (.int .i64 Q.level) (.int .i64 Q.right) (.string (str Q.high)) (.slice ja Q.items.length jc))
     have Hbut := keep (pgbut w8 (w_.heap.size + 1) (.int .i64 Q.lsn) (.int .i64 Q.kind) (.int .i64 Q.level) (.int .i64 Q.right) (.string (str Q.high)) (.slice ja Q.items.length jc))
     have hz8 := (HG8.out).size
     have hz1 := HZ1.out
     have n1 : ¬ w_.heap.size + 1 = w1.heap.size := by omega
     have n2 : ¬ w_.heap.size + 1 = w1.heap.size + 1 := by omega
     have n3 : ¬ w_.heap.size + 2 = w1.heap.size := by omega
     have n4 : ¬ w_.heap.size + 2 = w1.heap.size + 1 := by omega
     have n5 : ¬ w1.heap.size = w_.heap.size + 1 := by omega
     have n6 : ¬ w1.heap.size + 1 = w_.heap.size + 1 := by omega
     have n7 : ¬ w1.heap.size = w_.heap.size + 2 := by omega
     have n8 : ¬ w1.heap.size + 1 = w_.heap.size + 2 := by omega
     have HE9 := keep (hE8.but Hbut.out (by omega))
     have Hset2 := keep (enset HE9.out (.string (str k)) (.int .i64 p) (.int .i64 s))
     have Hbut2 := keep (enbut _ (w_.heap.size + 2) (.string (str k)) (.int .i64 p) (.int .i64 s) : But (w_.heap.size + 2) ((((((w8.setCell ⟨w_.heap.size + 1, 0, none⟩ (.int .i64 Q.lsn)).setCell ⟨w_.heap.size + 1, 1, none⟩ (.int .i64 Q.kind)).setCell ⟨w_.heap.size + 1, 2, none⟩ (.int .i64 Q.level)).setCell ⟨w_.heap.size + 1, 3, none⟩ (.int .i64 Q.right)).setCell ⟨w_.heap.size + 1, 4, none⟩ (.string (str Q.high))).setCell ⟨w_.heap.size + 1, 5, none⟩ (.slice ja Q.items.length jc)) _)
     have HR9 := keep (Hset.out.but Hbut2.out (by omega))
     have HIt9 := keep (itemsC_but (itemsC_but HIt8.out Hbut.out hR8 (by decide)) Hbut2.out HE9.out (by decide))
     have hga := But.below (Grow.trans HG0.out HG8.out) Hbut.out (show w_.heap.size ≤ w_.heap.size + 1 by omega) (show w_.heap.size ≤ w8.heap.size by omega)
     have HGa := keep (But.below hga Hbut2.out (show w_.heap.size ≤ w_.heap.size + 2 by omega) (by simp; omega))
     clear hR8 hE8 hga
     go_region
     all_goals go_wp2_with fail
     all_goals refine bodyPost_ret (v := .tuple #[pgV Q (.slice ja Q.items.length jc), enV (k, p, s), .int .i64 3]) ?_ rfl ((HPo.out _ _).2 ⟨.slice ja Q.items.length jc, by rw [HY.out], by rw [HY.out]; exact HIt9.out.fits (Below.drew (Grow.refl _)), Below.drew HGa.out⟩)
     all_goals
      obtain ⟨s0, s1, s2, s3, s4, s5, _⟩ := pgres (Blk.drew HR9.out)
      have hx9 := Blk.drew Hset2.out
      obtain ⟨t0, t1, t2, _⟩ := enres (show Blk _ (w_.heap.size + 1 + 1) _ _ from hx9)
      simp [results, Tryz.results21, go_sem, s0, s1, s2, s3, s4, s5, t0, t1, t2, pgV, enV]
      try rfl
    ·have hy := (HY1.out).2 rfl
     have HY2 := keep hy
     clear hy HY1
     have HRz := keep (HR0.out.fits HG8.out)
     have HEz := keep (HE0.out.fits HG8.out)
     have Hgz := keep (Grow.trans HG0.out HG8.out)
     have hzz := HEz.out.lt
     go_wp2_with (first | ((refine wpList_store_pg rfl _ _ rfl (w_.heap.size + 1) _ rfl rfl HRz.out rfl rfl rfl ?_); intro wy hsety hbuty; have Hsety := keep hsety; have Hbuty := keep hbuty; have HEy := keep (HEz.out.but hbuty (by omega)); clear hsety hbuty) | ((refine wpList_store_en rfl _ _ rfl (w_.heap.size + 2) _ rfl rfl HEy.out rfl rfl rfl ?_); intro wx hsetx hbutx; have Hsetx := keep hsetx; have Hbutx := keep hbutx; clear hsetx hbutx))
     have hga := But.below Hgz.out Hbuty.out (show w_.heap.size ≤ w_.heap.size + 1 by omega) Hgz.out.size
     have hgb := But.below hga Hbutx.out (show w_.heap.size ≤ w_.heap.size + 2 by omega) hga.size
     have HRx := Hsety.out.but Hbutx.out (by omega)
     refine bodyPost_ret (v := .tuple #[pgV zeroP (.slice none 0 0), enV leastE, .int .i64 140]) ?_ rfl ?_
     ·obtain ⟨s0, s1, s2, s3, s4, s5, _⟩ := pgres HRx
      obtain ⟨t0, t1, t2, _⟩ := enres (show Blk _ (w_.heap.size + 1 + 1) _ _ from Hsetx.out)
      simp [results, Tryz.results21, go_sem, s0, s1, s2, s3, s4, s5, t0, t1, t2, pgV, enV, zeroP, leastE]
      try rfl
     ·exact (HPo.out _ _).2 ⟨_, by rw [HY2.out], by rw [HY2.out]; exact ItemsC.nil _, hgb⟩
 ·subst hdz
  have hy := HYB.out (by first | rfl | trivial)
  have HY2 := keep hy
  clear hy
  have HX6 := HX5
  have HQ6 := HQ5
  obtain ⟨w6, hw6⟩ : ∃ w6, w6 = w5 := ⟨_, rfl⟩
  rw [← hw6] at HG5 HX6 HQ6 c0 c1 c2 ⊢
  have HG6 := HG5
  have hP6 := HP0.out.fits HG6.out
  unfold pgCells at hP6
  obtain ⟨p0, p1, p2, p3, p4, p5, _⟩ := pgres hP6
  clear hP6 hw6 HYB HY0 HX5 HQ5 HEs
  go_wp2_with fail
  refine (HIns.out w6 (Grow.trans HG0.out HG6.out)).mono ?_
  rintro x w7 ⟨jv, rfl, hit, hb7⟩
  have HX7 := keep (HX6.out.fits hb7)
  have HQ7 := keep (HQ6.out.fits hb7)
  have HG7 := keep (Grow.trans HG6.out hb7)
  obtain ⟨ja, jc, rfl⟩ := itemsS_form hit.1
  have HIt7 := keep hit
  clear p0 p1 p2 p3 p4 p5 c0 c1 c2 hb7 hit HX6 HQ6 HIns
  go_upto_region 18 with ((refine wpList_store_pg rfl _ _ rfl w1.heap.size _ rfl rfl HQ7.out rfl rfl rfl ?_); intro w8 hset8 hbut8; have HQ8 := keep hset8; have HB8 := keep hbut8; clear hset8 hbut8)
  have HX8 := keep (HX7.out.but HB8.out (by omega))
  have HG8 := keep (show Below w0.heap.size w0 w8 from But.below HG7.out HB8.out (by have := HZ1.out; omega) HG7.out.size)
  have HIt8 := keep (itemsC_but HIt7.out HB8.out HQ7.out (by decide))
  have HRz := keep (HR0.out.fits HG8.out)
  have HEz := keep (HE0.out.fits HG8.out)
  have Hgz := keep (Grow.trans HG0.out HG8.out)
  have hzz := HEz.out.lt
  go_wp2_with (first | ((refine wpList_store_pg rfl _ _ rfl (w_.heap.size + 1) _ rfl rfl HRz.out rfl rfl rfl ?_); intro wy hsety hbuty; have Hsety := keep hsety; have Hbuty := keep hbuty; have HEy := keep (HEz.out.but hbuty (by omega)); clear hsety hbuty) | ((refine wpList_store_en rfl _ _ rfl (w_.heap.size + 2) _ rfl rfl HEy.out rfl rfl rfl ?_); intro wx hsetx hbutx; have Hsetx := keep hsetx; have Hbutx := keep hbutx; clear hsetx hbutx))
  have hga := But.below Hgz.out Hbuty.out (show w_.heap.size ≤ w_.heap.size + 1 by omega) Hgz.out.size
  have hgb := But.below hga Hbutx.out (show w_.heap.size ≤ w_.heap.size + 2 by omega) hga.size
  have HRx := Hsety.out.but Hbutx.out (by omega)
  refine bodyPost_ret (v := .tuple #[pgV zeroP (.slice none 0 0), enV leastE, .int .i64 140]) ?_ rfl ?_
  ·obtain ⟨s0, s1, s2, s3, s4, s5, _⟩ := pgres HRx
   obtain ⟨t0, t1, t2, _⟩ := enres (show Blk _ (w_.heap.size + 1 + 1) _ _ from Hsetx.out)
   simp [results, Tryz.results21, go_sem, s0, s1, s2, s3, s4, s5, t0, t1, t2, pgV, enV, zeroP, leastE]
   try rfl
  ·exact (HPo.out _ _).2 ⟨_, by rw [HY2.out], by rw [HY2.out]; exact ItemsC.nil _, hgb⟩
theorem rlaid_any (P : Pg) (iv : Value) (item : List UInt8) (w_ : World) (hin : PgIn w_ iv P) (hcap : Capd iv) (hs : (item.length : Int) ≤ 140737488355328) :
  Calls Tryz.prog 21 #[pgV P iv, .string (str item)] w_ (LaidN P item w_) := by
 cases ho : openOk P with
 | false => exact rlaid_shut P iv item w_ hin ho
 | true =>
  by_cases hl : P.level = 0
  ·exact rlaid_leaf P iv item w_ hin hcap hs ho hl
  ·exact rlaid_inner P iv item w_ hin hcap hs ho hl
end Go.Proofs.YtaninphcgeaepaaGreat
