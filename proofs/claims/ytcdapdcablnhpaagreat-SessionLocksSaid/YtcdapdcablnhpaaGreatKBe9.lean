import Derived.Test.YtcdapdcablnhpaaGreatKLexr
import Derived.Test.YtcdapdcablnhpaaGreatKCg6
import Derived.Deep.CutRange
import Derived.Test.YtcdapdcablnhpaaGreatKLexn
import Derived.Test.YtcdapdcablnhpaaGreatKRk2
import Derived.Test.YtcdapdcablnhpaaGreatKBl2
import Derived.Test.YtcdapdcablnhpaaGreatKSp2
import Derived.Test.YtcdapdcablnhpaaGreatKRu2
import Derived.Test.YtcdapdcablnhpaaGreatKCg2
import Derived.Test.YtcdapdcablnhpaaGreatKRd3
import Derived.Test.YtcdapdcablnhpaaGreatKRd2
namespace Go.Proofs.YtcdapdcablnhpaaGreat
open Go.RowKit
attribute [local go_sem] hgs
def layN (P : Pg) (item : List UInt8) : Pg × En × Int :=
 if openOk P then
  (if P.level = 0 then (if (decN item).2 ≠ 0 then (zeroP, leastE, (decN item).2) else if (decN item).1 ∈ ensN P then (zeroP, (decN item).1, 150) else ((insN P (decN item).1).1, (decN item).1, (insN P (decN item).1).2))
   else (if (unsN item).2.2 ≠ 0 then (zeroP, leastE, (unsN item).2.2) else if (unsN item).1 ∈ (ensN P).drop 1 then (zeroP, (unsN item).1, 150) else ((postN P (unsN item).1 (unsN item).2.1).1, (unsN item).1, (postN P (unsN item).1 (unsN item).2.1).2)))
 else (zeroP, leastE, 140)
def LayN (P : Pg) (item : List UInt8) (w : World) (x : Ending) (w' : World) : Prop := LayPost (layN P item).1 (layN P item).2.1 (layN P item).2.2 w x w'
set_option maxRecDepth 100000 in
set_option maxHeartbeats 4000000 in
theorem lay_shut (P : Pg) (iv : Value) (item : List UInt8) (w_ : World) (hin : PgIn w_ iv P) (hopen : openOk P = false) :
  Calls Tryz.prog 96 #[pgV P iv, .string (str item)] w_ (LayN P item w_) := by
 have hck := fun (u : World) (hu : Grow w_ u) => check_node P iv u (hin.fits hu)
 have hpo : ∀ (x : Ending) (w' : World), LayN P item w_ x w' ↔ (∃ jv, x = .returned (.tuple #[pgV (layN P item).1 jv, enV (layN P item).2.1, .int .i64 (layN P item).2.2]) /\ ItemsC w' jv (layN P item).1.items /\ Below w_.heap.size w_ w') := fun _ _ => Iff.rfl
 have hy : layN P item = (zeroP, leastE, 140) := by unfold layN; rw [hopen]; rfl
 unfold ChkPost at hck;rw [hopen] at hck;simp only [Bool.false_eq_true, if_false] at hck;rw [hy] at hpo;unfold pgV at hck;dsimp only at hpo;obtain ⟨w0, hw0⟩ : ∃ w0, w0 = ((w_.alloc (.cells (pgCells P iv).toArray 28)).alloc (.cells #[.int .i64 0, .int .i64 0, .int .i64 0, .int .i64 0, .string ⟨#[]⟩, .slice none 0 0] 28)).alloc (.cells #[.string ⟨#[]⟩, .int .i64 0, .int .i64 0] 103) := ⟨_, rfl⟩;obtain ⟨hg0, hP0, hR0, hE0⟩ := ppe_new P iv w_ w0 hw0;have HCk := keep hck;have HPo := keep hpo;have HP0 := keep hP0;have HR0 := keep hR0;have HE0 := keep hE0;have HG0 := keep hg0;clear hck hpo hR0 hE0 hg0 hin hopen hy;unfold pgCells at hw0 hP0;obtain ⟨p0, p1, p2, p3, p4, p5, _⟩ := pgres hP0;clear hP0;unfold pgV;go_enter Tryz.func96, Tryz.ntmps96;go_upto_region 1 with fail;rw [<- hw0];clear hw0;go_wp2_with fail;refine (HCk.out w0 HG0.out).mono ?_;rintro x w1 ⟨rfl, hb1⟩;have HG1 := keep hb1;clear p0 p1 p2 p3 p4 p5 hb1 HCk;have HRz := keep (HR0.out.fits HG1.out);have HEz := keep (HE0.out.fits HG1.out);have Hgz := keep (Grow.trans HG0.out HG1.out);have hzz := HEz.out.lt
 go_wp2_with (first | ((refine wpList_store_pg rfl _ _ rfl (w_.heap.size + 1) _ rfl rfl HRz.out rfl rfl rfl ?_); intro wy hsety hbuty; have Hsety := keep hsety; have Hbuty := keep hbuty; have HEy := keep (HEz.out.but hbuty (by omega)); clear hsety hbuty) | ((refine wpList_store_en rfl _ _ rfl (w_.heap.size + 2) _ rfl rfl HEy.out rfl rfl rfl ?_); intro wx hsetx hbutx; have Hsetx := keep hsetx; have Hbutx := keep hbutx; clear hsetx hbutx))
 have hga := But.below Hgz.out Hbuty.out (show w_.heap.size <= w_.heap.size + 1 by omega) Hgz.out.size;have hgb := But.below hga Hbutx.out (show w_.heap.size <= w_.heap.size + 2 by omega) hga.size;have HRx := Hsety.out.but Hbutx.out (by omega);refine bodyPost_ret (v := .tuple #[pgV zeroP (.slice none 0 0), enV leastE, .int .i64 140]) ?_ rfl ?_
 ·obtain ⟨s0, s1, s2, s3, s4, s5, _⟩ := pgres HRx;obtain ⟨t0, t1, t2, _⟩ := enres (show Blk _ (w_.heap.size + 1 + 1) _ _ from Hsetx.out);simp [results, Tryz.results96, go_sem, s0, s1, s2, s3, s4, s5, t0, t1, t2, pgV, enV, zeroP, leastE]
  try rfl
 ·exact (HPo.out _ _).2 ⟨_, rfl, ItemsC.nil _, hgb⟩
set_option maxRecDepth 100000 in
set_option maxHeartbeats 4000000 in
theorem lay_leaf (P : Pg) (iv : Value) (item : List UInt8) (w_ : World) (hin : PgIn w_ iv P) (hs : (item.length : Int) <= 140737488355328) (hopen : openOk P = true) (hlv : P.level = 0) :
  Calls Tryz.prog 96 #[pgV P iv, .string (str item)] w_ (LayN P item w_) := by
 have hck := fun (u : World) (hu : Grow w_ u) => check_node P iv u (hin.fits hu)
 have hen := fun (u : World) (hu : Grow w_ u) => entries_node P iv u (hin.fits hu)
 have hdc := fun (u : World) => decode_any item u (by omega)
 have hco := fun (e : En) (u : World) (v : Value) (h : EnsS u v (ensN P)) => contains_e e (ensN P) v u h (by rw [ensN_length]; have := (open_fine hopen).1; omega)
 have hins := fun (e : En) (u : World) (hu : Grow w_ u) => insert_any P iv e u (hin.fits hu)
 have hpo : ∀ (x : Ending) (w' : World), LayN P item w_ x w' ↔ (∃ jv, x = .returned (.tuple #[pgV (layN P item).1 jv, enV (layN P item).2.1, .int .i64 (layN P item).2.2]) /\ ItemsC w' jv (layN P item).1.items /\ Below w_.heap.size w_ w') := fun _ _ => Iff.rfl
 have hek : entriesOk P = true := by unfold entriesOk; rw [hopen, decide_eq_true hlv]; rfl
 have hy : layN P item = if (decN item).2 ≠ 0 then (zeroP, leastE, (decN item).2) else if (decN item).1 ∈ ensN P then (zeroP, (decN item).1, 150) else ((insN P (decN item).1).1, (decN item).1, (insN P (decN item).1).2) := by unfold layN; rw [hopen, if_pos rfl, if_pos hlv]
 unfold ChkPost at hck;rw [hopen] at hck;unfold EntPost at hen;rw [hek] at hen;simp only [if_true] at hen hck;unfold PgPost at hins;have hco2 := hco (decN item).1;have hins2 := hins (decN item).1;clear hco hins;generalize layN P item = Y at *;generalize decN item = D at *;obtain ⟨e, dc⟩ := D;dsimp only at hdc hco2 hins2 hy;generalize insN P e = I at *;generalize ensN P = L at *;obtain ⟨Q, qc⟩ := I;obtain ⟨k, p, s⟩ := e;dsimp only at hins2 hy;unfold pgV at hck hen hins2;unfold enV at hdc hco2 hins2;dsimp only at hdc hco2 hins2;obtain ⟨w0, hw0⟩ : ∃ w0, w0 = ((w_.alloc (.cells (pgCells P iv).toArray 28)).alloc (.cells #[.int .i64 0, .int .i64 0, .int .i64 0, .int .i64 0, .string ⟨#[]⟩, .slice none 0 0] 28)).alloc (.cells #[.string ⟨#[]⟩, .int .i64 0, .int .i64 0] 103) := ⟨_, rfl⟩;obtain ⟨hg0, hP0, hR0, hE0⟩ := ppe_new P iv w_ w0 hw0;have HCk := keep hck;have HEn := keep hen;have HDc := keep hdc;have HCo := keep hco2;have HIns := keep hins2;have HPo := keep hpo;have HY := keep hy;have HP0 := keep hP0;have HR0 := keep hR0;have HE0 := keep hE0;have HG0 := keep hg0;have HLv := keep hlv;have hz0 := hE0.lt;clear hck hen hdc hco2 hins2 hpo hR0 hE0 hg0 hlv hin hopen hek hy;unfold pgCells at hw0 hP0;obtain ⟨p0, p1, p2, p3, p4, p5, _⟩ := pgres hP0;clear hP0;unfold pgV;go_enter Tryz.func96, Tryz.ntmps96;go_upto_region 1 with fail;rw [<- hw0];clear hw0;go_wp2_with fail;refine (HCk.out w0 HG0.out).mono ?_;rintro x w1 ⟨rfl, hb1⟩;have HG1 := keep hb1;have hP1 := HP0.out.fits hb1
 clear p0 p1 p2 p3 p4 p5 hb1 HCk;unfold pgCells at hP1;obtain ⟨p0, p1, p2, p3, p4, p5, _⟩ := pgres hP1;have hl1 : w_.heap.size < w1.heap.size := hP1.lt;clear hP1;have hlv := HLv.out;go_upto_region 7 with fail;clear hlv p0 p1 p2 p3 p4 p5;obtain ⟨w2, hw2⟩ : ∃ w2, w2 = (w1.alloc (.cells #[.int .i64 0, .int .i64 0, .int .i64 0, .int .i64 0, .string ⟨#[]⟩, .slice none 0 0] 28)).alloc (.cells #[.string ⟨#[]⟩, .int .i64 0, .int .i64 0] 103) := ⟨_, rfl⟩;have hg2 : Grow w1 w2 := by subst hw2; exact ((Grow.refl _).alloc _).alloc _
 have hQ2 : Blk w2 w1.heap.size 28 [.int .i64 0, .int .i64 0, .int .i64 0, .int .i64 0, .string ⟨#[]⟩, .slice none 0 0] := by
  have := (Blk.new w1 28 [.int .i64 0, .int .i64 0, .int .i64 0, .int .i64 0, .string ⟨#[]⟩, .slice none 0 0]).alloc (.cells #[.string ⟨#[]⟩, .int .i64 0, .int .i64 0] 103);subst hw2; exact this
 have hX2 : Blk w2 (w1.heap.size + 1) 103 [.string ⟨#[]⟩, .int .i64 0, .int .i64 0] := by
  have := Blk.new (w1.alloc (.cells #[.int .i64 0, .int .i64 0, .int .i64 0, .int .i64 0, .string ⟨#[]⟩, .slice none 0 0] 28)) 103 [.string ⟨#[]⟩, .int .i64 0, .int .i64 0];have e : (w1.alloc (.cells #[.int .i64 0, .int .i64 0, .int .i64 0, .int .i64 0, .string ⟨#[]⟩, .slice none 0 0] 28)).heap.size = w1.heap.size + 1 := by simp
  rw [e] at this;subst hw2; exact this
 rw [<- hw2];have HQ2 := keep hQ2;have HX2 := keep hX2;have HG2 := keep (Grow.trans HG1.out hg2);have hz2 := hX2.lt;have HZ1 := keep (show w0.heap.size <= w1.heap.size from HG1.out.size);clear hw2 hg2 hQ2 hX2;go_wp2_with fail;refine (HDc.out w2).mono ?_;rintro x w3 ⟨rfl, hb3⟩;have hX3 := HX2.out.fits hb3;have HQ3 := keep (HQ2.out.fits hb3);have HG3 := keep (Grow.trans HG2.out hb3);have HX3 := keep hX3;clear hb3 hX3 HDc HQ2 HX2;go_upto_region 8 with ((refine wpList_store_en rfl _ _ rfl (w1.heap.size + 1) _ rfl rfl HX3.out rfl rfl rfl ?_); intro w4 hset4 hbut4; have HX4 := keep hset4; have HB4 := keep hbut4; clear hset4 hbut4);have HQ4 := keep (HQ3.out.but HB4.out (by omega));have HG4 := keep (show Below w0.heap.size w0 w4 from But.below HG3.out HB4.out (by have := HZ1.out; omega) HG3.out.size);clear HQ3 HX3 HB4
 by_cases hdz : dc = 0
 ·have hy := HY.out;rw [if_neg (fun h => h hdz)] at hy;have HY2 := keep hy;have hP4 := HP0.out.fits HG4.out;unfold pgCells at hP4;subst hdz;clear HY hy;obtain ⟨p0, p1, p2, p3, p4, p5, _⟩ := pgres hP4;clear hP4;go_wp2_with fail;refine (HEn.out w4 (Grow.trans HG0.out HG4.out)).mono ?_;rintro x w5 ⟨⟨a, c, rfl, hes⟩, hb5⟩;have HX5 := keep (HX4.out.fits hb5);have HQ5 := keep (HQ4.out.fits hb5);have HG5 := keep (Grow.trans HG4.out hb5);have HEs := keep hes;clear p0 p1 p2 p3 p4 p5 hb5 hes HEn HX4 HQ4;obtain ⟨c0, c1, c2, _⟩ := enres HX5.out;go_wp2_with fail;refine (HCo.out w5 _ HEs.out).mono ?_;rintro x w6 ⟨rfl, hb6⟩;have HX6 := keep (HX5.out.fits hb6);have HQ6 := keep (HQ5.out.fits hb6);have HG6 := keep (Grow.trans HG5.out hb6);clear c0 c1 c2 hb6 HX5 HQ5 HCo;obtain ⟨c0, c1, c2, _⟩ := enres HX6.out
  by_cases hm : (k, p, s) ∈ L
  ·have hy := HY2.out;rw [if_pos hm] at hy;have HY := keep hy;rw [decide_eq_true hm];clear hm hy HY2;go_upto_region 12 with fail;have hR8 := HR0.out.fits HG6.out;have hE8 := HE0.out.fits HG6.out;obtain ⟨r0, r1, r2, r3, r4, r5, f0, f1, f2, f3, f4, f5⟩ := pgres hR8;obtain ⟨e0, e1, e2, g0, g1, g2⟩ := enres hE8;have Hset := keep (pgset hR8 (.int .i64 0) (.int .i64 0) (.int .i64 0) (.int .i64 0) (.string ⟨#[]⟩) (.slice none 0 0));have Hbut := keep (pgbut w6 (w_.heap.size + 1) (.int .i64 0) (.int .i64 0) (.int .i64 0) (.int .i64 0) (.string ⟨#[]⟩) (.slice none 0 0));have hz8 := (HG6.out).size;have hz1 := HZ1.out;have n1 : ¬ w_.heap.size + 1 = w1.heap.size := by omega
   have n2 : ¬ w_.heap.size + 1 = w1.heap.size + 1 := by omega
   have n3 : ¬ w_.heap.size + 2 = w1.heap.size := by omega
   have n4 : ¬ w_.heap.size + 2 = w1.heap.size + 1 := by omega
   have n5 : ¬ w1.heap.size = w_.heap.size + 1 := by omega
   have n6 : ¬ w1.heap.size + 1 = w_.heap.size + 1 := by omega
   have n7 : ¬ w1.heap.size = w_.heap.size + 2 := by omega
   have n8 : ¬ w1.heap.size + 1 = w_.heap.size + 2 := by omega
   have HE9 := keep (hE8.but Hbut.out (by omega));have Hset2 := keep (enset HE9.out (.string (str k)) (.int .i64 p) (.int .i64 s));have Hbut2 := keep (enbut _ (w_.heap.size + 2) (.string (str k)) (.int .i64 p) (.int .i64 s) : But (w_.heap.size + 2) ((((((w6.setCell ⟨w_.heap.size + 1, 0, none⟩ (.int .i64 0)).setCell ⟨w_.heap.size + 1, 1, none⟩ (.int .i64 0)).setCell ⟨w_.heap.size + 1, 2, none⟩ (.int .i64 0)).setCell ⟨w_.heap.size + 1, 3, none⟩ (.int .i64 0)).setCell ⟨w_.heap.size + 1, 4, none⟩ (.string ⟨#[]⟩)).setCell ⟨w_.heap.size + 1, 5, none⟩ (.slice none 0 0)) _);have HR9 := keep (Hset.out.but Hbut2.out (by omega));have hga := But.below (Grow.trans HG0.out HG6.out) Hbut.out (show w_.heap.size <= w_.heap.size + 1 by omega) (show w_.heap.size <= w6.heap.size by omega);have HGa := keep (But.below hga Hbut2.out (show w_.heap.size <= w_.heap.size + 2 by omega) (by simp; omega));clear hR8 hE8 hga;go_region
   all_goals go_wp2_with fail
   all_goals refine bodyPost_ret (v := .tuple #[pgV zeroP (.slice none 0 0), enV (k, p, s), .int .i64 150]) ?_ rfl ((HPo.out _ _).2 ⟨.slice none 0 0, by rw [HY.out], by rw [HY.out]; exact ItemsC.nil _, Below.drew HGa.out⟩)
   all_goals
    obtain ⟨s0, s1, s2, s3, s4, s5, _⟩ := pgres (Blk.drew HR9.out);have hx9 := Blk.drew Hset2.out;obtain ⟨t0, t1, t2, _⟩ := enres (show Blk _ (w_.heap.size + 1 + 1) _ _ from hx9);simp [results, Tryz.results96, go_sem, s0, s1, s2, s3, s4, s5, t0, t1, t2, pgV, enV, zeroP]
    try rfl
  ·have hy := HY2.out;rw [if_neg hm] at hy;have HY := keep hy;rw [decide_eq_false hm];have hP6 := HP0.out.fits HG6.out;unfold pgCells at hP6;obtain ⟨p0, p1, p2, p3, p4, p5, _⟩ := pgres hP6;clear hm hy HY2 hP6;go_wp2_with fail;refine (HIns.out w6 (Grow.trans HG0.out HG6.out)).mono ?_;rintro x w7 ⟨jv, rfl, hit, hb7⟩;have HX7 := keep (HX6.out.fits hb7);have HQ7 := keep (HQ6.out.fits hb7);have HG7 := keep (Grow.trans HG6.out hb7);obtain ⟨ja, jc, rfl⟩ := itemsS_form hit.1;have HIt7 := keep hit;clear p0 p1 p2 p3 p4 p5 c0 c1 c2 hb7 hit HX6 HQ6 HIns;go_upto_region 22 with ((refine wpList_store_pg rfl _ _ rfl w1.heap.size _ rfl rfl HQ7.out rfl rfl rfl ?_); intro w8 hset8 hbut8; have HQ8 := keep hset8; have HB8 := keep hbut8; clear hset8 hbut8);have HX8 := keep (HX7.out.but HB8.out (by omega));have HG8 := keep (show Below w0.heap.size w0 w8 from But.below HG7.out HB8.out (by have := HZ1.out; omega) HG7.out.size);have HIt8 := keep (itemsC_but HIt7.out HB8.out HQ7.out (by decide));obtain ⟨q0, q1, q2, q3, q4, q5, _⟩ := pgres HQ8.out;obtain ⟨c0, c1, c2, _⟩ := enres HX8.out;have hR8 := HR0.out.fits HG8.out;have hE8 := HE0.out.fits HG8.out;obtain ⟨r0, r1, r2, r3, r4, r5, f0, f1, f2, f3, f4, f5⟩ := pgres hR8;obtain ⟨e0, e1, e2, g0, g1, g2⟩ := enres hE8;have Hset := keep (pgset hR8 (.int .i64 Q.lsn) (.int .i64 Q.kind) (.int .i64 Q.level) (.int .i64 Q.right) (.string (str Q.high)) (.slice ja Q.items.length jc))
   have Hbut := keep (pgbut w8 (w_.heap.size + 1) (.int .i64 Q.lsn) (.int .i64 Q.kind) (.int .i64 Q.level) (.int .i64 Q.right) (.string (str Q.high)) (.slice ja Q.items.length jc));have hz8 := (HG8.out).size;have hz1 := HZ1.out;have n1 : ¬ w_.heap.size + 1 = w1.heap.size := by omega
   have n2 : ¬ w_.heap.size + 1 = w1.heap.size + 1 := by omega
   have n3 : ¬ w_.heap.size + 2 = w1.heap.size := by omega
   have n4 : ¬ w_.heap.size + 2 = w1.heap.size + 1 := by omega
   have n5 : ¬ w1.heap.size = w_.heap.size + 1 := by omega
   have n6 : ¬ w1.heap.size + 1 = w_.heap.size + 1 := by omega
   have n7 : ¬ w1.heap.size = w_.heap.size + 2 := by omega
   have n8 : ¬ w1.heap.size + 1 = w_.heap.size + 2 := by omega
   have HE9 := keep (hE8.but Hbut.out (by omega));have Hset2 := keep (enset HE9.out (.string (str k)) (.int .i64 p) (.int .i64 s));have Hbut2 := keep (enbut _ (w_.heap.size + 2) (.string (str k)) (.int .i64 p) (.int .i64 s) : But (w_.heap.size + 2) ((((((w8.setCell ⟨w_.heap.size + 1, 0, none⟩ (.int .i64 Q.lsn)).setCell ⟨w_.heap.size + 1, 1, none⟩ (.int .i64 Q.kind)).setCell ⟨w_.heap.size + 1, 2, none⟩ (.int .i64 Q.level)).setCell ⟨w_.heap.size + 1, 3, none⟩ (.int .i64 Q.right)).setCell ⟨w_.heap.size + 1, 4, none⟩ (.string (str Q.high))).setCell ⟨w_.heap.size + 1, 5, none⟩ (.slice ja Q.items.length jc)) _);have HR9 := keep (Hset.out.but Hbut2.out (by omega));have HIt9 := keep (itemsC_but (itemsC_but HIt8.out Hbut.out hR8 (by decide)) Hbut2.out HE9.out (by decide));have hga := But.below (Grow.trans HG0.out HG8.out) Hbut.out (show w_.heap.size <= w_.heap.size + 1 by omega) (show w_.heap.size <= w8.heap.size by omega);have HGa := keep (But.below hga Hbut2.out (show w_.heap.size <= w_.heap.size + 2 by omega) (by simp; omega));clear hR8 hE8 hga;go_region
   all_goals go_wp2_with fail
   all_goals refine bodyPost_ret (v := .tuple #[pgV Q (.slice ja Q.items.length jc), enV (k, p, s), .int .i64 qc]) ?_ rfl ((HPo.out _ _).2 ⟨.slice ja Q.items.length jc, by rw [HY.out], by rw [HY.out]; exact HIt9.out.fits (Below.drew (Grow.refl _)), Below.drew HGa.out⟩)
   all_goals
    obtain ⟨s0, s1, s2, s3, s4, s5, _⟩ := pgres (Blk.drew HR9.out);have hx9 := Blk.drew Hset2.out;obtain ⟨t0, t1, t2, _⟩ := enres (show Blk _ (w_.heap.size + 1 + 1) _ _ from hx9);simp [results, Tryz.results96, go_sem, s0, s1, s2, s3, s4, s5, t0, t1, t2, pgV, enV]
    try rfl
 ·have hy := HY.out;rw [if_pos hdz] at hy;have HY2 := keep hy;clear HY hy;have HRz := keep (HR0.out.fits HG4.out);have HEz := keep (HE0.out.fits HG4.out);have Hgz := keep (Grow.trans HG0.out HG4.out);have hzz := HEz.out.lt;go_wp2_with (first | ((refine wpList_store_pg rfl _ _ rfl (w_.heap.size + 1) _ rfl rfl HRz.out rfl rfl rfl ?_); intro wy hsety hbuty; have Hsety := keep hsety; have Hbuty := keep hbuty; have HEy := keep (HEz.out.but hbuty (by omega)); clear hsety hbuty) | ((refine wpList_store_en rfl _ _ rfl (w_.heap.size + 2) _ rfl rfl HEy.out rfl rfl rfl ?_); intro wx hsetx hbutx; have Hsetx := keep hsetx; have Hbutx := keep hbutx; clear hsetx hbutx))
  have hga := But.below Hgz.out Hbuty.out (show w_.heap.size <= w_.heap.size + 1 by omega) Hgz.out.size;have hgb := But.below hga Hbutx.out (show w_.heap.size <= w_.heap.size + 2 by omega) hga.size;have HRx := Hsety.out.but Hbutx.out (by omega);refine bodyPost_ret (v := .tuple #[pgV zeroP (.slice none 0 0), enV leastE, .int .i64 dc]) ?_ rfl ?_
  ·obtain ⟨s0, s1, s2, s3, s4, s5, _⟩ := pgres HRx;obtain ⟨t0, t1, t2, _⟩ := enres (show Blk _ (w_.heap.size + 1 + 1) _ _ from Hsetx.out);simp [results, Tryz.results96, go_sem, s0, s1, s2, s3, s4, s5, t0, t1, t2, pgV, enV, zeroP, leastE]
   try rfl
  ·exact (HPo.out _ _).2 ⟨_, by rw [HY2.out], by rw [HY2.out]; exact ItemsC.nil _, hgb⟩
end Go.Proofs.YtcdapdcablnhpaaGreat
namespace Go.Proofs.YtcdapdcablnhpaaGreat
open Go.RowKit
attribute [local go_sem] givesV lookV knAt hgs
theorem ens_tail {w : World} {a : Option Addr} {c : Nat} {L : List En} (h : EnsS w (.slice a L.length c) L) (hc : L.length <= c) (hl : 1 <= L.length) :
  EnsS w (.slice (if c = 1 then a else a.map fun x => x.add 3) (L.length - 1) (c - 1)) (L.drop 1) := by
 have e1 : (L.drop 1).length = L.length - 1 := List.length_drop;unfold EnsS at h ⊢;rcases h with ⟨h1, _⟩ | ⟨c', off, cap, blk, f, h1, h2, h3⟩
 ·omega
 ·simp only [Value.slice.injEq] at h1;obtain ⟨rfl, _, rfl⟩ := h1
  by_cases h0 : L.length = 1
  ·exact .inl ⟨by omega, by rw [List.drop_eq_nil_of_le (by omega)]; rfl, _, _, by rw [h0]⟩
  ·refine .inr ⟨c', off + 3, c - 1, blk, f, ?_, h2, fun j hj => ?_⟩
   ·rw [if_neg (by omega), e1]; rfl
   ·rw [eCells_length, e1] at hj;rw [Nat.add_assoc, h3 (3 + j) (by rw [eCells_length]; omega)];obtain ⟨x, L', rfl⟩ : ∃ x L', L = x :: L' := by cases L with
     | nil => simp at hl
     | cons x L' => exact ⟨x, L', rfl⟩
    rw [List.drop_one, List.tail_cons, eCells, List.flatMap_cons, <- eCells, List.getElem?_append_right (by simp [enC])]
    congr 1
    simp [enC]
set_option maxRecDepth 100000 in
set_option maxHeartbeats 4000000 in
theorem lay_inner (P : Pg) (iv : Value) (item : List UInt8) (w_ : World) (hin : PgIn w_ iv P) (hs : (item.length : Int) <= 140737488355328) (hopen : openOk P = true) (hlv : P.level ≠ 0) :
  Calls Tryz.prog 96 #[pgV P iv, .string (str item)] w_ (LayN P item w_) := by
 have hck := fun (u : World) (hu : Grow w_ u) => check_node P iv u (hin.fits hu)
 have hen := fun (u : World) (hu : Grow w_ u) => kids_cap P iv u (hin.fits hu)
 have hdc := fun (u : World) => unsep_any item u (by omega)
 have hco := fun (e : En) (u : World) (v : Value) (h : EnsS u v ((ensN P).drop 1)) => contains_e e ((ensN P).drop 1) v u h (by rw [List.length_drop, ensN_length]; have := (open_fine hopen).1; omega)
 have hins := fun (e : En) (c : Int) (u : World) (hu : Grow w_ u) => post_any P iv e c u (hin.fits hu)
 have hle : 1 <= (ensN P).length := by rw [ensN_length]; exact (first_least hopen hlv).1
 have hpo : ∀ (x : Ending) (w' : World), LayN P item w_ x w' ↔ (∃ jv, x = .returned (.tuple #[pgV (layN P item).1 jv, enV (layN P item).2.1, .int .i64 (layN P item).2.2]) /\ ItemsC w' jv (layN P item).1.items /\ Below w_.heap.size w_ w') := fun _ _ => Iff.rfl
 have hek : kidsOk P = true := by unfold kidsOk; rw [hopen, decide_eq_false hlv]; rfl
 have hlv2 : (P.level == 0) = false := by simp [hlv]
 have hy : layN P item = if (unsN item).2.2 ≠ 0 then (zeroP, leastE, (unsN item).2.2) else if (unsN item).1 ∈ (ensN P).drop 1 then (zeroP, (unsN item).1, 150) else ((postN P (unsN item).1 (unsN item).2.1).1, (unsN item).1, (postN P (unsN item).1 (unsN item).2.1).2) := by unfold layN; rw [hopen, if_pos rfl, if_neg hlv]
 unfold ChkPost at hck;rw [hopen] at hck;unfold KidsCap at hen;rw [hek] at hen;simp only [if_true] at hen hck;unfold PgPost at hins;have hco2 := hco (unsN item).1;have hins2 := hins (unsN item).1 (unsN item).2.1;clear hco hins;generalize layN P item = Y at *;generalize unsN item = D at *;obtain ⟨e, ch, dc⟩ := D;dsimp only at hdc hco2 hins2 hy;generalize postN P e ch = I at *;generalize ensN P = L at *;obtain ⟨Q, qc⟩ := I;obtain ⟨k, p, s⟩ := e;dsimp only at hins2 hy;unfold pgV at hck hen hins2;unfold enV at hdc hco2 hins2;dsimp only at hdc hco2 hins2;obtain ⟨w0, hw0⟩ : ∃ w0, w0 = ((w_.alloc (.cells (pgCells P iv).toArray 28)).alloc (.cells #[.int .i64 0, .int .i64 0, .int .i64 0, .int .i64 0, .string ⟨#[]⟩, .slice none 0 0] 28)).alloc (.cells #[.string ⟨#[]⟩, .int .i64 0, .int .i64 0] 103) := ⟨_, rfl⟩;obtain ⟨hg0, hP0, hR0, hE0⟩ := ppe_new P iv w_ w0 hw0;have HCk := keep hck;have HEn := keep hen;have HDc := keep hdc;have HCo := keep hco2;have HIns := keep hins2;have HPo := keep hpo;have HY := keep hy;have HP0 := keep hP0;have HR0 := keep hR0;have HE0 := keep hE0;have HG0 := keep hg0;have HLv := keep hlv2;have HLe := keep hle;have hz0 := hE0.lt;clear hck hen hdc hco2 hins2 hpo hR0 hE0 hg0 hlv hlv2 hle hin hopen hek hy;unfold pgCells at hw0 hP0;obtain ⟨p0, p1, p2, p3, p4, p5, _⟩ := pgres hP0;clear hP0;unfold pgV;go_enter Tryz.func96, Tryz.ntmps96;go_upto_region 1 with fail;rw [<- hw0];clear hw0;go_wp2_with fail;refine (HCk.out w0 HG0.out).mono ?_;rintro x w1 ⟨rfl, hb1⟩
 have HG1 := keep hb1;have hP1 := HP0.out.fits hb1;clear p0 p1 p2 p3 p4 p5 hb1 HCk;unfold pgCells at hP1;obtain ⟨p0, p1, p2, p3, p4, p5, _⟩ := pgres hP1;have hl1 : w_.heap.size < w1.heap.size := hP1.lt;clear hP1;have hlv := HLv.out;go_upto_region 15 with fail;clear hlv p0 p1 p2 p3 p4 p5;obtain ⟨w2, hw2⟩ : ∃ w2, w2 = (w1.alloc (.cells #[.int .i64 0, .int .i64 0, .int .i64 0, .int .i64 0, .string ⟨#[]⟩, .slice none 0 0] 28)).alloc (.cells #[.string ⟨#[]⟩, .int .i64 0, .int .i64 0] 103) := ⟨_, rfl⟩;have hg2 : Grow w1 w2 := by subst hw2; exact ((Grow.refl _).alloc _).alloc _
 have hQ2 : Blk w2 w1.heap.size 28 [.int .i64 0, .int .i64 0, .int .i64 0, .int .i64 0, .string ⟨#[]⟩, .slice none 0 0] := by
  have := (Blk.new w1 28 [.int .i64 0, .int .i64 0, .int .i64 0, .int .i64 0, .string ⟨#[]⟩, .slice none 0 0]).alloc (.cells #[.string ⟨#[]⟩, .int .i64 0, .int .i64 0] 103);subst hw2; exact this
 have hX2 : Blk w2 (w1.heap.size + 1) 103 [.string ⟨#[]⟩, .int .i64 0, .int .i64 0] := by
  have := Blk.new (w1.alloc (.cells #[.int .i64 0, .int .i64 0, .int .i64 0, .int .i64 0, .string ⟨#[]⟩, .slice none 0 0] 28)) 103 [.string ⟨#[]⟩, .int .i64 0, .int .i64 0];have e : (w1.alloc (.cells #[.int .i64 0, .int .i64 0, .int .i64 0, .int .i64 0, .string ⟨#[]⟩, .slice none 0 0] 28)).heap.size = w1.heap.size + 1 := by simp
  rw [e] at this;subst hw2; exact this
 rw [<- hw2];have HQ2 := keep hQ2;have HX2 := keep hX2;have HG2 := keep (Grow.trans HG1.out hg2);have hz2 := hX2.lt;have HZ1 := keep (show w0.heap.size <= w1.heap.size from HG1.out.size);clear hw2 hg2 hQ2 hX2;go_wp2_with fail;refine (HDc.out w2).mono ?_;rintro x w3 ⟨rfl, hb3⟩;have hX3 := HX2.out.fits hb3;have HQ3 := keep (HQ2.out.fits hb3);have HG3 := keep (Grow.trans HG2.out hb3);have HX3 := keep hX3;clear hb3 hX3 HDc HQ2 HX2;go_upto_region 16 with ((refine wpList_store_en rfl _ _ rfl (w1.heap.size + 1) _ rfl rfl HX3.out rfl rfl rfl ?_); intro w4 hset4 hbut4; have HX4 := keep hset4; have HB4 := keep hbut4; clear hset4 hbut4);have HQ4 := keep (HQ3.out.but HB4.out (by omega));have HG4 := keep (show Below w0.heap.size w0 w4 from But.below HG3.out HB4.out (by have := HZ1.out; omega) HG3.out.size);clear HQ3 HX3 HB4
 by_cases hdz : dc = 0
 ·have hy := HY.out;rw [if_neg (fun h => h hdz)] at hy;have HY2 := keep hy;have hP4 := HP0.out.fits HG4.out;unfold pgCells at hP4;subst hdz;clear HY hy;obtain ⟨p0, p1, p2, p3, p4, p5, _⟩ := pgres hP4;clear hP4;go_wp2_with fail;refine (HEn.out w4 (Grow.trans HG0.out HG4.out)).mono ?_;rintro x w5 ⟨⟨a, c, a2, c2, rfl, hcap, hes, _⟩, hb5⟩;have HX5 := keep (HX4.out.fits hb5);have HQ5 := keep (HQ4.out.fits hb5);have HG5 := keep (Grow.trans HG4.out hb5);have HEs := keep (ens_tail hes hcap HLe.out);have HCp := keep hcap;clear p0 p1 p2 p3 p4 p5 hb5 hes hcap HEn HX4 HQ4;have HXr := keep (fun (u : World) (hu : Grow w5.drew u) => enres (Blk.fits (show Blk w5.drew _ _ _ from HX5.out) hu));go_upto_region 19 with fail;refine rgv 3 (by kernel_rfl) (by kernel_rfl) rfl rfl ?_;intro a0 ha0;have hsz : a0.tmps.size = 83 := (size_at ha0).trans rfl;have s8 := slot_at ha0 8 rfl;have s13 := slot_at ha0 13 rfl;have HA0 := keep ha0;clear ha0;apply lxv hsz Grow.refl (by kernel_rfl) rfl
  ·intro xs w hw K hK;go_simp;exact hK
  refine lxs hsz (fun v u => EnsS u v (L.drop 1)) (fun _ _ _ g h => RowS.fits h g) [] (by kernel_rfl) rfl ?_ ?_
  ·intro xs w hw hp K hK;have q1 : (1 : Int) <= (L.length : Int) := by have := HLe.out; omega
   go_simp;exact hK _ _ (RowS.fits HEs.out (Grow.undrew hw)) (Grow.refl _)
  apply lxv hsz Grow.refl (by kernel_rfl) rfl
  ·intro xs w hw K hK;obtain ⟨c0, c1, c2, _⟩ := HXr.out w hw;go_simp;exact hK
  refine rgd [(1, true)] (by kernel_rfl) rfl ?_;intro xs w hw hp;have ha0 := HA0.out;clear HA0 hsz s8 s13;simp only [hzv] at hp;have h68 := hp;clear hp;subst ha0;simp only [putV];have hgw := hw.undrew;have HEsb := keep h68;clear hw h68;have HX5b := keep (HX5.out.fits hgw);have HQ5b := keep (HQ5.out.fits hgw);have HG5b := keep (Grow.trans HG5.out hgw);clear hgw;go_wp2_with fail;refine (HCo.out w _ HEsb.out).mono ?_;rintro x w6 ⟨rfl, hb6⟩;have HX6 := keep (HX5b.out.fits hb6);have HQ6 := keep (HQ5b.out.fits hb6);have HG6 := keep (Grow.trans HG5b.out hb6);clear hb6 HX5 HQ5 HX5b HQ5b HCo HXr;obtain ⟨c0, c1, c2, _⟩ := enres HX6.out
  by_cases hm : (k, p, s) ∈ L.drop 1
  ·have hy := HY2.out;rw [if_pos hm] at hy;have HY := keep hy;rw [decide_eq_true hm];clear hm hy HY2;go_upto_region 20 with fail;have hR8 := HR0.out.fits HG6.out;have hE8 := HE0.out.fits HG6.out;obtain ⟨r0, r1, r2, r3, r4, r5, f0, f1, f2, f3, f4, f5⟩ := pgres hR8;obtain ⟨e0, e1, e2, g0, g1, g2⟩ := enres hE8;have Hset := keep (pgset hR8 (.int .i64 0) (.int .i64 0) (.int .i64 0) (.int .i64 0) (.string ⟨#[]⟩) (.slice none 0 0));have Hbut := keep (pgbut w6 (w_.heap.size + 1) (.int .i64 0) (.int .i64 0) (.int .i64 0) (.int .i64 0) (.string ⟨#[]⟩) (.slice none 0 0));have hz8 := (HG6.out).size;have hz1 := HZ1.out;have n1 : ¬ w_.heap.size + 1 = w1.heap.size := by omega
   have n2 : ¬ w_.heap.size + 1 = w1.heap.size + 1 := by omega
   have n3 : ¬ w_.heap.size + 2 = w1.heap.size := by omega
   have n4 : ¬ w_.heap.size + 2 = w1.heap.size + 1 := by omega
   have n5 : ¬ w1.heap.size = w_.heap.size + 1 := by omega
   have n6 : ¬ w1.heap.size + 1 = w_.heap.size + 1 := by omega
   have n7 : ¬ w1.heap.size = w_.heap.size + 2 := by omega
   have n8 : ¬ w1.heap.size + 1 = w_.heap.size + 2 := by omega
   have HE9 := keep (hE8.but Hbut.out (by omega));have Hset2 := keep (enset HE9.out (.string (str k)) (.int .i64 p) (.int .i64 s));have Hbut2 := keep (enbut _ (w_.heap.size + 2) (.string (str k)) (.int .i64 p) (.int .i64 s) : But (w_.heap.size + 2) ((((((w6.setCell ⟨w_.heap.size + 1, 0, none⟩ (.int .i64 0)).setCell ⟨w_.heap.size + 1, 1, none⟩ (.int .i64 0)).setCell ⟨w_.heap.size + 1, 2, none⟩ (.int .i64 0)).setCell ⟨w_.heap.size + 1, 3, none⟩ (.int .i64 0)).setCell ⟨w_.heap.size + 1, 4, none⟩ (.string ⟨#[]⟩)).setCell ⟨w_.heap.size + 1, 5, none⟩ (.slice none 0 0)) _);have HR9 := keep (Hset.out.but Hbut2.out (by omega));have hga := But.below (Grow.trans HG0.out HG6.out) Hbut.out (show w_.heap.size <= w_.heap.size + 1 by omega) (show w_.heap.size <= w6.heap.size by omega);have HGa := keep (But.below hga Hbut2.out (show w_.heap.size <= w_.heap.size + 2 by omega) (by simp; omega));clear hR8 hE8 hga;go_region
   all_goals go_wp2_with fail
   all_goals refine bodyPost_ret (v := .tuple #[pgV zeroP (.slice none 0 0), enV (k, p, s), .int .i64 150]) ?_ rfl ((HPo.out _ _).2 ⟨.slice none 0 0, by rw [HY.out], by rw [HY.out]; exact ItemsC.nil _, Below.drew HGa.out⟩)
   all_goals
    obtain ⟨s0, s1, s2, s3, s4, s5, _⟩ := pgres (Blk.drew HR9.out);have hx9 := Blk.drew Hset2.out;obtain ⟨t0, t1, t2, _⟩ := enres (show Blk _ (w_.heap.size + 1 + 1) _ _ from hx9);simp [results, Tryz.results96, go_sem, s0, s1, s2, s3, s4, s5, t0, t1, t2, pgV, enV, zeroP]
    try rfl
  ·have hy := HY2.out;rw [if_neg hm] at hy;have HY := keep hy;rw [decide_eq_false hm];have hP6 := HP0.out.fits HG6.out;unfold pgCells at hP6;obtain ⟨p0, p1, p2, p3, p4, p5, _⟩ := pgres hP6;clear hm hy HY2 hP6;go_wp2_with fail;refine (HIns.out w6 (Grow.trans HG0.out HG6.out)).mono ?_;rintro x w7 ⟨jv, rfl, hit, hb7⟩;have HX7 := keep (HX6.out.fits hb7);have HQ7 := keep (HQ6.out.fits hb7);have HG7 := keep (Grow.trans HG6.out hb7);obtain ⟨ja, jc, rfl⟩ := itemsS_form hit.1;have HIt7 := keep hit;clear p0 p1 p2 p3 p4 p5 c0 c1 c2 hb7 hit HX6 HQ6 HIns;go_upto_region 22 with ((refine wpList_store_pg rfl _ _ rfl w1.heap.size _ rfl rfl HQ7.out rfl rfl rfl ?_); intro w8 hset8 hbut8; have HQ8 := keep hset8; have HB8 := keep hbut8; clear hset8 hbut8);have HX8 := keep (HX7.out.but HB8.out (by omega));have HG8 := keep (show Below w0.heap.size w0 w8 from But.below HG7.out HB8.out (by have := HZ1.out; omega) HG7.out.size);have HIt8 := keep (itemsC_but HIt7.out HB8.out HQ7.out (by decide));obtain ⟨q0, q1, q2, q3, q4, q5, _⟩ := pgres HQ8.out;obtain ⟨c0, c1, c2, _⟩ := enres HX8.out;have hR8 := HR0.out.fits HG8.out;have hE8 := HE0.out.fits HG8.out;obtain ⟨r0, r1, r2, r3, r4, r5, f0, f1, f2, f3, f4, f5⟩ := pgres hR8;obtain ⟨e0, e1, e2, g0, g1, g2⟩ := enres hE8;have Hset := keep (pgset hR8 (.int .i64 Q.lsn) (.int .i64 Q.kind) (.int .i64 Q.level) (.int .i64 Q.right) (.string (str Q.high)) (.slice ja Q.items.length jc))
   have Hbut := keep (pgbut w8 (w_.heap.size + 1) (.int .i64 Q.lsn) (.int .i64 Q.kind) (.int .i64 Q.level) (.int .i64 Q.right) (.string (str Q.high)) (.slice ja Q.items.length jc));have hz8 := (HG8.out).size;have hz1 := HZ1.out;have n1 : ¬ w_.heap.size + 1 = w1.heap.size := by omega
   have n2 : ¬ w_.heap.size + 1 = w1.heap.size + 1 := by omega
   have n3 : ¬ w_.heap.size + 2 = w1.heap.size := by omega
   have n4 : ¬ w_.heap.size + 2 = w1.heap.size + 1 := by omega
   have n5 : ¬ w1.heap.size = w_.heap.size + 1 := by omega
   have n6 : ¬ w1.heap.size + 1 = w_.heap.size + 1 := by omega
   have n7 : ¬ w1.heap.size = w_.heap.size + 2 := by omega
   have n8 : ¬ w1.heap.size + 1 = w_.heap.size + 2 := by omega
   have HE9 := keep (hE8.but Hbut.out (by omega));have Hset2 := keep (enset HE9.out (.string (str k)) (.int .i64 p) (.int .i64 s));have Hbut2 := keep (enbut _ (w_.heap.size + 2) (.string (str k)) (.int .i64 p) (.int .i64 s) : But (w_.heap.size + 2) ((((((w8.setCell ⟨w_.heap.size + 1, 0, none⟩ (.int .i64 Q.lsn)).setCell ⟨w_.heap.size + 1, 1, none⟩ (.int .i64 Q.kind)).setCell ⟨w_.heap.size + 1, 2, none⟩ (.int .i64 Q.level)).setCell ⟨w_.heap.size + 1, 3, none⟩ (.int .i64 Q.right)).setCell ⟨w_.heap.size + 1, 4, none⟩ (.string (str Q.high))).setCell ⟨w_.heap.size + 1, 5, none⟩ (.slice ja Q.items.length jc)) _);have HR9 := keep (Hset.out.but Hbut2.out (by omega));have HIt9 := keep (itemsC_but (itemsC_but HIt8.out Hbut.out hR8 (by decide)) Hbut2.out HE9.out (by decide));have hga := But.below (Grow.trans HG0.out HG8.out) Hbut.out (show w_.heap.size <= w_.heap.size + 1 by omega) (show w_.heap.size <= w8.heap.size by omega);have HGa := keep (But.below hga Hbut2.out (show w_.heap.size <= w_.heap.size + 2 by omega) (by simp; omega));clear hR8 hE8 hga;go_region
   all_goals go_wp2_with fail
   all_goals refine bodyPost_ret (v := .tuple #[pgV Q (.slice ja Q.items.length jc), enV (k, p, s), .int .i64 qc]) ?_ rfl ((HPo.out _ _).2 ⟨.slice ja Q.items.length jc, by rw [HY.out], by rw [HY.out]; exact HIt9.out.fits (Below.drew (Grow.refl _)), Below.drew HGa.out⟩)
   all_goals
    obtain ⟨s0, s1, s2, s3, s4, s5, _⟩ := pgres (Blk.drew HR9.out);have hx9 := Blk.drew Hset2.out;obtain ⟨t0, t1, t2, _⟩ := enres (show Blk _ (w_.heap.size + 1 + 1) _ _ from hx9);simp [results, Tryz.results96, go_sem, s0, s1, s2, s3, s4, s5, t0, t1, t2, pgV, enV]
    try rfl
 ·have hy := HY.out;rw [if_pos hdz] at hy;have HY2 := keep hy;clear HY hy;have HRz := keep (HR0.out.fits HG4.out);have HEz := keep (HE0.out.fits HG4.out);have Hgz := keep (Grow.trans HG0.out HG4.out);have hzz := HEz.out.lt;go_wp2_with (first | ((refine wpList_store_pg rfl _ _ rfl (w_.heap.size + 1) _ rfl rfl HRz.out rfl rfl rfl ?_); intro wy hsety hbuty; have Hsety := keep hsety; have Hbuty := keep hbuty; have HEy := keep (HEz.out.but hbuty (by omega)); clear hsety hbuty) | ((refine wpList_store_en rfl _ _ rfl (w_.heap.size + 2) _ rfl rfl HEy.out rfl rfl rfl ?_); intro wx hsetx hbutx; have Hsetx := keep hsetx; have Hbutx := keep hbutx; clear hsetx hbutx))
  have hga := But.below Hgz.out Hbuty.out (show w_.heap.size <= w_.heap.size + 1 by omega) Hgz.out.size;have hgb := But.below hga Hbutx.out (show w_.heap.size <= w_.heap.size + 2 by omega) hga.size;have HRx := Hsety.out.but Hbutx.out (by omega);refine bodyPost_ret (v := .tuple #[pgV zeroP (.slice none 0 0), enV leastE, .int .i64 dc]) ?_ rfl ?_
  ·obtain ⟨s0, s1, s2, s3, s4, s5, _⟩ := pgres HRx;obtain ⟨t0, t1, t2, _⟩ := enres (show Blk _ (w_.heap.size + 1 + 1) _ _ from Hsetx.out);simp [results, Tryz.results96, go_sem, s0, s1, s2, s3, s4, s5, t0, t1, t2, pgV, enV, zeroP, leastE]
   try rfl
  ·exact (HPo.out _ _).2 ⟨_, by rw [HY2.out], by rw [HY2.out]; exact ItemsC.nil _, hgb⟩
theorem lay_any (P : Pg) (iv : Value) (item : List UInt8) (w_ : World) (hin : PgIn w_ iv P) (hs : (item.length : Int) <= 140737488355328) :
  Calls Tryz.prog 96 #[pgV P iv, .string (str item)] w_ (LayN P item w_) := by
 cases ho : openOk P with
 | false => exact lay_shut P iv item w_ hin ho
 | true =>
  by_cases hl : P.level = 0
  ·exact lay_leaf P iv item w_ hin hs ho hl
  ·exact lay_inner P iv item w_ hin hs ho hl
end Go.Proofs.YtcdapdcablnhpaaGreat
namespace Go.Proofs.YtcdapdcablnhpaaGreat
open Go.RowKit
attribute [local go_sem] hgs
def needN (P : Pg) (n : Int) (item : List UInt8) : Int × Int := if (layN P item).2.2 ≠ 3 then (0, (layN P item).2.2) else if n = 1 then (2, 0) else (1, 0)
def NeedPost (P : Pg) (n : Int) (item : List UInt8) (w : World) (x : Ending) (w' : World) : Prop := x = .returned (.tuple #[.int .i64 (needN P n item).1, .int .i64 (needN P n item).2]) /\ Below w.heap.size w w'
set_option maxRecDepth 100000 in
set_option maxHeartbeats 2000000 in
theorem need_any (P : Pg) (iv : Value) (n : Int) (item : List UInt8) (w_ : World) (hin : PgIn w_ iv P) (hs : (item.length : Int) <= 140737488355328) :
  Calls Tryz.prog 51 #[pgV P iv, .int .i64 n, .string (str item)] w_ (NeedPost P n item w_) := by
 obtain ⟨w0, hw0⟩ : ∃ w0, w0 = w_.alloc (.cells (pgCells P iv).toArray 28) := ⟨_, rfl⟩;have hg0 : Grow w_ w0 := by subst hw0; exact (Grow.refl w_).alloc _
 have hP0 : Blk w0 w_.heap.size 28 (pgCells P iv) := by subst hw0; exact Blk.new w_ _ _
 have hla := lay_any P iv item w0 (hin.fits hg0) hs;have hpo : ∀ (x : Ending) (w' : World), NeedPost P n item w_ x w' ↔ (x = .returned (.tuple #[.int .i64 (if (layN P item).2.2 ≠ 3 then (0, (layN P item).2.2) else if n = 1 then (2, 0) else (1, 0) : Int × Int).1, .int .i64 (if (layN P item).2.2 ≠ 3 then (0, (layN P item).2.2) else if n = 1 then (2, 0) else (1, 0) : Int × Int).2]) /\ Below w_.heap.size w_ w') := fun _ _ => Iff.rfl
 unfold LayN LayPost at hla;generalize layN P item = Y at *;obtain ⟨Q, e, c⟩ := Y;obtain ⟨k, p, s⟩ := e;unfold pgV enV at hla;dsimp only at hla hpo;have HLa := keep hla;have HPo := keep hpo;have HG0 := keep hg0;clear hla hpo hin hg0;unfold pgCells at hw0 hP0;obtain ⟨p0, p1, p2, p3, p4, p5, _⟩ := pgres hP0;clear hP0;unfold pgV;go_enter Tryz.func51, Tryz.ntmps51;go_upto_region 1 with fail;rw [<- hw0];clear hw0;go_wp2_with fail;refine HLa.out.mono ?_;rintro x w1 ⟨jv, rfl, hit, hb1⟩;obtain ⟨ja, jc, rfl⟩ := itemsS_form hit.1;clear p0 p1 p2 p3 p4 p5 hit;have HG1 := keep (Grow.trans HG0.out hb1);clear hb1;go_upto_region 2 with fail;obtain ⟨w2, hw2⟩ : ∃ w2, w2 = (w1.alloc (.cells #[.int .i64 Q.lsn, .int .i64 Q.kind, .int .i64 Q.level, .int .i64 Q.right, .string (str Q.high), .slice ja Q.items.length jc] 28)).alloc (.cells #[.string (str k), .int .i64 p, .int .i64 s] 103) := ⟨_, rfl⟩;have HG2 := keep (show Grow w_ w2 by subst hw2; exact (HG1.out.alloc _).alloc _);rw [<- hw2];clear hw2
 by_cases hc : c = 3
 ·have hc2 : (c != 3) = false := by simp [hc]
  by_cases hn : n = 1
  ·have hn2 : (n == 1) = true := by simp [hn]
   have HC := keep hc;have HN := keep hn;clear hc hn;go_wp2_with fail;go_ret2;exact (HPo.out _ _).2 ⟨by rw [if_neg (fun h => h HC.out), if_pos HN.out]; rfl, HG2.out⟩
  ·have hn2 : (n == 1) = false := by simp [hn]
   have HC := keep hc;have HN := keep hn;clear hc hn;go_wp2_with fail;go_ret2;exact (HPo.out _ _).2 ⟨by rw [if_neg (fun h => h HC.out), if_neg HN.out]; rfl, HG2.out⟩
 ·have hc2 : (c != 3) = true := by simp [hc]
  have HC := keep hc;clear hc;go_wp2_with fail;go_ret2;exact (HPo.out _ _).2 ⟨by rw [if_pos HC.out]; rfl, HG2.out⟩
theorem apart1_any (n : Int) (w_ : World) : Calls Tryz.prog 225 #[.int .i64 n] w_ fun x w' => x = .returned (.bool (decide (n <= 1))) /\ Below w_.heap.size w_ w' := by
 go_enter Tryz.func225, Tryz.ntmps225;go_wp2_with fail;go_ret;exact ⟨by simp, Grow.refl _⟩
def allNew (l : List Int) : Bool := l.all fun n => decide (2 <= n)
set_option maxRecDepth 100000 in
set_option maxHeartbeats 2000000 in
theorem indexFunc_any (l : List Int) (v : Value) (w_ : World) (h : Ints w_ v l) (hl : (l.length : Int) <= 4611686018427387904) :
  Calls Tryz.prog 237 #[v, .func (.func 225) #[] #[]] w_ fun x w' => ∃ i : Int, x = .returned (.int .i64 i) /\ decide (0 <= i) = !allNew l /\ Below w_.heap.size w_ w' := by
 obtain ⟨ia, ic, rfl⟩ := row_slice h;have HI0 := keep h;have HC := keep (fun n u => apart1_any n u);clear h;go_enter Tryz.func237, Tryz.ntmps237;go_wp2_with fail;go_loopw [8] (fun i wr => ∃ n : Nat, n <= l.length /\ i = .int .i64 n /\ Kept (∀ x ∈ l.take n, 2 <= x) /\ Kept (Grow w_ wr)) (fun i _ => l.length - (intOf i).toNat)
 case atStart => exact ⟨0, Nat.zero_le _, rfl, keep (by simp), keep (Grow.refl _)⟩
 case round =>
  obtain ⟨n, hn, rfl, HA, HG⟩ := hrel
  by_cases hlt : n < l.length
  ·obtain ⟨c1, off1, cap1, e1, hc1⟩ := ints_at HI0.out hlt;simp only [Value.slice.injEq] at e1;obtain ⟨rfl, x1, x2⟩ := e1;have d1 := hc1 wr HG.out;have hm : l[n] ∈ l := List.getElem_mem hlt;have ht : l.take (n + 1) = l.take n ++ [l[n]] := by rw [List.take_succ_eq_append_getElem hlt]
   generalize hle : l[n] = e at *;have HM := keep hm;have HT := keep ht;clear hc1 x1 x2 hle hm ht;go_wp2_with fail;refine (HC.out e wr).mono ?_;rintro x w1 ⟨rfl, hb⟩;have HG1 := keep (Grow.trans HG.out hb);clear hb d1
   by_cases he : e <= 1
   ·have he2 : decide (e <= 1) = true := decide_eq_true he;have HE := keep he;rw [he2];clear he he2;go_wp2_with fail;go_ret;refine ⟨(n : Int), rfl, ?_, HG1.out⟩;have : allNew l = false := by
     unfold allNew;rw [Bool.eq_false_iff];intro hall;have := List.all_eq_true.1 hall e HM.out;have h1 := HE.out;simp at this;omega
    rw [this];simp
   ·have he2 : decide (e <= 1) = false := decide_eq_false he;have HE := keep he;rw [he2];clear he he2;go_wp2_with fail;go_roundw
    case rel => exact ⟨n + 1, by omega, by go_num, keep (by
     rw [HT.out];intro x hx;rcases List.mem_append.1 hx with hx | hx
     ·exact HA.out x hx
     ·have h1 := HE.out;have : x = e := by simpa using hx
      omega), HG1⟩
    case measure => simp [intOf]; omega
  ·have e : n = l.length := by omega
   subst e;go_wp2_with fail;go_ret;refine ⟨-1, rfl, ?_, HG.out⟩;have h1 := HA.out;rw [List.take_length] at h1;have : allNew l = true := by
    unfold allNew;rw [List.all_eq_true];intro x hx;exact decide_eq_true (h1 x hx)
   rw [this]
   rfl
theorem containsFunc_any (l : List Int) (v : Value) (w_ : World) (h : Ints w_ v l) (hl : (l.length : Int) <= 4611686018427387904) :
  Calls Tryz.prog 224 #[v, .func (.func 225) #[] #[]] w_ fun x w' => x = .returned (.bool (!allNew l)) /\ Below w_.heap.size w_ w' := by
 have HI := keep (indexFunc_any l v w_ h hl);clear h;go_enter Tryz.func224, Tryz.ntmps224;go_wp2_with fail;refine HI.out.mono ?_;rintro x w1 ⟨i, rfl, hi, hb⟩;have HHi := keep hi;clear hi;go_wp2_with fail;go_ret;exact ⟨by rw [<- HHi.out]; rfl, hb⟩
def apartN (l : List Int) (k : Int) : Bool := (decide ((l.length : Int) = k) && allNew l) && (decide (k < 2) || decide (l.getD 0 0 ≠ l.getD 1 0))
set_option maxRecDepth 100000 in
set_option maxHeartbeats 2000000 in
theorem apart_any (l : List Int) (v : Value) (k : Int) (w_ : World) (h : Ints w_ v l) (hl : (l.length : Int) <= 4611686018427387904) :
  Calls Tryz.prog 203 #[v, .int .i64 k] w_ fun x w' => x = .returned (.bool (apartN l k)) /\ Below w_.heap.size w_ w' := by
 have HC := keep (fun u (hu : Grow w_ u) => containsFunc_any l v u (h.fits hu) hl);obtain ⟨ia, ic, rfl⟩ := row_slice h;have HI0 := keep h;clear h;go_enter Tryz.func203, Tryz.ntmps203
 by_cases hk : (l.length : Int) = k
 ·have hk2 : ((l.length : Int) != k) = false := by simp [hk]
  have HK := keep hk;clear hk;go_wp2_with fail;refine (HC.out w_ (Grow.refl _)).mono ?_;rintro x w1 ⟨rfl, hb⟩;have HG1 := keep hb;clear hb HC hk2;cases ha : allNew l with
  | false =>
   have HA := keep ha;clear ha;go_wp2_with fail;go_ret;exact ⟨by unfold apartN; rw [HA.out]; simp, HG1.out⟩
  | true =>
   have HA := keep ha;clear ha
   by_cases h2 : k < 2
   ·have HK2 := keep h2;have hd2 : decide (k < 2) = true := decide_eq_true h2;go_upto_region 3 with fail;go_quiet (fail);go_wp2_with fail;go_ret;refine ⟨?_, Grow.trans HG1.out (below_drewN (Grow.refl _) _)⟩;unfold apartN;rw [HA.out, decide_eq_true HK.out, decide_eq_true HK2.out];simp
   ·have HK2 := keep h2;have h0 : 0 < l.length := by have := HK.out; omega
    have h1 : 1 < l.length := by have := HK.out; omega
    obtain ⟨c1, off1, cap1, e1, hc1⟩ := ints_at HI0.out h0;obtain ⟨c2, off2, cap2, e2, hc2⟩ := ints_at HI0.out h1;simp only [Value.slice.injEq] at e1 e2;obtain ⟨rfl, x1, x2⟩ := e1;obtain ⟨x5, x3, x4⟩ := e2;simp only [Option.some.injEq, Addr.mk.injEq] at x5;obtain ⟨rfl, rfl, _⟩ := x5;have d1 := hc1 w1 HG1.out;have d2 := hc2 w1 HG1.out;rw [Nat.add_zero] at d1;have z0 : l.getD 0 0 = l[0] := by simp [List.getD, h0]
    have z1 : l.getD 1 0 = l[1] := by simp [List.getD, h1]
    have Z0 := keep z0;have Z1 := keep z1;generalize l[0] = y0 at *;generalize l[1] = y1 at *;clear hc1 hc2 x1 x2 x3 x4 z0 z1;have hd2 : decide (k < 2) = false := decide_eq_false h2;go_upto_region 3 with fail;go_quiet (fail);go_wp2_with fail;go_ret;refine ⟨?_, Grow.trans HG1.out (below_drewN (Grow.refl _) _)⟩;unfold apartN;rw [HA.out, decide_eq_true HK.out, decide_eq_false (show ¬ k < 2 by have := HK2.out; omega), Z0.out, Z1.out];simp [bne]
    rfl
 ·have hk2 : ((l.length : Int) != k) = true := by simp [hk]
  have HK := keep hk;clear hk;go_wp2_with fail;go_ret;exact ⟨by unfold apartN; rw [decide_eq_false HK.out]; simp, Grow.refl _⟩
abbrev Im := Int × Pg × Value
def imC (x : Im) : List Value := .int .i64 x.1 :: pgCells x.2.1 x.2.2
def imCells (T : List Im) : List Value := T.flatMap imC
theorem imC_length (x : Im) : (imC x).length = 7 := rfl
@[simp] theorem imCells_length (T : List Im) : (imCells T).length = 7 * T.length := by
 induction T with
 | nil => rfl
 | cons a l ih => rw [imCells, List.flatMap_cons, List.length_append, <- imCells, ih, imC_length]; simp; omega
theorem imCells_at (T : List Im) (i j : Nat) (h : i < T.length) (hj : j < 7) : (imCells T)[7 * i + j]? = (imC T[i])[j]? := by
 induction T generalizing i with
 | nil => simp at h
 | cons a l ih =>
  rw [imCells, List.flatMap_cons, <- imCells];cases i with
  | zero =>
   rw [List.getElem?_append_left (by rw [imC_length]; omega)];simp
  | succ i =>
   rw [List.getElem?_append_right (by rw [imC_length]; omega)];rw [show 7 * (i + 1) + j - (imC a).length = 7 * i + j by rw [imC_length]; omega, ih i (by simpa using h)];simp
def imFine (P : Pg) : Prop := (P.items.length : Int) <= 140737488355328 /\ (P.high.length : Int) <= 140737488355328
def ImgsW (w : World) (v : Value) (T : List Im) : Prop := Row w 132 v T.length (imCells T) /\ ∀ x ∈ T, Items w x.2.2 x.2.1.items /\ imFine x.2.1
theorem ImgsW.fits {w w' : World} {v : Value} {T : List Im} (h : ImgsW w v T) (g : Grow w w') : ImgsW w' v T := ⟨h.1.fits g, fun x hx => ⟨Row.fits (h.2 x hx).1 g, (h.2 x hx).2⟩⟩
theorem ImgsW.nil (w : World) : ImgsW w (.slice none 0 0) [] := ⟨Row.nil _ _ _ _, by simp⟩
theorem im_at {w : World} {v : Value} {T : List Im} (h : ImgsW w v T) {k : Nat} (hk : k < T.length) :
  ∃ c off cap, v = .slice (some ⟨c, off, none⟩) T.length cap /\ ∀ u, Grow w u ->
   u.cell? ⟨c, off + k * 7, none⟩ = some (.int .i64 T[k].1) /\ u.cell? ⟨c, off + k * 7 + 1, none⟩ = some (.int .i64 T[k].2.1.lsn) /\ u.cell? ⟨c, off + k * 7 + 1 + 1, none⟩ = some (.int .i64 T[k].2.1.kind) /\ u.cell? ⟨c, off + k * 7 + 1 + 2, none⟩ = some (.int .i64 T[k].2.1.level) /\
   u.cell? ⟨c, off + k * 7 + 1 + 3, none⟩ = some (.int .i64 T[k].2.1.right) /\ u.cell? ⟨c, off + k * 7 + 1 + 4, none⟩ = some (.string (str T[k].2.1.high)) /\ u.cell? ⟨c, off + k * 7 + 1 + 5, none⟩ = some T[k].2.2 := by
 rcases h.1 with ⟨h1, _⟩ | ⟨c, off, cap, h1, h2⟩
 ·omega
 ·refine ⟨c, off, cap, h1, fun u hu => ?_⟩;have key : ∀ j (hj : j < 7), u.cell? ⟨c, off + (7 * k + j), none⟩ = (imC T[k])[j]? := by
   intro j hj;have hl : 7 * k + j < (imCells T).length := by rw [imCells_length]; omega
   have h3 := h2 (7 * k + j) hl;rw [Below.cell hu (World.block_lt_of_cell? w _ h3), h3, <- imCells_at T k j hk hj, List.getElem?_eq_getElem hl]
  refine ⟨?_, ?_, ?_, ?_, ?_, ?_, ?_⟩
  ·rw [show off + k * 7 = off + (7 * k + 0) by omega]; exact key 0 (by omega)
  ·rw [show off + k * 7 + 1 = off + (7 * k + 1) by omega]; exact key 1 (by omega)
  ·rw [show off + k * 7 + 1 + 1 = off + (7 * k + 2) by omega]; exact key 2 (by omega)
  ·rw [show off + k * 7 + 1 + 2 = off + (7 * k + 3) by omega]; exact key 3 (by omega)
  ·rw [show off + k * 7 + 1 + 3 = off + (7 * k + 4) by omega]; exact key 4 (by omega)
  ·rw [show off + k * 7 + 1 + 4 = off + (7 * k + 5) by omega]; exact key 5 (by omega)
  ·rw [show off + k * 7 + 1 + 5 = off + (7 * k + 6) by omega]; exact key 6 (by omega)
theorem imgs_form {w : World} {v : Value} {T : List Im} (h : ImgsW w v T) : ∃ a cap, v = .slice a T.length cap := row_slice h.1
def recG (kind page : Int) (d : ByteArray) (v : Value) : Value := .agg #[.int .i64 0, .int .i64 0, .int .i64 0, .int .u8 kind, .int .i64 0, .int .i64 page, .int .i64 0, .int .i64 0, .int .i64 0, .int .i64 0, .string d, .slice none 0 0, .slice none 0 0, v, .slice none 0 0, .slice none 0 0]
def recGC (kind page : Int) (d : ByteArray) (v : Value) : List Value := [.int .i64 0, .int .i64 0, .int .i64 0, .int .u8 kind, .int .i64 0, .int .i64 page, .int .i64 0, .int .i64 0, .int .i64 0, .int .i64 0, .string d, .slice none 0 0, .slice none 0 0, v, .slice none 0 0, .slice none 0 0]
def dropV (x : Im) : Int × Pg := (x.1, x.2.1)
set_option maxRecDepth 100000 in
theorem split_fn (a : Option Addr) (n c : Nat) (w_ : World) : Calls Tryz.prog 205 #[.slice a n c] w_ fun x w' => x = .returned (recG 5 0 ⟨#[]⟩ (.slice a n c)) /\ Below w_.heap.size w_ w' := by
 obtain ⟨w0, hw0⟩ : ∃ w0, w0 = w_.alloc (.cells #[.int .i64 0, .int .i64 0, .int .i64 0, .int .u8 0, .int .i64 0, .int .i64 0, .int .i64 0, .int .i64 0, .int .i64 0, .int .i64 0, .string ⟨#[]⟩, .slice none 0 0, .slice none 0 0, .slice none 0 0, .slice none 0 0, .slice none 0 0] 71) := ⟨_, rfl⟩;have hg0 : Grow w_ w0 := by subst hw0; exact (Grow.refl w_).alloc _
 have hR0 : Blk w0 w_.heap.size 71 [.int .i64 0, .int .i64 0, .int .i64 0, .int .u8 0, .int .i64 0, .int .i64 0, .int .i64 0, .int .i64 0, .int .i64 0, .int .i64 0, .string ⟨#[]⟩, .slice none 0 0, .slice none 0 0, .slice none 0 0, .slice none 0 0, .slice none 0 0] := by subst hw0; exact Blk.new w_ _ [.int .i64 0, .int .i64 0, .int .i64 0, .int .u8 0, .int .i64 0, .int .i64 0, .int .i64 0, .int .i64 0, .int .i64 0, .int .i64 0, .string ⟨#[]⟩, .slice none 0 0, .slice none 0 0, .slice none 0 0, .slice none 0 0, .slice none 0 0]
 have HR0 := keep hR0;have HG0 := keep hg0;clear hR0 hg0;go_enter Tryz.func205, Tryz.ntmps205;go_upto_region 1 with fail;rw [<- hw0];clear hw0;go_wp2_with ((refine wpList_store_rec rfl _ _ rfl w_.heap.size _ rfl rfl HR0.out rfl rfl rfl ?_); intro wz hset hbz; have Hset := keep hset; have Hbut := keep hbz; clear hset hbz);refine bodyPost_ret (v := recG 5 0 ⟨#[]⟩ (.slice a n c)) ?_ rfl ⟨rfl, But.below HG0.out Hbut.out (Nat.le_refl _) HG0.out.size⟩;obtain ⟨⟨s0_, s1_, s2_, s3_, s4_, s5_, s6_, s7_, s8_, s9_, s10_, s11_, s12_, s13_, s14_, s15_⟩, _⟩ := recres Hset.out;simp [results, Tryz.results205, go_sem, s0_, s1_, s2_, s3_, s4_, s5_, s6_, s7_, s8_, s9_, s10_, s11_, s12_, s13_, s14_, s15_, recG]
 try rfl
def aboveN (k : Int) (T : List Im) : En × Int × Bool := if h : k = 5 /\ T.length = 2 then (if (decN (T[0]'(by omega)).2.1.high).2 ≠ 0 then (leastE, 0, false) else ((decN (T[0]'(by omega)).2.1.high).1, (T[1]'(by omega)).1, true)) else (leastE, 0, false)
def AbovePost (k : Int) (T : List Im) (w : World) (x : Ending) (w' : World) : Prop := x = .returned (.tuple #[enV (aboveN k T).1, .int .i64 (aboveN k T).2.1, .bool (aboveN k T).2.2]) /\ Below w.heap.size w w'
end Go.Proofs.YtcdapdcablnhpaaGreat
namespace Go.Proofs.YtcdapdcablnhpaaGreat
open Go.RowKit
attribute [local go_sem] givesV lookV knAt hgs
end Go.Proofs.YtcdapdcablnhpaaGreat
namespace Go.Proofs.YtcdapdcablnhpaaGreat
open Go.RowKit
attribute [local go_sem] hgs
attribute [local simp] eql_entry neq_entry neq_zeroE
attribute [local go_sem] guard_entry
end Go.Proofs.YtcdapdcablnhpaaGreat
namespace Go.Proofs.YtcdapdcablnhpaaGreat
open Go.RowKit
attribute [local go_sem] hgs
theorem getD_at {l : List Int} {n : Nat} (h : n < l.length) : l.getD n 0 = l[n] := by simp [List.getD, h]
end Go.Proofs.YtcdapdcablnhpaaGreat
