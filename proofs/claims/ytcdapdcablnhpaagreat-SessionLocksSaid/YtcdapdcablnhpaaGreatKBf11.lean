import Derived.Test.YtcdapdcablnhpaaGreatKBe9
import Derived.Test.YtcdapdcablnhpaaGreatKCg10
import Derived.Test.YtcdapdcablnhpaaGreatKSp2
import Derived.Deep.CutRange
import Derived.Test.YtcdapdcablnhpaaGreatKLexn
import Derived.Test.YtcdapdcablnhpaaGreatKLexr
import Derived.Test.YtcdapdcablnhpaaGreatKLexk
namespace Go.Proofs.YtcdapdcablnhpaaGreat
open Go.RowKit
def lsn0 (P : Pg) : Pg := { P with lsn := 0 }
abbrev Rc := (Int × Int × List UInt8 × List (Int × Pg)) × Int
def rc0 (c : Int) : Rc := ((0, 0, [], []), c)
def growC (n k f0 r : Int) (sp : Bool) (A B : Pg) (out : Bool) (HA HB : Pg × En × Int) (RT : Pg × Int) : Rc :=
 if sp = false then rc0 140
 else if (if out then HB else HA).2.2 ≠ 0 then rc0 121
 else if k = 1 then ((5, 0, [], [(n, if out then A else HA.1), (r, if out then HB.1 else B)]), 0)
 else if RT.2 ≠ 0 then rc0 RT.2
 else ((5, 0, [], [(f0, if out then A else HA.1), (r, if out then HB.1 else B), (n, RT.1)]), 0)
def growN (P : Pg) (n : Int) (item : List UInt8) (f0 r k : Int) : Rc :=
 growC n k f0 r (splitOk (lsn0 P) r) (leftG (lsn0 P) r) (rightG (lsn0 P)) (beyondN (leftG (lsn0 P) r) (layN (lsn0 P) item).2.1).1 (layN (leftG (lsn0 P) r) item) (layN (rightG (lsn0 P)) item) (rootN (P.level + 1) f0 (borderG (lsn0 P)) r)
def enterN (P : Pg) (n : Int) (item : List UInt8) (fr : List Int) : Rc :=
 if (needN P n item).2 ≠ 0 then rc0 (needN P n item).2
 else if apartN fr (needN P n item).1 = false then rc0 1
 else if (needN P n item).1 = 0 then ((3, n, item, []), 0)
 else growN P n item (fr.getD 0 0) (fr.getD ((needN P n item).1.toNat - 1) 0) (needN P n item).1
theorem need_cases (P : Pg) (n : Int) (item : List UInt8) : ((needN P n item).1 = 0 /\ (needN P n item).2 = (layN P item).2.2 /\ (layN P item).2.2 ≠ 3) \/ ((layN P item).2.2 = 3 /\ (needN P n item = (1, 0) \/ needN P n item = (2, 0))) := by
 unfold needN
 by_cases h : (layN P item).2.2 = 3
 ·rw [if_neg (fun h2 => h2 h)];refine .inr ⟨h, ?_⟩
  by_cases hn : n = 1
  ·rw [if_pos hn]; exact .inr rfl
  ·rw [if_neg hn]; exact .inl rfl
 ·rw [if_pos h];exact .inl ⟨rfl, rfl, h⟩
theorem lay_open {P : Pg} {item : List UInt8} (h : (layN P item).2.2 = 3) : openOk P = true := by
 cases ho : openOk P with
 | true => rfl
 | false =>
  unfold layN at h;rw [ho] at h;simp at h
theorem turned_fine (P : Pg) (l : List (List UInt8)) : (turnedN P l).1.items.length <= l.length /\ (turnedN P l).1.high.length <= P.high.length := by
 unfold turnedN
 split
 ·exact ⟨Nat.le_refl _, Nat.le_refl _⟩
 ·exact ⟨Nat.zero_le _, Nat.zero_le _⟩
theorem ins_fine (P : Pg) (e : En) : (insN P e).1.items.length <= P.items.length + 1 /\ (insN P e).1.high.length <= P.high.length := by
 unfold insN
 split
 ·split
  ·exact ⟨Nat.zero_le _, Nat.zero_le _⟩
  ·refine ⟨Nat.le_trans (turned_fine _ _).1 ?_, (turned_fine _ _).2⟩;simp;omega
 ·exact ⟨Nat.zero_le _, Nat.zero_le _⟩
theorem post_fine (P : Pg) (e : En) (c : Int) : (postN P e c).1.items.length <= P.items.length + 1 /\ (postN P e c).1.high.length <= P.high.length := by
 unfold postN
 split
 ·split
  ·exact ⟨Nat.zero_le _, Nat.zero_le _⟩
  ·refine ⟨Nat.le_trans (turned_fine _ _).1 ?_, (turned_fine _ _).2⟩;simp;omega
 ·exact ⟨Nat.zero_le _, Nat.zero_le _⟩
theorem lay_fine (P : Pg) (item : List UInt8) : (layN P item).1.items.length <= P.items.length + 1 /\ (layN P item).1.high.length <= P.high.length := by
 unfold layN
 split
 ·split
  ·split
   ·exact ⟨Nat.zero_le _, Nat.zero_le _⟩
   ·split
    ·exact ⟨Nat.zero_le _, Nat.zero_le _⟩
    ·exact ins_fine _ _
  ·split
   ·exact ⟨Nat.zero_le _, Nat.zero_le _⟩
   ·split
    ·exact ⟨Nat.zero_le _, Nat.zero_le _⟩
    ·exact post_fine _ _ _
 ·exact ⟨Nat.zero_le _, Nat.zero_le _⟩
theorem left_small {P : Pg} {r : Int} (h : splitOk P r = true) : (leftG P r).items.length <= 255 /\ (leftG P r).high.length <= 255 /\ ∀ x ∈ (leftG P r).items, x.length <= 512 := by
 obtain ⟨ho, h2, h3, h4, h5⟩ := split_facts h;obtain ⟨f1, f2, f3, _⟩ := open_fine ho;refine ⟨?_, ?_, ?_⟩
 ·simp only [leftG, List.length_take]; omega
 ·have := enBytes_length (borderG P) (border_ok h);simp only [leftG]; omega
 ·intro x hx;exact f3 x (List.mem_of_mem_take hx)
theorem head_small (P : Pg) : (headG P).length <= 512 := by
 have h1 := sev_length leastE.1.length;have h2 := sevs_length [leastE.2.1, leastE.2.2];have h3 := sevs_length [(kidsN P).getD (halfK P) 0];simp [headG, enBytes, txt, sevs, leastE] at *;omega
theorem right_small {P : Pg} {r : Int} (h : splitOk P r = true) : (rightG P).items.length <= 255 /\ (rightG P).high.length <= 255 /\ ∀ x ∈ (rightG P).items, x.length <= 512 := by
 obtain ⟨ho, h2, h3, h4, h5⟩ := split_facts h;obtain ⟨f1, f2, f3, _⟩ := open_fine ho;refine ⟨?_, f2, ?_⟩
 ·have := rightI_length h;simp only [rightG]; omega
 ·intro x hx;simp only [rightG, rightI] at hx
  split at hx
  ·exact f3 x (List.mem_of_mem_drop hx)
  ·rcases List.mem_cons.1 hx with rfl | hx
   ·exact head_small P
   ·exact f3 x (List.mem_of_mem_drop hx)
theorem small_in {P : Pg} {w : World} {v : Value} (h : P.items.length <= 255 /\ P.high.length <= 255 /\ ∀ x ∈ P.items, x.length <= 512) (hl : P.lsn <= 9223372036854775807) (hi : Items w v P.items) : PgIn w v P :=
 ⟨hi, fun x hx => by have := h.2.2 x hx; omega, by have := h.2.1; omega, by have := h.1; omega, hl⟩
theorem small_fine {P : Pg} (h : P.items.length <= 255 /\ P.high.length <= 255) : imFine P := ⟨by have := h.1; omega, by have := h.2; omega⟩
theorem lay_imFine {P : Pg} {item : List UInt8} (h : P.items.length <= 255 /\ P.high.length <= 255) : imFine (layN P item).1 := ⟨by have := (lay_fine P item).1; omega, by have := (lay_fine P item).2; omega⟩
theorem root_fine (lv left : Int) (e : En) (r : Int) : imFine (rootN lv left e r).1 := by
 unfold rootN
 split
 ·exact ⟨by simp [rootP], by simp [rootP]⟩
 ·exact ⟨by simp [zeroP], by simp [zeroP]⟩
theorem open_lsn0 {P : Pg} (h : openOk P = true) : openOk (lsn0 P) = true := by
 unfold openOk headOk encOk rangeP at *;simp only [Bool.and_eq_true] at h ⊢;obtain ⟨⟨⟨⟨h1, h2⟩, h3⟩, h4⟩, h5⟩ := h;refine ⟨⟨⟨⟨?_, h2⟩, h3⟩, h4⟩, h5⟩;obtain ⟨⟨⟨⟨⟨⟨g1, g2⟩, g3⟩, g4⟩, g5⟩, g6⟩, g7⟩ := h1;exact ⟨⟨⟨⟨⟨⟨rfl, g2⟩, g3⟩, g4⟩, g5⟩, g6⟩, g7⟩
theorem turned_lsn0 (P : Pg) (l : List (List UInt8)) : (turnedN (lsn0 P) l).2 = (turnedN P l).2 := by
 have e : fitsP { lsn0 P with items := l } = fitsP { P with items := l } := rfl;unfold turnedN;rw [e]
 split <;> rfl
theorem ins_lsn0 {P : Pg} (e : En) (h : openOk P = true) : (insN (lsn0 P) e).2 = (insN P e).2 := by
 unfold insN;rw [h, open_lsn0 h];show (if true && (decide (P.level = 0) && (enOk e && !beyN (bdN P) (hiN P) e)) then (if decide (e ∈ ensN P) then (zeroP, (140 : Int)) else putN (lsn0 P) (posE (ensN P) e) (enBytes e [])) else (zeroP, 140)).2 = _
 split
 ·split
  ·rfl
  ·exact turned_lsn0 P _
 ·rfl
theorem post_lsn0 {P : Pg} (e : En) (c : Int) (h : openOk P = true) : (postN (lsn0 P) e c).2 = (postN P e c).2 := by
 have hp : postOk (lsn0 P) e c = postOk P e c := by
  unfold postOk;rw [h, open_lsn0 h]
  rfl
 unfold postN;rw [hp];show (if postOk P e c then (if decide (e ∈ ensN P) then (zeroP, (140 : Int)) else putN (lsn0 P) (posE (ensN P) e) (enBytes e [c])) else (zeroP, 140)).2 = _
 split
 ·split
  ·rfl
  ·exact turned_lsn0 P _
 ·rfl
theorem lay_lsn0 {P : Pg} (item : List UInt8) (h : openOk P = true) : (layN (lsn0 P) item).2 = (layN P item).2 := by
 unfold layN;rw [h, open_lsn0 h];have e1 : (lsn0 P).level = P.level := rfl;have e2 : ensN (lsn0 P) = ensN P := rfl;rw [e1, e2, if_pos rfl, if_pos rfl]
 split
 ·split
  ·rfl
  ·split
   ·rfl
   ·rw [ins_lsn0 _ h]
 ·split
  ·rfl
  ·split
   ·rfl
   ·rw [post_lsn0 _ _ h]
attribute [local go_sem] givesV lookV knAt hgs
def lk13 (j : Nat) : Nat := if j = 13 then 12 else j
theorem wrap_level {n : Int} (h0 : 0 <= n) (h1 : n <= 255) : IntKind.i64.wrap (n + 1) = n + 1 := by
 have : n = (n.toNat : Int) := by omega
 rw [this];exact wrap_more _ (by omega)
def ImgsC (w : World) (v : Value) (T : List Im) : Prop := RowS w 132 v T.length (imCells T) /\ ∀ x ∈ T, ItemsC w x.2.2 x.2.1.items /\ imFine x.2.1
theorem ImgsC.fits {w w' : World} {v : Value} {T : List Im} (h : ImgsC w v T) (g : Grow w w') : ImgsC w' v T := ⟨h.1.fits g, fun x hx => ⟨(h.2 x hx).1.fits g, (h.2 x hx).2⟩⟩
theorem ImgsC.weak {w : World} {v : Value} {T : List Im} (h : ImgsC w v T) : ImgsW w v T := ⟨h.1.weak, fun x hx => ⟨(h.2 x hx).1.1.weak, (h.2 x hx).2⟩⟩
theorem ImgsC.nil (w : World) : ImgsC w (.slice none 0 0) [] := ⟨RowS.nil _ _ _ _, by simp⟩
def RecPostC (R : Rc) (w : World) (x : Ending) (w' : World) : Prop :=
 ∃ iv T, x = .returned (.tuple #[recG R.1.1 R.1.2.1 (str R.1.2.2.1) iv, .int .i64 R.2]) /\ T.map dropV = R.1.2.2.2 /\ ImgsC w' iv T /\ Below w.heap.size w w' /\ (T = [] -> iv = .slice none 0 0)
theorem recPostC_nil {k p : Int} {d : List UInt8} {c : Int} {w w' : World} {x : Ending} (hx : x = .returned (.tuple #[recG k p (str d) (.slice none 0 0), .int .i64 c])) (hb : Below w.heap.size w w') : RecPostC ((k, p, d, []), c) w x w' :=
 ⟨.slice none 0 0, [], hx, rfl, ImgsC.nil _, hb, fun _ => rfl⟩
theorem imgsC_new {w : World} (T : List Im) (n : Nat) (hn : T.length = n) (hT : ∀ x ∈ T, ItemsC w x.2.2 x.2.1.items /\ imFine x.2.1) :
  ImgsC (w.alloc (.cells (imCells T).toArray 132)) (.slice (some ⟨w.heap.size, 0, none⟩) n n) T /\ Grow w (w.alloc (.cells (imCells T).toArray 132)) := by
 have hg : Grow w (w.alloc (.cells (imCells T).toArray 132)) := (Grow.refl w).alloc _;refine ⟨⟨?_, fun x hx => ⟨(hT x hx).1.fits hg, (hT x hx).2⟩⟩, hg⟩;subst hn;exact RowS.blk (Blk.new w _ (imCells T)) _ _ (imCells T) 0 (by intro j _; rw [Nat.zero_add])
theorem imgsC_but {w w' : World} {b t : Nat} {v : Value} {T : List Im} {cs : List Value} (h : ImgsC w v T) (k : But b w w') (hb : Blk w b t cs) (ht : t ≠ 132) (ht2 : t ≠ 9) : ImgsC w' v T := by
 refine ⟨RowS.but h.1 k (fun blk f e => ?_), fun x hx => ⟨itemsC_but (h.2 x hx).1 k hb ht2, (h.2 x hx).2⟩⟩;unfold Blk at hb;rw [hb] at e;simp at e;exact ht e.2.1
theorem enter_res (tm : Array Value) (w : World) (b : Nat) (c k p : Int) (d : ByteArray) (v : Value) (h8 : tm.getD 8 undef = .pointer (some ⟨b, 0, none⟩)) (h9 : tm.getD 9 undef = .int .i64 c) (hB : Blk w b 71 (recGC k p d v)) :
  (results Tryz.f150 tm).run Tryz.prog w = .ok (.tuple #[recG k p d v, .int .i64 c]) w := by
 unfold recGC at hB;obtain ⟨⟨s0_, s1_, s2_, s3_, s4_, s5_, s6_, s7_, s8_, s9_, s10_, s11_, s12_, s13_, s14_, s15_⟩, _⟩ := recres hB;simp only [Array.getD_eq_getD_getElem?] at h8 h9;simp [results, Tryz.results150, go_sem, h8, h9, s0_, s1_, s2_, s3_, s4_, s5_, s6_, s7_, s8_, s9_, s10_, s11_, s12_, s13_, s14_, s15_, recG]
set_option maxRecDepth 100000 in
set_option maxHeartbeats 16000000 in
theorem enter_few1 (P : Pg) (iv : Value) (n : Int) (item : List UInt8) (fr : List Int) (fv : Value) (w_ : World) (hin : PgIn w_ iv P) (_hcap : Capd iv) (hs : (item.length : Int) <= 140737488355328) (hf : Ints w_ fv fr) (hfl : (fr.length : Int) <= 4611686018427387904) (_hc : (layN P item).2.2 = 3) (hk : needN P n item = (1, 0)) (ha : apartN fr 1 = false) :
  Calls Tryz.prog 150 #[pgV P iv, .int .i64 n, .string (str item), fv] w_ (RecPostC (enterN P n item fr) w_) := by
 obtain ⟨w0, hw0⟩ : ∃ w0, w0 = (w_.alloc (.cells (pgCells P iv).toArray 28)).alloc (.cells #[.int .i64 0, .int .i64 0, .int .i64 0, .int .u8 0, .int .i64 0, .int .i64 0, .int .i64 0, .int .i64 0, .int .i64 0, .int .i64 0, .string ⟨#[]⟩, .slice none 0 0, .slice none 0 0, .slice none 0 0, .slice none 0 0, .slice none 0 0] 71) := ⟨_, rfl⟩;obtain ⟨hg0, hP0, hR0⟩ := pr_new P iv w_ w0 hw0;have hnd := need_any P iv n item w0 (hin.fits hg0) hs;have hap := fun (u : World) (hu : Grow w_ u) => apart_any fr fv 1 u (hf.fits hu) hfl
 have hap : ∀ u, Grow w_ u -> Calls Tryz.prog 203 #[fv, .int .i64 1] u fun x w' => x = .returned (.bool (apartN fr 1)) /\ Below u.heap.size u w' := hap
 have hy : enterN P n item fr = rc0 1 := by unfold enterN; rw [hk, if_neg (fun h => h rfl), if_pos ha]
 unfold NeedPost at hnd;rw [hk] at hnd;rw [ha] at hap;rw [hy];unfold pgV at hnd;have HNd := keep hnd;have HAp := keep hap;have HR0 := keep hR0;have HG0 := keep hg0;have HP0 := keep hP0;clear hnd hap hy hin _hcap hf hk _hc ha hR0 hg0;unfold pgCells at hw0 hP0;obtain ⟨p0, p1, p2, p3, p4, p5, _⟩ := pgres hP0;clear hP0;unfold pgV;go_enter Tryz.func150, Tryz.ntmps150;go_upto_region 1 with fail;rw [<- hw0];clear hw0;go_wp2_with fail;refine HNd.out.mono ?_;rintro x w1 ⟨rfl, hb1⟩;clear p0 p1 p2 p3 p4 p5 HNd;have HG1 := keep (Grow.trans HG0.out hb1);have HR1 := keep (HR0.out.fits hb1);clear hb1;go_wp2_with fail;refine (HAp.out w1 HG1.out).mono ?_;rintro x w2 ⟨rfl, hb2⟩;have HG2 := keep (Grow.trans HG1.out hb2);have HR2 := keep (HR1.out.fits hb2);clear hb2 HAp;go_wp2_with ((refine wpList_store_rec rfl _ _ rfl (w_.heap.size + 1) _ rfl rfl HR2.out rfl rfl rfl ?_); intro wz hset hbz; have Hset := keep hset; have Hbut := keep hbz; clear hset hbz);refine bodyPost_ret (v := .tuple #[recG 0 0 ⟨#[]⟩ (.slice none 0 0), .int .i64 1]) ?_ rfl ( (recPostC_nil rfl (But.below HG2.out Hbut.out (by omega) (HG2.out).size)));exact enter_res _ _ _ _ _ _ _ _ rfl rfl Hset.out
set_option maxRecDepth 100000 in
set_option maxHeartbeats 16000000 in
theorem enter_split1 (P : Pg) (iv : Value) (n : Int) (item : List UInt8) (fr : List Int) (fv : Value) (w_ : World) (hin : PgIn w_ iv P) (hcap : Capd iv) (hs : (item.length : Int) <= 140737488355328) (hf : Ints w_ fv fr) (hfl : (fr.length : Int) <= 4611686018427387904) (hc : (layN P item).2.2 = 3) (hk : needN P n item = (1, 0)) (ha : apartN fr 1 = true) :
  Calls Tryz.prog 150 #[pgV P iv, .int .i64 n, .string (str item), fv] w_ (RecPostC (enterN P n item fr) w_) := by
 obtain ⟨w0, hw0⟩ : ∃ w0, w0 = (w_.alloc (.cells (pgCells P iv).toArray 28)).alloc (.cells #[.int .i64 0, .int .i64 0, .int .i64 0, .int .u8 0, .int .i64 0, .int .i64 0, .int .i64 0, .int .i64 0, .int .i64 0, .int .i64 0, .string ⟨#[]⟩, .slice none 0 0, .slice none 0 0, .slice none 0 0, .slice none 0 0, .slice none 0 0] 71) := ⟨_, rfl⟩;obtain ⟨hg0, hP0, hR0⟩ := pr_new P iv w_ w0 hw0;have hnd := need_any P iv n item w0 (hin.fits hg0) hs;have hap := fun (u : World) (hu : Grow w_ u) => apart_any fr fv 1 u (hf.fits hu) hfl
 have hap : ∀ u, Grow w_ u -> Calls Tryz.prog 203 #[fv, .int .i64 1] u fun x w' => x = .returned (.bool (apartN fr 1)) /\ Below u.heap.size u w' := hap
 have hop := lay_open hc;have hfin := open_fine hop;have hlv1 := wrap_level hfin.2.2.2.1 hfin.2.2.2.2.1;have hlen : fr.length = 1 := by
  unfold apartN at ha;simp only [Bool.and_eq_true, decide_eq_true_eq] at ha;have := ha.1.1;omega
 have hy : enterN P n item fr = growN P n item (fr.getD 0 0) (fr.getD 0 0) 1 := by unfold enterN; rw [hk, if_neg (fun h => h rfl), if_neg (by rw [ha]; decide), if_neg (by decide)]; rfl
 obtain ⟨cf, of, capf, ef, hcf0⟩ := ints_at hf (show 0 < fr.length by omega);have hin2 : PgIn w_ iv (lsn0 P) := ⟨hin.1, hin.2.1, hin.2.2.1, hin.2.2.2.1, by simp [lsn0]⟩;have hlc := lay_lsn0 item hop;have hlp := fun (u : World) (hu : Grow w_ u) => lay_any (lsn0 P) iv item u (hin2.fits hu) hs
 unfold LayN LayPost at hlp;have z0 : fr.getD 0 0 = fr[0] := getD_at (by omega);have hsp := fun (u : World) (hu : Grow w_ u) (h : splitOk (lsn0 P) (fr.getD 0 0) = true) => split_any (lsn0 P) iv (fr.getD 0 0) u (hin2.fits hu) hcap h
 have hsn := fun (u : World) (hu : Grow w_ u) (h : splitOk (lsn0 P) (fr.getD 0 0) = false) => split_no (lsn0 P) iv (fr.getD 0 0) u (hin2.fits hu) h
 have hls := fun (h : splitOk (lsn0 P) (fr.getD 0 0) = true) => left_small h
 have hrs := fun (h : splitOk (lsn0 P) (fr.getD 0 0) = true) => right_small h
 have hl0 : (leftG (lsn0 P) (fr.getD 0 0)).lsn = 0 := rfl;have hr0 : (rightG (lsn0 P)).lsn = 0 := rfl;unfold NeedPost at hnd;rw [hk] at hnd;rw [ha] at hap;rw [hy];unfold growN;rw [z0] at *;generalize fr[0] = f0 at *;have hbe := fun (u : World) (av : Value) (h : PgIn u av (leftG (lsn0 P) f0)) => beyond_node (leftG (lsn0 P) f0) av (layN (lsn0 P) item).2.1 u h
 have hla := fun (u : World) (av : Value) (h : PgIn u av (leftG (lsn0 P) f0)) (hv : Capd av) => lay_any (leftG (lsn0 P) f0) av item u h hs
 have hlb := fun (u : World) (av : Value) (h : PgIn u av (rightG (lsn0 P))) (hv : Capd av) => lay_any (rightG (lsn0 P)) av item u h hs
 have hrt := fun (u : World) => root_any (P.level + 1) f0 (borderG (lsn0 P)) f0 u
 have hfa := fun (h : splitOk (lsn0 P) f0 = true) => (lay_imFine (item := item) ⟨(hls h).1, (hls h).2.1⟩ : imFine (layN (leftG (lsn0 P) f0) item).1)
 have hfb := fun (h : splitOk (lsn0 P) f0 = true) => (lay_imFine (item := item) ⟨(hrs h).1, (hrs h).2.1⟩ : imFine (layN (rightG (lsn0 P)) item).1)
 have hfr := root_fine (P.level + 1) f0 (borderG (lsn0 P)) f0;unfold LayN LayPost at hla hlb;unfold PgPost at hrt;have hlv0 : (lsn0 P).level = P.level := rfl;have hPc : [.int .i64 0, .int .i64 P.kind, .int .i64 P.level, .int .i64 P.right, .string (str P.high), iv] = pgCells (lsn0 P) iv := rfl;rw [hlen] at ef;generalize lsn0 P = P' at *;generalize layN P' item = XX at *;obtain ⟨Xq, Xe, Xc⟩ := XX;generalize beyondN (leftG P' f0) (Xq, Xe, Xc).2.1 = BY at *;obtain ⟨out, outc⟩ := BY;generalize splitOk P' f0 = sp at *;generalize layN (leftG P' f0) item = HA at *;generalize layN (rightG P') item = HB at *;generalize rootN (P.level + 1) f0 (borderG P') f0 = RT at *;generalize leftG P' f0 = A at *;generalize rightG P' = B at *;generalize borderG P' = E at *;obtain ⟨HA1, HAe, HAc⟩ := HA;obtain ⟨HB1, HBe, HBc⟩ := HB;obtain ⟨RQ, rc⟩ := RT;obtain ⟨ek, ep, es⟩ := E;obtain ⟨xk, xp, xs_⟩ := Xe
 try dsimp only at hlp
 try dsimp only at hbe
 try dsimp only at hla
 try dsimp only at hlb
 try dsimp only at hrt
 try dsimp only at hfa
 try dsimp only at hfb
 try dsimp only at hfr
 unfold SplitOwn at hsp;unfold SplitPost at hsn;unfold pgV at hnd hlp hbe hla hlb hsp hsn;unfold enV at hlp hbe hla hlb hrt hsp hsn
 try dsimp only at hlp
 try dsimp only at hbe
 try dsimp only at hla
 try dsimp only at hlb
 try dsimp only at hrt
 try dsimp only at hsp
 try dsimp only at hsn
 clear hy hlen hfin hk hc ha hlc hin2 hin hop hf hfl z0;have HNd := keep hnd;have HAp := keep hap;have HLp := keep hlp;have HSp := keep hsp;have HSn := keep hsn;have HBe := keep hbe;have HLa := keep hla;have HLb := keep hlb;have HRt := keep hrt;have HFa := keep hfa;have HFb := keep hfb;have HFr := keep hfr;have HLs := keep hls;have HRs := keep hrs;have HL0 := keep hl0;have HRl0 := keep hr0;have HLv1 := keep hlv1;have HLvP := keep hlv0;have HPc := keep hPc;have HF0 := keep hcf0;have HR0 := keep hR0;have HG0 := keep hg0;have HP0 := keep hP0;clear hnd hap hlp hsp hsn hbe hla hlb hrt hfa hfb hfr hls hrs hl0 hr0 hlv0 hlv1 hPc hcf0 hcap  hR0 hg0;unfold pgCells at hw0 hP0;obtain ⟨p0, p1, p2, p3, p4, p5, _⟩ := pgres hP0;clear hP0;unfold pgV;subst ef;go_enter Tryz.func150, Tryz.ntmps150;go_upto_region 1 with fail;rw [<- hw0];clear hw0;go_wp2_with fail;refine HNd.out.mono ?_;rintro x w1 ⟨rfl, hb1⟩;clear p0 p1 p2 p3 p4 p5 HNd;have HG1 := keep (Grow.trans HG0.out hb1);have HR1 := keep (HR0.out.fits hb1);have HP1 := keep (HP0.out.fits hb1);clear hb1 HP0 HR0;go_wp2_with fail;refine (HAp.out w1 HG1.out).mono ?_;rintro x w2 ⟨rfl, hb2⟩;have HG2 := keep (Grow.trans HG1.out hb2);have HR2 := keep (HR1.out.fits hb2);have hP2 := HP1.out.fits hb2;have HP2 := keep hP2;unfold pgCells at hP2;obtain ⟨p0, p1, p2, p3, p4, p5, f0_, _⟩ := pgres hP2;clear hb2 HAp HP1 HR1 hP2;go_upto_region 9 with fail;clear p0 p1 p2 p3 p4 p5 f0_
 obtain ⟨w3, hw3⟩ : ∃ w3, w3 = w2.setCell ⟨w_.heap.size, 0, none⟩ (.int .i64 0) := ⟨_, rfl⟩;have hP3 : Blk w3 w_.heap.size 28 (pgCells P' iv) := by rw [<- HPc.out, hw3]; exact HP2.out.set 0 (.int .i64 0)
 have hbt3 : But w_.heap.size w2 w3 := by rw [hw3]; exact (But.refl _ _).setCell 0 _
 rw [<- hw3];have HP3 := keep hP3;have HG3 := keep (But.below HG2.out hbt3 (Nat.le_refl _) HG2.out.size);have HR3 := keep (HR2.out.but hbt3 (by omega));have d0 := (HF0.out w3 HG3.out);rw [Nat.add_zero] at d0;clear hw3 hP3 hbt3 HP2 HR2;unfold pgCells at HP3;obtain ⟨p0, p1, p2, p3, p4, p5, _⟩ := pgres HP3.out;go_wp2_with fail;cases sp with
 | false =>
  refine (HSn.out w3 HG3.out rfl).mono ?_;rintro x w4 ⟨av, bv, rfl, hia, hib, hb4⟩;obtain ⟨aa, ac, rfl⟩ := itemsS_form hia.1;obtain ⟨ba, bc, rfl⟩ := itemsS_form hib.1;have HG4 := keep (Grow.trans HG3.out hb4);have HR4 := keep (HR3.out.fits hb4);clear p0 p1 p2 p3 p4 p5 d0 hia hib hb4;go_upto_region 11 with fail;obtain ⟨w5, hw5⟩ : ∃ w5, w5 = ((w4.alloc (.cells #[.int .i64 zeroP.lsn, .int .i64 zeroP.kind, .int .i64 zeroP.level, .int .i64 zeroP.right, .string (str zeroP.high), .slice aa zeroP.items.length ac] 28)).alloc (.cells #[.int .i64 zeroP.lsn, .int .i64 zeroP.kind, .int .i64 zeroP.level, .int .i64 zeroP.right, .string (str zeroP.high), .slice ba zeroP.items.length bc] 28)).alloc (.cells #[.string (str leastE.1), .int .i64 leastE.2.1, .int .i64 leastE.2.2] 103) := ⟨_, rfl⟩;have HG5 := keep (show Grow w_ w5 by subst hw5; exact ((HG4.out.alloc _).alloc _).alloc _);have HR5 := keep (show Blk w5 _ _ _ by subst hw5; exact ((HR4.out.alloc _).alloc _).alloc _);rw [<- hw5];clear hw5;go_wp2_with ((refine wpList_store_rec rfl _ _ rfl (w_.heap.size + 1) _ rfl rfl HR5.out rfl rfl rfl ?_); intro wz hset hbz; have Hset := keep hset; have Hbut := keep hbz; clear hset hbz);refine bodyPost_ret (v := .tuple #[recG 0 0 ⟨#[]⟩ (.slice none 0 0), .int .i64 140]) ?_ rfl ( (recPostC_nil rfl (But.below HG5.out Hbut.out (by omega) (HG5.out).size)));exact enter_res _ _ _ _ _ _ _ _ rfl rfl Hset.out
 | true =>
  refine (HSp.out w3 HG3.out rfl).mono ?_;rintro x w4 ⟨av, bv, rfl, hoa, hob, hb4⟩;have hia := hoa.items;have hib := hob.items;obtain ⟨aa, ac, rfl⟩ := itemsS_form hia.1;obtain ⟨ba, bc, rfl⟩ := itemsS_form hib.1;have HG4 := keep (Grow.trans HG3.out hb4);have HR4 := keep (HR3.out.fits hb4);have HP4 := keep (HP3.out.fits hb4);have hz4 := HR4.out.lt;clear p0 p1 p2 p3 p4 p5 d0 hoa hob HR3 HP3;go_upto_region 11 with fail;obtain ⟨w5, hw5⟩ : ∃ w5, w5 = ((w4.alloc (.cells #[.int .i64 A.lsn, .int .i64 A.kind, .int .i64 A.level, .int .i64 A.right, .string (str A.high), .slice aa A.items.length ac] 28)).alloc (.cells #[.int .i64 B.lsn, .int .i64 B.kind, .int .i64 B.level, .int .i64 B.right, .string (str B.high), .slice ba B.items.length bc] 28)).alloc (.cells #[.string (str ek), .int .i64 ep, .int .i64 es] 103) := ⟨_, rfl⟩;have hg5 : Grow w4 w5 := by subst hw5; exact (((Grow.refl _).alloc _).alloc _).alloc _
  have hA5 : Blk w5 w4.heap.size 28 (pgCells A (.slice aa A.items.length ac)) := by subst hw5; exact ((Blk.new w4 _ [.int .i64 A.lsn, .int .i64 A.kind, .int .i64 A.level, .int .i64 A.right, .string (str A.high), .slice aa A.items.length ac]).alloc _).alloc _
  have hB5 : Blk w5 (w4.heap.size + 1) 28 (pgCells B (.slice ba B.items.length bc)) := by
   have := (Blk.new (w4.alloc (.cells #[.int .i64 A.lsn, .int .i64 A.kind, .int .i64 A.level, .int .i64 A.right, .string (str A.high), .slice aa A.items.length ac] 28)) 28 [.int .i64 B.lsn, .int .i64 B.kind, .int .i64 B.level, .int .i64 B.right, .string (str B.high), .slice ba B.items.length bc]).alloc (.cells #[.string (str ek), .int .i64 ep, .int .i64 es] 103);rw [show (w4.alloc (.cells #[.int .i64 A.lsn, .int .i64 A.kind, .int .i64 A.level, .int .i64 A.right, .string (str A.high), .slice aa A.items.length ac] 28)).heap.size = w4.heap.size + 1 by simp] at this;subst hw5; exact this
  have hE5 : Blk w5 (w4.heap.size + 2) 103 [.string (str ek), .int .i64 ep, .int .i64 es] := by
   have := Blk.new ((w4.alloc (.cells #[.int .i64 A.lsn, .int .i64 A.kind, .int .i64 A.level, .int .i64 A.right, .string (str A.high), .slice aa A.items.length ac] 28)).alloc (.cells #[.int .i64 B.lsn, .int .i64 B.kind, .int .i64 B.level, .int .i64 B.right, .string (str B.high), .slice ba B.items.length bc] 28)) 103 [.string (str ek), .int .i64 ep, .int .i64 es];rw [show ((w4.alloc (.cells #[.int .i64 A.lsn, .int .i64 A.kind, .int .i64 A.level, .int .i64 A.right, .string (str A.high), .slice aa A.items.length ac] 28)).alloc (.cells #[.int .i64 B.lsn, .int .i64 B.kind, .int .i64 B.level, .int .i64 B.right, .string (str B.high), .slice ba B.items.length bc] 28)).heap.size = w4.heap.size + 2 by simp] at this;subst hw5; exact this
  rw [<- hw5];have HG5 := keep (Grow.trans HG4.out hg5);have HR5 := keep (HR4.out.fits hg5);have HP5 := keep (HP4.out.fits hg5);have HA5 := keep hA5;have HB5 := keep hB5;have HE5 := keep hE5;have HIa5 := keep ((hia.fits hg5));have HIb5 := keep ((hib.fits hg5));have hz5 := hE5.lt;clear hw5 hg5 hA5 hB5 hE5 hia hib hb4 HR4 HP4;obtain ⟨p0, p1, p2, p3, p4, p5, _⟩ := pgres HP5.out;go_wp2_with fail;refine (HLp.out w5 HG5.out).mono ?_;rintro x w6 ⟨jv, rfl, hit, hb6⟩;obtain ⟨ja, jc, rfl⟩ := itemsS_form hit.1;clear p0 p1 p2 p3 p4 p5 hit HLp;go_upto_region 14 with fail;obtain ⟨w7, hw7⟩ : ∃ w7, w7 = (w6.alloc (.cells #[.int .i64 Xq.lsn, .int .i64 Xq.kind, .int .i64 Xq.level, .int .i64 Xq.right, .string (str Xq.high), .slice ja Xq.items.length jc] 28)).alloc (.cells #[.string (str xk), .int .i64 xp, .int .i64 xs_] 103) := ⟨_, rfl⟩;have hg7 : Grow w5 w7 := by subst hw7; exact Grow.alloc (Grow.alloc hb6 _) _
  have hX7 : Blk w7 (w6.heap.size + 1) 103 [.string (str xk), .int .i64 xp, .int .i64 xs_] := by
   have := Blk.new (w6.alloc (.cells #[.int .i64 Xq.lsn, .int .i64 Xq.kind, .int .i64 Xq.level, .int .i64 Xq.right, .string (str Xq.high), .slice ja Xq.items.length jc] 28)) 103 [.string (str xk), .int .i64 xp, .int .i64 xs_];rw [show (w6.alloc (.cells #[.int .i64 Xq.lsn, .int .i64 Xq.kind, .int .i64 Xq.level, .int .i64 Xq.right, .string (str Xq.high), .slice ja Xq.items.length jc] 28)).heap.size = w6.heap.size + 1 by simp] at this;subst hw7; exact this
  rw [<- hw7];have HR7 := keep (HR5.out.fits hg7);have HP7 := keep (HP5.out.fits hg7);have HA7 := keep (HA5.out.fits hg7);have HB7 := keep (HB5.out.fits hg7);have HE7 := keep (HE5.out.fits hg7);have HIa7 := keep (HIa5.out.fits hg7);have HIb7 := keep (HIb5.out.fits hg7);clear HR5 HP5 HA5 HB5 HIa5 HIb5;have HG7 := keep (Grow.trans HG5.out hg7);have hA7 := HA7.out;unfold pgCells at hA7;obtain ⟨a0, a1, a2, a3, a4, a5, _⟩ := pgres hA7;obtain ⟨e0, e1, e2, _⟩ := enres hX7;clear hw7 hg7 hb6 hX7 hA7;go_wp2_with fail;refine (HBe.out w7 _ (small_in (HLs.out (by trivial)) (by rw [HL0.out]; omega) HIa7.out.1.weak)).mono ?_;rintro x w8 ⟨rfl, hb8⟩;have HR8 := keep (HR7.out.fits hb8);have HP8 := keep (HP7.out.fits hb8);have HA8 := keep (HA7.out.fits hb8);have HB8 := keep (HB7.out.fits hb8);have HE8 := keep (HE7.out.fits hb8);have HIa8 := keep (HIa7.out.fits hb8);have HIb8 := keep (HIb7.out.fits hb8);clear HR7 HP7 HA7 HB7 HE7 HIa7 HIb7;have HG8 := keep (Grow.trans HG7.out hb8);have hA8 := HA8.out;have hB8 := HB8.out;unfold pgCells at hA8 hB8;clear a0 a1 a2 a3 a4 a5 e0 e1 e2 hb8 HBe;obtain ⟨a0, a1, a2, a3, a4, a5, _⟩ := pgres hA8;obtain ⟨b0, b1, b2, b3, b4, b5, _⟩ := pgres hB8;clear hA8 hB8;cases out with
  | false =>
   go_wp2_with fail;refine (HLa.out w8 _ (small_in (HLs.out (by trivial)) (by rw [HL0.out]; omega) HIa8.out.1.weak) HIa8.out.2).mono ?_;rintro x w9 ⟨jv, rfl, hit, hb9⟩;obtain ⟨ja, jc, rfl⟩ := itemsS_form hit.1;clear a0 a1 a2 a3 a4 a5 b0 b1 b2 b3 b4 b5;have HR9 := keep (HR8.out.fits hb9);have HP9 := keep (HP8.out.fits hb9);have HA9 := keep (HA8.out.fits hb9);have HB9 := keep (HB8.out.fits hb9);have HE9 := keep (HE8.out.fits hb9);have HIa9 := keep (HIa8.out.fits hb9);have HIb9 := keep (HIb8.out.fits hb9);clear HR8 HP8 HA8 HB8 HE8 HIa8 HIb8;have HG9 := keep (Grow.trans HG8.out hb9);have HIn9 := keep hit;have hzl := HE5.out.lt;have hzw : w4.heap.size + 2 < w9.heap.size := HE9.out.lt;clear hit hb9;go_upto_region 19 with ((refine wpList_store_pg rfl _ _ rfl (w4.heap.size) _ rfl rfl HA9.out rfl rfl rfl ?_); intro w10 hset10 hbut10; have HN10 := keep hset10; have HB10_ := keep hbut10; clear hset10 hbut10);have HR10 := keep (HR9.out.but HB10_.out (by omega));have HP10 := keep (HP9.out.but HB10_.out (by omega));have HO10 := keep (HB9.out.but HB10_.out (by omega));have HE10 := keep (HE9.out.but HB10_.out (by omega));have HIo10 := keep (itemsC_but HIb9.out HB10_.out HA9.out (by decide));have HIn10 := keep (itemsC_but HIn9.out HB10_.out HA9.out (by decide));have HG10 := keep (But.below HG9.out HB10_.out (by omega) HG9.out.size);clear HR9 HP9 HA9 HB9 HE9 HIa9 HIb9 HB10_ HIn9
   by_cases hcz : HAc = 0
   ·subst hcz;have hA10 := HN10.out;have hB10 := HO10.out
    try unfold pgCells at hA10
    try unfold pgCells at hB10
    obtain ⟨a0, a1, a2, a3, a4, a5, _⟩ := pgres hA10;obtain ⟨b0, b1, b2, b3, b4, b5, _⟩ := pgres hB10;clear hA10 hB10
    obtain ⟨hII, hgI⟩ := imgsC_new (w := w10) [(n, HA1, .slice ja HA1.items.length jc), (f0, B, .slice ba B.items.length bc)] 2 rfl (by
     intro x hx;rcases List.mem_cons.1 hx with rfl | hx
     ·exact ⟨HIn10.out, HFa.out (by trivial)⟩
     ·obtain rfl := List.mem_singleton.1 hx
      exact ⟨HIo10.out, small_fine ⟨(HRs.out (by trivial)).1, (HRs.out (by trivial)).2.1⟩⟩)
    have HII := keep hII;have HGI := keep hgI;clear hII hgI;go_wp2_with fail;refine (split_fn _ _ _ _).mono ?_;rintro x w12 ⟨rfl, hb12⟩;have HGx := keep (Grow.trans (Grow.trans HG10.out HGI.out) hb12);have HRx := keep (HR10.out.fits (Grow.trans HGI.out hb12));have HIx := keep (HII.out.fits hb12);unfold recG;clear hb12 a0 a1 a2 a3 a4 a5 b0 b1 b2 b3 b4 b5;go_wp2_with ((refine wpList_store_rec rfl _ _ rfl (w_.heap.size + 1) _ rfl rfl HRx.out rfl rfl rfl ?_); intro wz hset hbz; have Hset := keep hset; have Hbut := keep hbz; clear hset hbz);have hyz : growC n 1 f0 f0 true A B false (HA1, HAe, 0) (HB1, HBe, HBc) (RQ, rc) = ((5, 0, [], [(n, HA1), (f0, B)]), 0) := by
     unfold growC;rw [if_neg (by decide), if_neg (by simp), if_pos rfl]
     rfl
    have HE := keep hyz;clear hyz;refine bodyPost_ret (v := .tuple #[recG 5 0 ⟨#[]⟩ (.slice (some ⟨w10.heap.size, 0, none⟩) 2 2), .int .i64 0]) ?_ rfl (by rw [HE.out]; exact ⟨.slice (some ⟨w10.heap.size, 0, none⟩) 2 2, [(n, HA1, .slice ja HA1.items.length jc), (f0, B, .slice ba B.items.length bc)], rfl, rfl, imgsC_but HIx.out Hbut.out HRx.out (by decide) (by decide), But.below HGx.out Hbut.out (by omega) HGx.out.size, fun h => by cases h⟩);exact enter_res _ _ _ _ _ _ _ _ rfl rfl Hset.out
   ·have hcz2 : (HAc != 0) = true := by simp [hcz]
    have hyz : growC n 1 f0 f0 true A B false (HA1, HAe, HAc) (HB1, HBe, HBc) (RQ, rc) = rc0 121 := by
     unfold growC;rw [if_neg (by decide), if_pos (by exact hcz)]
    have HE := keep hyz;clear hcz hyz;go_wp2_with ((refine wpList_store_rec rfl _ _ rfl (w_.heap.size + 1) _ rfl rfl HR10.out rfl rfl rfl ?_); intro wz hset hbz; have Hset := keep hset; have Hbut := keep hbz; clear hset hbz);refine bodyPost_ret (v := .tuple #[recG 0 0 ⟨#[]⟩ (.slice none 0 0), .int .i64 121]) ?_ rfl (by rw [HE.out]; exact (recPostC_nil rfl (But.below HG10.out Hbut.out (by omega) (HG10.out).size)));exact enter_res _ _ _ _ _ _ _ _ rfl rfl Hset.out
  | true =>
   go_wp2_with fail;refine (HLb.out w8 _ (small_in (HRs.out (by trivial)) (by rw [HRl0.out]; omega) HIb8.out.1.weak) HIb8.out.2).mono ?_;rintro x w9 ⟨jv, rfl, hit, hb9⟩;obtain ⟨ja, jc, rfl⟩ := itemsS_form hit.1;clear a0 a1 a2 a3 a4 a5 b0 b1 b2 b3 b4 b5;have HR9 := keep (HR8.out.fits hb9);have HP9 := keep (HP8.out.fits hb9);have HA9 := keep (HA8.out.fits hb9);have HB9 := keep (HB8.out.fits hb9);have HE9 := keep (HE8.out.fits hb9);have HIa9 := keep (HIa8.out.fits hb9);have HIb9 := keep (HIb8.out.fits hb9);clear HR8 HP8 HA8 HB8 HE8 HIa8 HIb8;have HG9 := keep (Grow.trans HG8.out hb9);have HIn9 := keep hit;have hzl := HE5.out.lt;have hzw : w4.heap.size + 2 < w9.heap.size := HE9.out.lt;clear hit hb9;go_upto_region 19 with ((refine wpList_store_pg rfl _ _ rfl (w4.heap.size + 1) _ rfl rfl HB9.out rfl rfl rfl ?_); intro w10 hset10 hbut10; have HN10 := keep hset10; have HB10_ := keep hbut10; clear hset10 hbut10);have HR10 := keep (HR9.out.but HB10_.out (by omega));have HP10 := keep (HP9.out.but HB10_.out (by omega));have HO10 := keep (HA9.out.but HB10_.out (by omega));have HE10 := keep (HE9.out.but HB10_.out (by omega));have HIo10 := keep (itemsC_but HIa9.out HB10_.out HB9.out (by decide));have HIn10 := keep (itemsC_but HIn9.out HB10_.out HB9.out (by decide));have HG10 := keep (But.below HG9.out HB10_.out (by omega) HG9.out.size);clear HR9 HP9 HA9 HB9 HE9 HIa9 HIb9 HB10_ HIn9
   by_cases hcz : HBc = 0
   ·subst hcz;have hA10 := HO10.out;have hB10 := HN10.out
    try unfold pgCells at hA10
    try unfold pgCells at hB10
    obtain ⟨a0, a1, a2, a3, a4, a5, _⟩ := pgres hA10;obtain ⟨b0, b1, b2, b3, b4, b5, _⟩ := pgres hB10;clear hA10 hB10
    obtain ⟨hII, hgI⟩ := imgsC_new (w := w10) [(n, A, .slice aa A.items.length ac), (f0, HB1, .slice ja HB1.items.length jc)] 2 rfl (by
     intro x hx;rcases List.mem_cons.1 hx with rfl | hx
     ·exact ⟨HIo10.out, small_fine ⟨(HLs.out (by trivial)).1, (HLs.out (by trivial)).2.1⟩⟩
     ·obtain rfl := List.mem_singleton.1 hx
      exact ⟨HIn10.out, HFb.out (by trivial)⟩)
    have HII := keep hII;have HGI := keep hgI;clear hII hgI;go_wp2_with fail;refine (split_fn _ _ _ _).mono ?_;rintro x w12 ⟨rfl, hb12⟩;have HGx := keep (Grow.trans (Grow.trans HG10.out HGI.out) hb12);have HRx := keep (HR10.out.fits (Grow.trans HGI.out hb12));have HIx := keep (HII.out.fits hb12);unfold recG;clear hb12 a0 a1 a2 a3 a4 a5 b0 b1 b2 b3 b4 b5;go_wp2_with ((refine wpList_store_rec rfl _ _ rfl (w_.heap.size + 1) _ rfl rfl HRx.out rfl rfl rfl ?_); intro wz hset hbz; have Hset := keep hset; have Hbut := keep hbz; clear hset hbz);have hyz : growC n 1 f0 f0 true A B true (HA1, HAe, HAc) (HB1, HBe, 0) (RQ, rc) = ((5, 0, [], [(n, A), (f0, HB1)]), 0) := by
     unfold growC;rw [if_neg (by decide), if_neg (by simp), if_pos rfl]
     rfl
    have HE := keep hyz;clear hyz;refine bodyPost_ret (v := .tuple #[recG 5 0 ⟨#[]⟩ (.slice (some ⟨w10.heap.size, 0, none⟩) 2 2), .int .i64 0]) ?_ rfl (by rw [HE.out]; exact ⟨.slice (some ⟨w10.heap.size, 0, none⟩) 2 2, [(n, A, .slice aa A.items.length ac), (f0, HB1, .slice ja HB1.items.length jc)], rfl, rfl, imgsC_but HIx.out Hbut.out HRx.out (by decide) (by decide), But.below HGx.out Hbut.out (by omega) HGx.out.size, fun h => by cases h⟩);exact enter_res _ _ _ _ _ _ _ _ rfl rfl Hset.out
   ·have hcz2 : (HBc != 0) = true := by simp [hcz]
    have hyz : growC n 1 f0 f0 true A B true (HA1, HAe, HAc) (HB1, HBe, HBc) (RQ, rc) = rc0 121 := by
     unfold growC;rw [if_neg (by decide), if_pos (by exact hcz)]
    have HE := keep hyz;clear hcz hyz;go_wp2_with ((refine wpList_store_rec rfl _ _ rfl (w_.heap.size + 1) _ rfl rfl HR10.out rfl rfl rfl ?_); intro wz hset hbz; have Hset := keep hset; have Hbut := keep hbz; clear hset hbz);refine bodyPost_ret (v := .tuple #[recG 0 0 ⟨#[]⟩ (.slice none 0 0), .int .i64 121]) ?_ rfl (by rw [HE.out]; exact (recPostC_nil rfl (But.below HG10.out Hbut.out (by omega) (HG10.out).size)));exact enter_res _ _ _ _ _ _ _ _ rfl rfl Hset.out
set_option maxRecDepth 100000 in
set_option maxHeartbeats 16000000 in
theorem enter_few2 (P : Pg) (iv : Value) (n : Int) (item : List UInt8) (fr : List Int) (fv : Value) (w_ : World) (hin : PgIn w_ iv P) (_hcap : Capd iv) (hs : (item.length : Int) <= 140737488355328) (hf : Ints w_ fv fr) (hfl : (fr.length : Int) <= 4611686018427387904) (_hc : (layN P item).2.2 = 3) (hk : needN P n item = (2, 0)) (ha : apartN fr 2 = false) :
  Calls Tryz.prog 150 #[pgV P iv, .int .i64 n, .string (str item), fv] w_ (RecPostC (enterN P n item fr) w_) := by
 obtain ⟨w0, hw0⟩ : ∃ w0, w0 = (w_.alloc (.cells (pgCells P iv).toArray 28)).alloc (.cells #[.int .i64 0, .int .i64 0, .int .i64 0, .int .u8 0, .int .i64 0, .int .i64 0, .int .i64 0, .int .i64 0, .int .i64 0, .int .i64 0, .string ⟨#[]⟩, .slice none 0 0, .slice none 0 0, .slice none 0 0, .slice none 0 0, .slice none 0 0] 71) := ⟨_, rfl⟩;obtain ⟨hg0, hP0, hR0⟩ := pr_new P iv w_ w0 hw0;have hnd := need_any P iv n item w0 (hin.fits hg0) hs;have hap := fun (u : World) (hu : Grow w_ u) => apart_any fr fv 2 u (hf.fits hu) hfl
 have hap : ∀ u, Grow w_ u -> Calls Tryz.prog 203 #[fv, .int .i64 2] u fun x w' => x = .returned (.bool (apartN fr 2)) /\ Below u.heap.size u w' := hap
 have hy : enterN P n item fr = rc0 1 := by unfold enterN; rw [hk, if_neg (fun h => h rfl), if_pos ha]
 unfold NeedPost at hnd;rw [hk] at hnd;rw [ha] at hap;rw [hy];unfold pgV at hnd;have HNd := keep hnd;have HAp := keep hap;have HR0 := keep hR0;have HG0 := keep hg0;have HP0 := keep hP0;clear hnd hap hy hin _hcap hf hk _hc ha hR0 hg0;unfold pgCells at hw0 hP0;obtain ⟨p0, p1, p2, p3, p4, p5, _⟩ := pgres hP0;clear hP0;unfold pgV;go_enter Tryz.func150, Tryz.ntmps150;go_upto_region 1 with fail;rw [<- hw0];clear hw0;go_wp2_with fail;refine HNd.out.mono ?_;rintro x w1 ⟨rfl, hb1⟩;clear p0 p1 p2 p3 p4 p5 HNd;have HG1 := keep (Grow.trans HG0.out hb1);have HR1 := keep (HR0.out.fits hb1);clear hb1;go_wp2_with fail;refine (HAp.out w1 HG1.out).mono ?_;rintro x w2 ⟨rfl, hb2⟩;have HG2 := keep (Grow.trans HG1.out hb2);have HR2 := keep (HR1.out.fits hb2);clear hb2 HAp;go_wp2_with ((refine wpList_store_rec rfl _ _ rfl (w_.heap.size + 1) _ rfl rfl HR2.out rfl rfl rfl ?_); intro wz hset hbz; have Hset := keep hset; have Hbut := keep hbz; clear hset hbz);refine bodyPost_ret (v := .tuple #[recG 0 0 ⟨#[]⟩ (.slice none 0 0), .int .i64 1]) ?_ rfl ( (recPostC_nil rfl (But.below HG2.out Hbut.out (by omega) (HG2.out).size)));exact enter_res _ _ _ _ _ _ _ _ rfl rfl Hset.out
set_option maxRecDepth 100000 in
set_option maxHeartbeats 16000000 in
theorem enter_split2 (P : Pg) (iv : Value) (n : Int) (item : List UInt8) (fr : List Int) (fv : Value) (w_ : World) (hin : PgIn w_ iv P) (hcap : Capd iv) (hs : (item.length : Int) <= 140737488355328) (hf : Ints w_ fv fr) (hfl : (fr.length : Int) <= 4611686018427387904) (hc : (layN P item).2.2 = 3) (hk : needN P n item = (2, 0)) (ha : apartN fr 2 = true) :
  Calls Tryz.prog 150 #[pgV P iv, .int .i64 n, .string (str item), fv] w_ (RecPostC (enterN P n item fr) w_) := by
 obtain ⟨w0, hw0⟩ : ∃ w0, w0 = (w_.alloc (.cells (pgCells P iv).toArray 28)).alloc (.cells #[.int .i64 0, .int .i64 0, .int .i64 0, .int .u8 0, .int .i64 0, .int .i64 0, .int .i64 0, .int .i64 0, .int .i64 0, .int .i64 0, .string ⟨#[]⟩, .slice none 0 0, .slice none 0 0, .slice none 0 0, .slice none 0 0, .slice none 0 0] 71) := ⟨_, rfl⟩;obtain ⟨hg0, hP0, hR0⟩ := pr_new P iv w_ w0 hw0;have hnd := need_any P iv n item w0 (hin.fits hg0) hs;have hap := fun (u : World) (hu : Grow w_ u) => apart_any fr fv 2 u (hf.fits hu) hfl
 have hap : ∀ u, Grow w_ u -> Calls Tryz.prog 203 #[fv, .int .i64 2] u fun x w' => x = .returned (.bool (apartN fr 2)) /\ Below u.heap.size u w' := hap
 have hop := lay_open hc;have hfin := open_fine hop;have hlv1 := wrap_level hfin.2.2.2.1 hfin.2.2.2.2.1;have hlen : fr.length = 2 := by
  unfold apartN at ha;simp only [Bool.and_eq_true, decide_eq_true_eq] at ha;have := ha.1.1;omega
 have hy : enterN P n item fr = growN P n item (fr.getD 0 0) (fr.getD 1 0) 2 := by unfold enterN; rw [hk, if_neg (fun h => h rfl), if_neg (by rw [ha]; decide), if_neg (by decide)]; rfl
 obtain ⟨cf, of, capf, ef, hcf0⟩ := ints_at hf (show 0 < fr.length by omega);obtain ⟨cf', of', capf', ef', hcf1⟩ := ints_at hf (show 1 < fr.length by omega);rw [ef] at ef';simp only [Value.slice.injEq, Option.some.injEq, Addr.mk.injEq] at ef';obtain ⟨⟨rfl, rfl, _⟩, _, rfl⟩ := ef';have hin2 : PgIn w_ iv (lsn0 P) := ⟨hin.1, hin.2.1, hin.2.2.1, hin.2.2.2.1, by simp [lsn0]⟩;have hlc := lay_lsn0 item hop;have hlp := fun (u : World) (hu : Grow w_ u) => lay_any (lsn0 P) iv item u (hin2.fits hu) hs
 unfold LayN LayPost at hlp;have z0 : fr.getD 0 0 = fr[0] := getD_at (by omega);have z1 : fr.getD 1 0 = fr[1] := getD_at (by omega);have hsp := fun (u : World) (hu : Grow w_ u) (h : splitOk (lsn0 P) (fr.getD 1 0) = true) => split_any (lsn0 P) iv (fr.getD 1 0) u (hin2.fits hu) hcap h
 have hsn := fun (u : World) (hu : Grow w_ u) (h : splitOk (lsn0 P) (fr.getD 1 0) = false) => split_no (lsn0 P) iv (fr.getD 1 0) u (hin2.fits hu) h
 have hls := fun (h : splitOk (lsn0 P) (fr.getD 1 0) = true) => left_small h
 have hrs := fun (h : splitOk (lsn0 P) (fr.getD 1 0) = true) => right_small h
 have hl0 : (leftG (lsn0 P) (fr.getD 1 0)).lsn = 0 := rfl;have hr0 : (rightG (lsn0 P)).lsn = 0 := rfl;unfold NeedPost at hnd;rw [hk] at hnd;rw [ha] at hap;rw [hy];unfold growN;rw [z0] at *;rw [z1] at *;generalize fr[0] = f0 at *;generalize fr[1] = f1 at *;have hbe := fun (u : World) (av : Value) (h : PgIn u av (leftG (lsn0 P) f1)) => beyond_node (leftG (lsn0 P) f1) av (layN (lsn0 P) item).2.1 u h
 have hla := fun (u : World) (av : Value) (h : PgIn u av (leftG (lsn0 P) f1)) (hv : Capd av) => lay_any (leftG (lsn0 P) f1) av item u h hs
 have hlb := fun (u : World) (av : Value) (h : PgIn u av (rightG (lsn0 P))) (hv : Capd av) => lay_any (rightG (lsn0 P)) av item u h hs
 have hrt := fun (u : World) => root_any (P.level + 1) f0 (borderG (lsn0 P)) f1 u
 have hfa := fun (h : splitOk (lsn0 P) f1 = true) => (lay_imFine (item := item) ⟨(hls h).1, (hls h).2.1⟩ : imFine (layN (leftG (lsn0 P) f1) item).1)
 have hfb := fun (h : splitOk (lsn0 P) f1 = true) => (lay_imFine (item := item) ⟨(hrs h).1, (hrs h).2.1⟩ : imFine (layN (rightG (lsn0 P)) item).1)
 have hfr := root_fine (P.level + 1) f0 (borderG (lsn0 P)) f1;unfold LayN LayPost at hla hlb;unfold PgPost at hrt;have hlv0 : (lsn0 P).level = P.level := rfl;have hPc : [.int .i64 0, .int .i64 P.kind, .int .i64 P.level, .int .i64 P.right, .string (str P.high), iv] = pgCells (lsn0 P) iv := rfl;rw [hlen] at ef;generalize lsn0 P = P' at *;generalize layN P' item = XX at *;obtain ⟨Xq, Xe, Xc⟩ := XX;generalize beyondN (leftG P' f1) (Xq, Xe, Xc).2.1 = BY at *;obtain ⟨out, outc⟩ := BY;generalize splitOk P' f1 = sp at *;generalize layN (leftG P' f1) item = HA at *;generalize layN (rightG P') item = HB at *;generalize rootN (P.level + 1) f0 (borderG P') f1 = RT at *;generalize leftG P' f1 = A at *;generalize rightG P' = B at *;generalize borderG P' = E at *;obtain ⟨HA1, HAe, HAc⟩ := HA;obtain ⟨HB1, HBe, HBc⟩ := HB;obtain ⟨RQ, rc⟩ := RT;obtain ⟨ek, ep, es⟩ := E;obtain ⟨xk, xp, xs_⟩ := Xe
 try dsimp only at hlp
 try dsimp only at hbe
 try dsimp only at hla
 try dsimp only at hlb
 try dsimp only at hrt
 try dsimp only at hfa
 try dsimp only at hfb
 try dsimp only at hfr
 unfold SplitOwn at hsp;unfold SplitPost at hsn;unfold pgV at hnd hlp hbe hla hlb hsp hsn;unfold enV at hlp hbe hla hlb hrt hsp hsn
 try dsimp only at hlp
 try dsimp only at hbe
 try dsimp only at hla
 try dsimp only at hlb
 try dsimp only at hrt
 try dsimp only at hsp
 try dsimp only at hsn
 clear hy hlen hfin hk hc ha hlc hin2 hin hop hf hfl z0 z1;have HNd := keep hnd;have HAp := keep hap;have HLp := keep hlp;have HSp := keep hsp;have HSn := keep hsn;have HBe := keep hbe;have HLa := keep hla;have HLb := keep hlb;have HRt := keep hrt;have HFa := keep hfa;have HFb := keep hfb;have HFr := keep hfr;have HLs := keep hls;have HRs := keep hrs;have HL0 := keep hl0;have HRl0 := keep hr0;have HLv1 := keep hlv1;have HLvP := keep hlv0;have HPc := keep hPc;have HF0 := keep hcf0;have HF1 := keep hcf1;have HR0 := keep hR0;have HG0 := keep hg0;have HP0 := keep hP0;clear hnd hap hlp hsp hsn hbe hla hlb hrt hfa hfb hfr hls hrs hl0 hr0 hlv0 hlv1 hPc hcf0 hcap hcf1  hR0 hg0;unfold pgCells at hw0 hP0;obtain ⟨p0, p1, p2, p3, p4, p5, _⟩ := pgres hP0;clear hP0;unfold pgV;subst ef;go_enter Tryz.func150, Tryz.ntmps150;go_upto_region 1 with fail;rw [<- hw0];clear hw0;go_wp2_with fail;refine HNd.out.mono ?_;rintro x w1 ⟨rfl, hb1⟩;clear p0 p1 p2 p3 p4 p5 HNd;have HG1 := keep (Grow.trans HG0.out hb1);have HR1 := keep (HR0.out.fits hb1);have HP1 := keep (HP0.out.fits hb1);clear hb1 HP0 HR0;go_wp2_with fail;refine (HAp.out w1 HG1.out).mono ?_;rintro x w2 ⟨rfl, hb2⟩;have HG2 := keep (Grow.trans HG1.out hb2);have HR2 := keep (HR1.out.fits hb2);have hP2 := HP1.out.fits hb2;have HP2 := keep hP2;unfold pgCells at hP2;obtain ⟨p0, p1, p2, p3, p4, p5, f0_, _⟩ := pgres hP2;clear hb2 HAp HP1 HR1 hP2;go_upto_region 9 with fail;clear p0 p1 p2 p3 p4 p5 f0_
 obtain ⟨w3, hw3⟩ : ∃ w3, w3 = w2.setCell ⟨w_.heap.size, 0, none⟩ (.int .i64 0) := ⟨_, rfl⟩;have hP3 : Blk w3 w_.heap.size 28 (pgCells P' iv) := by rw [<- HPc.out, hw3]; exact HP2.out.set 0 (.int .i64 0)
 have hbt3 : But w_.heap.size w2 w3 := by rw [hw3]; exact (But.refl _ _).setCell 0 _
 rw [<- hw3];have HP3 := keep hP3;have HG3 := keep (But.below HG2.out hbt3 (Nat.le_refl _) HG2.out.size);have HR3 := keep (HR2.out.but hbt3 (by omega));have d0 := (HF1.out w3 HG3.out);clear hw3 hP3 hbt3 HP2 HR2;unfold pgCells at HP3;obtain ⟨p0, p1, p2, p3, p4, p5, _⟩ := pgres HP3.out;go_wp2_with fail;cases sp with
 | false =>
  refine (HSn.out w3 HG3.out rfl).mono ?_;rintro x w4 ⟨av, bv, rfl, hia, hib, hb4⟩;obtain ⟨aa, ac, rfl⟩ := itemsS_form hia.1;obtain ⟨ba, bc, rfl⟩ := itemsS_form hib.1;have HG4 := keep (Grow.trans HG3.out hb4);have HR4 := keep (HR3.out.fits hb4);clear p0 p1 p2 p3 p4 p5 d0 hia hib hb4;go_upto_region 11 with fail;obtain ⟨w5, hw5⟩ : ∃ w5, w5 = ((w4.alloc (.cells #[.int .i64 zeroP.lsn, .int .i64 zeroP.kind, .int .i64 zeroP.level, .int .i64 zeroP.right, .string (str zeroP.high), .slice aa zeroP.items.length ac] 28)).alloc (.cells #[.int .i64 zeroP.lsn, .int .i64 zeroP.kind, .int .i64 zeroP.level, .int .i64 zeroP.right, .string (str zeroP.high), .slice ba zeroP.items.length bc] 28)).alloc (.cells #[.string (str leastE.1), .int .i64 leastE.2.1, .int .i64 leastE.2.2] 103) := ⟨_, rfl⟩;have HG5 := keep (show Grow w_ w5 by subst hw5; exact ((HG4.out.alloc _).alloc _).alloc _);have HR5 := keep (show Blk w5 _ _ _ by subst hw5; exact ((HR4.out.alloc _).alloc _).alloc _);rw [<- hw5];clear hw5;go_wp2_with ((refine wpList_store_rec rfl _ _ rfl (w_.heap.size + 1) _ rfl rfl HR5.out rfl rfl rfl ?_); intro wz hset hbz; have Hset := keep hset; have Hbut := keep hbz; clear hset hbz);refine bodyPost_ret (v := .tuple #[recG 0 0 ⟨#[]⟩ (.slice none 0 0), .int .i64 140]) ?_ rfl ( (recPostC_nil rfl (But.below HG5.out Hbut.out (by omega) (HG5.out).size)));exact enter_res _ _ _ _ _ _ _ _ rfl rfl Hset.out
 | true =>
  refine (HSp.out w3 HG3.out rfl).mono ?_;rintro x w4 ⟨av, bv, rfl, hoa, hob, hb4⟩;have hia := hoa.items;have hib := hob.items;obtain ⟨aa, ac, rfl⟩ := itemsS_form hia.1;obtain ⟨ba, bc, rfl⟩ := itemsS_form hib.1;have HG4 := keep (Grow.trans HG3.out hb4);have HR4 := keep (HR3.out.fits hb4);have HP4 := keep (HP3.out.fits hb4);have hz4 := HR4.out.lt;clear p0 p1 p2 p3 p4 p5 d0 hoa hob HR3 HP3;go_upto_region 11 with fail;obtain ⟨w5, hw5⟩ : ∃ w5, w5 = ((w4.alloc (.cells #[.int .i64 A.lsn, .int .i64 A.kind, .int .i64 A.level, .int .i64 A.right, .string (str A.high), .slice aa A.items.length ac] 28)).alloc (.cells #[.int .i64 B.lsn, .int .i64 B.kind, .int .i64 B.level, .int .i64 B.right, .string (str B.high), .slice ba B.items.length bc] 28)).alloc (.cells #[.string (str ek), .int .i64 ep, .int .i64 es] 103) := ⟨_, rfl⟩;have hg5 : Grow w4 w5 := by subst hw5; exact (((Grow.refl _).alloc _).alloc _).alloc _
  have hA5 : Blk w5 w4.heap.size 28 (pgCells A (.slice aa A.items.length ac)) := by subst hw5; exact ((Blk.new w4 _ [.int .i64 A.lsn, .int .i64 A.kind, .int .i64 A.level, .int .i64 A.right, .string (str A.high), .slice aa A.items.length ac]).alloc _).alloc _
  have hB5 : Blk w5 (w4.heap.size + 1) 28 (pgCells B (.slice ba B.items.length bc)) := by
   have := (Blk.new (w4.alloc (.cells #[.int .i64 A.lsn, .int .i64 A.kind, .int .i64 A.level, .int .i64 A.right, .string (str A.high), .slice aa A.items.length ac] 28)) 28 [.int .i64 B.lsn, .int .i64 B.kind, .int .i64 B.level, .int .i64 B.right, .string (str B.high), .slice ba B.items.length bc]).alloc (.cells #[.string (str ek), .int .i64 ep, .int .i64 es] 103);rw [show (w4.alloc (.cells #[.int .i64 A.lsn, .int .i64 A.kind, .int .i64 A.level, .int .i64 A.right, .string (str A.high), .slice aa A.items.length ac] 28)).heap.size = w4.heap.size + 1 by simp] at this;subst hw5; exact this
  have hE5 : Blk w5 (w4.heap.size + 2) 103 [.string (str ek), .int .i64 ep, .int .i64 es] := by
   have := Blk.new ((w4.alloc (.cells #[.int .i64 A.lsn, .int .i64 A.kind, .int .i64 A.level, .int .i64 A.right, .string (str A.high), .slice aa A.items.length ac] 28)).alloc (.cells #[.int .i64 B.lsn, .int .i64 B.kind, .int .i64 B.level, .int .i64 B.right, .string (str B.high), .slice ba B.items.length bc] 28)) 103 [.string (str ek), .int .i64 ep, .int .i64 es];rw [show ((w4.alloc (.cells #[.int .i64 A.lsn, .int .i64 A.kind, .int .i64 A.level, .int .i64 A.right, .string (str A.high), .slice aa A.items.length ac] 28)).alloc (.cells #[.int .i64 B.lsn, .int .i64 B.kind, .int .i64 B.level, .int .i64 B.right, .string (str B.high), .slice ba B.items.length bc] 28)).heap.size = w4.heap.size + 2 by simp] at this;subst hw5; exact this
  rw [<- hw5];have HG5 := keep (Grow.trans HG4.out hg5);have HR5 := keep (HR4.out.fits hg5);have HP5 := keep (HP4.out.fits hg5);have HA5 := keep hA5;have HB5 := keep hB5;have HE5 := keep hE5;have HIa5 := keep ((hia.fits hg5));have HIb5 := keep ((hib.fits hg5));have hz5 := hE5.lt;clear hw5 hg5 hA5 hB5 hE5 hia hib hb4 HR4 HP4;obtain ⟨p0, p1, p2, p3, p4, p5, _⟩ := pgres HP5.out;go_wp2_with fail;refine (HLp.out w5 HG5.out).mono ?_;rintro x w6 ⟨jv, rfl, hit, hb6⟩;obtain ⟨ja, jc, rfl⟩ := itemsS_form hit.1;clear p0 p1 p2 p3 p4 p5 hit HLp;go_upto_region 14 with fail;obtain ⟨w7, hw7⟩ : ∃ w7, w7 = (w6.alloc (.cells #[.int .i64 Xq.lsn, .int .i64 Xq.kind, .int .i64 Xq.level, .int .i64 Xq.right, .string (str Xq.high), .slice ja Xq.items.length jc] 28)).alloc (.cells #[.string (str xk), .int .i64 xp, .int .i64 xs_] 103) := ⟨_, rfl⟩;have hg7 : Grow w5 w7 := by subst hw7; exact Grow.alloc (Grow.alloc hb6 _) _
  have hX7 : Blk w7 (w6.heap.size + 1) 103 [.string (str xk), .int .i64 xp, .int .i64 xs_] := by
   have := Blk.new (w6.alloc (.cells #[.int .i64 Xq.lsn, .int .i64 Xq.kind, .int .i64 Xq.level, .int .i64 Xq.right, .string (str Xq.high), .slice ja Xq.items.length jc] 28)) 103 [.string (str xk), .int .i64 xp, .int .i64 xs_];rw [show (w6.alloc (.cells #[.int .i64 Xq.lsn, .int .i64 Xq.kind, .int .i64 Xq.level, .int .i64 Xq.right, .string (str Xq.high), .slice ja Xq.items.length jc] 28)).heap.size = w6.heap.size + 1 by simp] at this;subst hw7; exact this
  rw [<- hw7];have HR7 := keep (HR5.out.fits hg7);have HP7 := keep (HP5.out.fits hg7);have HA7 := keep (HA5.out.fits hg7);have HB7 := keep (HB5.out.fits hg7);have HE7 := keep (HE5.out.fits hg7);have HIa7 := keep (HIa5.out.fits hg7);have HIb7 := keep (HIb5.out.fits hg7);clear HR5 HP5 HA5 HB5 HIa5 HIb5;have HG7 := keep (Grow.trans HG5.out hg7);have hA7 := HA7.out;unfold pgCells at hA7;obtain ⟨a0, a1, a2, a3, a4, a5, _⟩ := pgres hA7;obtain ⟨e0, e1, e2, _⟩ := enres hX7;clear hw7 hg7 hb6 hX7 hA7;go_wp2_with fail;refine (HBe.out w7 _ (small_in (HLs.out (by trivial)) (by rw [HL0.out]; omega) HIa7.out.1.weak)).mono ?_;rintro x w8 ⟨rfl, hb8⟩;have HR8 := keep (HR7.out.fits hb8);have HP8 := keep (HP7.out.fits hb8);have HA8 := keep (HA7.out.fits hb8);have HB8 := keep (HB7.out.fits hb8);have HE8 := keep (HE7.out.fits hb8);have HIa8 := keep (HIa7.out.fits hb8);have HIb8 := keep (HIb7.out.fits hb8);clear HR7 HP7 HA7 HB7 HE7 HIa7 HIb7;have HG8 := keep (Grow.trans HG7.out hb8);have hA8 := HA8.out;have hB8 := HB8.out;unfold pgCells at hA8 hB8;clear a0 a1 a2 a3 a4 a5 e0 e1 e2 hb8 HBe;obtain ⟨a0, a1, a2, a3, a4, a5, _⟩ := pgres hA8;obtain ⟨b0, b1, b2, b3, b4, b5, _⟩ := pgres hB8;clear hA8 hB8;cases out with
  | false =>
   go_wp2_with fail;refine (HLa.out w8 _ (small_in (HLs.out (by trivial)) (by rw [HL0.out]; omega) HIa8.out.1.weak) HIa8.out.2).mono ?_;rintro x w9 ⟨jv, rfl, hit, hb9⟩;obtain ⟨ja, jc, rfl⟩ := itemsS_form hit.1;clear a0 a1 a2 a3 a4 a5 b0 b1 b2 b3 b4 b5;have HR9 := keep (HR8.out.fits hb9);have HP9 := keep (HP8.out.fits hb9);have HA9 := keep (HA8.out.fits hb9);have HB9 := keep (HB8.out.fits hb9);have HE9 := keep (HE8.out.fits hb9);have HIa9 := keep (HIa8.out.fits hb9);have HIb9 := keep (HIb8.out.fits hb9);clear HR8 HP8 HA8 HB8 HE8 HIa8 HIb8;have HG9 := keep (Grow.trans HG8.out hb9);have HIn9 := keep hit;have hzl := HE5.out.lt;have hzw : w4.heap.size + 2 < w9.heap.size := HE9.out.lt;clear hit hb9;go_upto_region 19 with ((refine wpList_store_pg rfl _ _ rfl (w4.heap.size) _ rfl rfl HA9.out rfl rfl rfl ?_); intro w10 hset10 hbut10; have HN10 := keep hset10; have HB10_ := keep hbut10; clear hset10 hbut10);have HR10 := keep (HR9.out.but HB10_.out (by omega));have HP10 := keep (HP9.out.but HB10_.out (by omega));have HO10 := keep (HB9.out.but HB10_.out (by omega));have HE10 := keep (HE9.out.but HB10_.out (by omega));have HIo10 := keep (itemsC_but HIb9.out HB10_.out HA9.out (by decide));have HIn10 := keep (itemsC_but HIn9.out HB10_.out HA9.out (by decide));have HG10 := keep (But.below HG9.out HB10_.out (by omega) HG9.out.size);clear HR9 HP9 HA9 HB9 HE9 HIa9 HIb9 HB10_ HIn9
   by_cases hcz : HAc = 0
   ·subst hcz;have HPf := keep (fun (u : World) (hu : Fill w10.heap.size 28 (GoodC RQ) w10.drew u) => Blk.below (Blk.drew HP10.out) hu.below HP10.out.lt);have HEf := keep (fun (u : World) (hu : Fill w10.heap.size 28 (GoodC RQ) w10.drew u) => Blk.below (Blk.drew HE10.out) hu.below HE10.out.lt);have HF0f := keep (fun (u : World) (hu : Fill w10.heap.size 28 (GoodC RQ) w10.drew u) => (HF0.out u (Grow.trans HG10.out (Grow.undrew hu.below)) : u.cell? ⟨cf, of + 0, none⟩ = some (.int .i64 f0)));simp only [Nat.add_zero] at HF0f;unfold pgCells at HPf;go_upto_region 23 with fail;refine wp_region_link_named (by kernel_rfl) 14 lk13 (Fill w10.heap.size 28 (GoodC RQ)) (Fill.refl _) (fun _ _ _ => Fill.trans (goodC_stays RQ)) (by kernel_rfl) (by kernel_rfl) [(101, 0), (102, 1), (103, 2), (104, 3), (105, 4), (106, 5), (107, 6), (108, 7), (109, 8), (100, 9), (110, 10), (111, 11), (22, 12)] (by kernel_rfl) [(0, true), (1, true), (2, true), (3, true), (4, true), (5, true), (6, true), (7, true), (8, true), (9, true), (10, true), (11, true), (12, true), (13, true)] (by kernel_rfl) rfl rfl ?_;intro a0 ha0;have hsz : a0.tmps.size = 129 := (size_at ha0).trans rfl;have s3 := slot_at ha0 3 rfl;have s4 := slot_at ha0 4 rfl;have s12 := slot_at ha0 12 rfl;have s15 := slot_at ha0 15 rfl;have HA0 := keep ha0;clear ha0
    apply lexkf_eq hsz [] [(103, 2), (104, 3), (105, 4), (106, 5), (107, 6), (108, 7), (109, 8), (100, 9), (110, 10), (111, 11), (22, 12)] none (by kernel_rfl) (by kernel_rfl) (by kernel_rfl) (by kernel_rfl) rfl rfl
    ·intro xs w hw hp K hK;go_simp;exact hK _ (Fill.refl _)
    apply lexkf_eq hsz [(0, true)] [(101, 0), (104, 3), (105, 4), (106, 5), (107, 6), (108, 7), (109, 8), (100, 9), (110, 10), (111, 11), (22, 12)] none (by kernel_rfl) (by kernel_rfl) (by kernel_rfl) (by kernel_rfl) rfl rfl
    ·intro xs w hw hp K hK;simp only [hzk, lk13, reduceIte, Nat.reduceEqDiff] at hp;obtain ⟨p0, p1, p2, p3, p4, p5, _⟩ := pgres (HPf.out w hw);go_simp;exact hK _ (Fill.refl _)
    apply lexkf_eq hsz [(1, true)] [(101, 0), (102, 1), (104, 3), (105, 4), (106, 5), (107, 6), (108, 7), (100, 9), (110, 10), (111, 11), (22, 12)] none (by kernel_rfl) (by kernel_rfl) (by kernel_rfl) (by kernel_rfl) rfl rfl
    ·intro xs w hw hp K hK;simp only [hzk, lk13, reduceIte, Nat.reduceEqDiff] at hp;have e1 := HLv1.out;have e2 := HLvP.out;go_simp;exact hK _ (Fill.refl _)
    apply lexkf_eq hsz [] [(101, 0), (102, 1), (103, 2), (106, 5), (107, 6), (108, 7), (109, 8), (100, 9), (110, 10), (111, 11), (22, 12)] none (by kernel_rfl) (by kernel_rfl) (by kernel_rfl) (by kernel_rfl) rfl rfl
    ·intro xs w hw hp K hK;go_simp;exact hK _ (Fill.refl _)
    apply lexkf_eq hsz [(3, true)] [(101, 0), (102, 1), (103, 2), (104, 3), (107, 6), (108, 7), (109, 8), (100, 9), (110, 10), (111, 11), (22, 12)] none (by kernel_rfl) (by kernel_rfl) (by kernel_rfl) (by kernel_rfl) rfl rfl
    ·intro xs w hw hp K hK;simp only [hzk, lk13, reduceIte, Nat.reduceEqDiff] at hp;go_simp;exact hK _ (Fill.refl _)
    apply lexkf_eq hsz [(4, true)] [(101, 0), (102, 1), (103, 2), (104, 3), (105, 4), (107, 6), (108, 7), (100, 9), (110, 10), (111, 11), (22, 12)] none (by kernel_rfl) (by kernel_rfl) (by kernel_rfl) (by kernel_rfl) rfl rfl
    ·intro xs w hw hp K hK;simp only [hzk, lk13, reduceIte, Nat.reduceEqDiff] at hp;have d0 := HF0f.out w hw;go_simp;exact hK _ (Fill.refl _)
    apply lexkf_eq hsz [] [(101, 0), (102, 1), (103, 2), (104, 3), (105, 4), (106, 5), (108, 7), (100, 9), (110, 10), (111, 11), (22, 12)] none (by kernel_rfl) (by kernel_rfl) (by kernel_rfl) (by kernel_rfl) rfl rfl
    ·intro xs w hw hp K hK;obtain ⟨c0, c1, c2, _⟩ := enres (HEf.out w hw);go_simp;exact hK _ (Fill.refl _)
    apply lexkf_eq hsz [] [(101, 0), (102, 1), (103, 2), (104, 3), (105, 4), (106, 5), (107, 6), (100, 9), (110, 10), (111, 11), (22, 12)] none (by kernel_rfl) (by kernel_rfl) (by kernel_rfl) (by kernel_rfl) rfl rfl
    ·intro xs w hw hp K hK;go_simp;exact hK _ (Fill.refl _)
    refine lexkf_says hsz (fun v u => ∃ iv, v = .tuple #[pgV RQ iv, .int .i64 rc] /\ ItemsC u iv RQ.items) (fun _ _ _ g h => h.elim fun iv h => ⟨iv, h.1, g.itemsC h.2⟩) [(2, true), (5, true), (6, true), (7, true)] [(101, 0), (102, 1), (103, 2), (104, 3), (105, 4), (106, 5), (107, 6), (108, 7), (110, 10), (111, 11), (22, 12)] none (by kernel_rfl) (by kernel_rfl) (by kernel_rfl) (by kernel_rfl) rfl rfl ?_ ?_
    ·intro xs w hw hp K hK;simp only [hzk, lk13, reduceIte, Nat.reduceEqDiff] at hp;go_simp;exact (HRt.out w).mono fun e w' ⟨iv, h1, h2, h3⟩ => ⟨_, h1, hK _ _ ⟨iv, rfl, h2⟩ (Fill.of_grow h3 hw.below.size)⟩
    refine lexkf_says hsz (fun v u => ∃ iv, v = .tuple #[pgV RQ iv, .int .i64 rc] /\ ItemsC u iv RQ.items) (fun _ _ _ g h => h.elim fun iv h => ⟨iv, h.1, g.itemsC h.2⟩) [(8, true)] [(101, 0), (102, 1), (103, 2), (104, 3), (105, 4), (106, 5), (107, 6), (108, 7), (109, 8), (22, 12)] none (by kernel_rfl) (by kernel_rfl) (by kernel_rfl) (by kernel_rfl) rfl rfl ?_ ?_
    ·intro xs w hw hp K hK;simp only [hzk, lk13, reduceIte, Nat.reduceEqDiff] at hp;obtain ⟨iv8, h8, hit⟩ := hp;go_simp;exact hK _ _ ⟨iv8, rfl, hit⟩ (Fill.refl _)
    refine lexkf_says hsz (fun v u => ∃ iv, v = pgV RQ iv /\ ItemsC u iv RQ.items) (fun _ _ _ g h => h.elim fun iv h => ⟨iv, h.1, g.itemsC h.2⟩) [(9, true)] [(101, 0), (102, 1), (103, 2), (104, 3), (105, 4), (106, 5), (107, 6), (108, 7), (109, 8), (100, 9), (111, 11), (22, 12)] none (by kernel_rfl) (by kernel_rfl) (by kernel_rfl) (by kernel_rfl) rfl rfl ?_ ?_
    ·intro xs w hw hp K hK;simp only [hzk, lk13, reduceIte, Nat.reduceEqDiff] at hp;obtain ⟨iv8, h8, hit⟩ := hp;go_simp;exact hK _ _ ⟨iv8, rfl, hit⟩ (Fill.refl _)
    refine lexkf_says hsz (fun v _ => v = .int .i64 rc) (fun _ _ _ _ h => h) [(9, true)] [(101, 0), (102, 1), (103, 2), (104, 3), (105, 4), (106, 5), (107, 6), (108, 7), (109, 8), (100, 9), (110, 10), (22, 12)] none (by kernel_rfl) (by kernel_rfl) (by kernel_rfl) (by kernel_rfl) rfl rfl ?_ ?_
    ·intro xs w hw hp K hK;simp only [hzk, lk13, reduceIte, Nat.reduceEqDiff] at hp;obtain ⟨iv8, h8, hit⟩ := hp;go_simp;exact hK _ _ rfl (Fill.refl _)
    refine lexkf_says hsz (fun v u => ∃ b, v = .pointer (some ⟨b, 0, none⟩) /\ w10.heap.size <= b /\ ∃ a0 a1 a2 a3 a4 a5, Blk u b 28 [a0, a1, a2, a3, a4, a5]) (fun _ _ _ g ⟨b, h1, h2, h3⟩ => ⟨b, h1, h2, fill_six g h3⟩) [] [(101, 0), (102, 1), (103, 2), (104, 3), (105, 4), (106, 5), (107, 6), (108, 7), (109, 8), (100, 9), (110, 10), (111, 11)] none (by kernel_rfl) (by kernel_rfl) (by kernel_rfl) (by kernel_rfl) rfl rfl ?_ ?_
    ·intro xs w hw hp K hK;go_simp;exact hK _ _ ⟨_, rfl, hw.below.size, _, _, _, _, _, _, Blk.new w _ [_, _, _, _, _, _]⟩ (Fill.of_grow ((Grow.refl w).alloc _) hw.below.size)
    refine lexkf_link hsz (fun v u => ∃ b, v = .pointer (some ⟨b, 0, none⟩) /\ w10.heap.size <= b /\ ∃ iv', Blk u b 28 (pgCells RQ iv') /\ ItemsC u iv' RQ.items) (fun _ _ _ hg ⟨b, h1, h2, iv', h3, h4⟩ => ⟨b, h1, h2, goodC_lasts hg h3 h4⟩) [(10, true), (12, true)] [(101, 0), (102, 1), (103, 2), (104, 3), (105, 4), (106, 5), (107, 6), (108, 7), (109, 8), (100, 9), (110, 10), (111, 11), (22, 12)] none (by kernel_rfl) (by kernel_rfl) (by kernel_rfl) (by kernel_rfl) rfl (by decide) ?_ ?_
    ·intro xs w hw hp K hK;simp only [hzk, lk13, reduceIte, Nat.reduceEqDiff] at hp;obtain ⟨⟨iv', h17, hit⟩, b, h19, hbN, a0_, a1_, a2_, a3_, a4_, a5_, hB⟩ := hp;obtain ⟨c0, c1, c2, c3, c4, c5, f0, f1, f2, f3, f4, f5⟩ := pgres hB;obtain ⟨iva', ivc', rfl⟩ := itemsS_form hit.1;have Hset := keep (pgset hB (.int .i64 RQ.lsn) (.int .i64 RQ.kind) (.int .i64 RQ.level) (.int .i64 RQ.right) (.string (str RQ.high)) (.slice iva' RQ.items.length ivc'));have Hbut := keep (pgbut w b (.int .i64 RQ.lsn) (.int .i64 RQ.kind) (.int .i64 RQ.level) (.int .i64 RQ.right) (.string (str RQ.high)) (.slice iva' RQ.items.length ivc'));have Hit2 := keep (itemsC_but hit Hbut.out hB (by decide));have HB := keep hB;unfold pgV at h17;clear hB hit;go_simp;exact hK _ _ ⟨b, h19, hbN, _, Hset.out, Hit2.out⟩ (Fill.but (cs' := pgCells RQ (.slice iva' RQ.items.length ivc')) Hbut.out hbN hw.below.size HB.out rfl Hset.out ⟨_, rfl, Hit2.out⟩)
    intro xs w hw hp;have ha0 := HA0.out;clear HA0 hsz s3 s4 s12 s15;simp only [hzk, lk13, reduceIte, Nat.reduceEqDiff] at hp;have hM := hp.2.2.2.2.2.2.2.2.2.2.2.1;obtain ⟨b, h19, hbN, ivQ, hQ, hiQ⟩ := hp.2.2.2.2.2.2.2.2.2.2.2.2.2;clear hp;subst ha0;simp only [putAll, hM, h19];have hwU := hw.undrew;obtain ⟨ra, rca, rfl⟩ := itemsS_form hiQ.1;have HG11 := keep (Grow.trans HG10.out hwU.below);have HR11 := keep (Blk.below HR10.out hwU.below HR10.out.lt);have HA11 := keep (Blk.below HN10.out hwU.below HN10.out.lt);have HB11 := keep (Blk.below HO10.out hwU.below HO10.out.lt);have HIa11 := keep (HIn10.out.fits hwU.below);have HIb11 := keep (HIo10.out.fits hwU.below);have HIr11 := keep hiQ;have HQ11 := keep hQ;have hzb : w10.heap.size <= b := hbN;generalize w = w11 at *;clear hw hwU h19 hQ hiQ HPf HEf HF0f hM
    by_cases hrc : rc = 0
    ·subst hrc;have HAg := keep (fun (u : World) (hu : Grow w11.drew u) => Blk.fits (Blk.drew HA11.out) hu);have HBg := keep (fun (u : World) (hu : Grow w11.drew u) => Blk.fits (Blk.drew HB11.out) hu);have HQg := keep (fun (u : World) (hu : Grow w11.drew u) => Blk.fits (Blk.drew HQ11.out) hu);have HF0g := keep (fun (u : World) (hu : Grow w11.drew u) => (HF0.out u (Grow.trans HG11.out (Grow.undrew hu)) : u.cell? ⟨cf, of + 0, none⟩ = some (.int .i64 f0)));simp only [Nat.add_zero] at HF0g;unfold pgCells at HQg
     try unfold pgCells at HAg
     try unfold pgCells at HBg
     go_upto_region 26 with fail;refine rgv 11 (by kernel_rfl) (by kernel_rfl) rfl rfl ?_;intro a0 ha0;have hsz : a0.tmps.size = 129 := (size_at ha0).trans rfl;have s1 := slot_at ha0 1 rfl;have s3 := slot_at ha0 3 rfl;have s12 := slot_at ha0 12 rfl;have s13 := slot_at ha0 13 rfl;have s14 := slot_at ha0 14 rfl;have s22 := slot_at ha0 22 rfl;have HA0 := keep ha0;clear ha0
     iterate 2
      apply lxv hsz Grow.refl (by kernel_rfl) rfl
      ·intro xs w hw K hK;go_simp;exact hK
     apply lxv hsz Grow.refl (by kernel_rfl) rfl
     ·intro xs w hw K hK;have d0 := HF0g.out w hw;go_simp;exact hK
     apply lxv hsz Grow.refl (by kernel_rfl) rfl
     ·intro xs w hw K hK;obtain ⟨a0, a1, a2, a3, a4, a5, _⟩ := pgres (HAg.out w hw);go_simp;exact hK
     iterate 2
      apply lxv hsz Grow.refl (by kernel_rfl) rfl
      ·intro xs w hw K hK;go_simp;exact hK
     apply lxv hsz Grow.refl (by kernel_rfl) rfl
     ·intro xs w hw K hK;obtain ⟨b0, b1, b2, b3, b4, b5, _⟩ := pgres (HBg.out w hw);go_simp;exact hK
     iterate 2
      apply lxv hsz Grow.refl (by kernel_rfl) rfl
      ·intro xs w hw K hK;go_simp;exact hK
     apply lxv hsz Grow.refl (by kernel_rfl) rfl
     ·intro xs w hw K hK;obtain ⟨q0, q1, q2, q3, q4, q5, _⟩ := pgres (HQg.out w hw);go_simp;exact hK
     apply lxv hsz Grow.refl (by kernel_rfl) rfl
     ·intro xs w hw K hK;go_simp;exact hK
     refine rgd [] (by kernel_rfl) rfl ?_;intro xs w hw hp;have ha0 := HA0.out;clear HA0 hsz s1 s3 s12 s13 s14 s22;clear hp;subst ha0;simp only [putV];have hwg : Grow w11 w := hw.undrew;have HG12 := keep (Grow.trans HG11.out hwg);have HR12 := keep (HR11.out.fits hwg);have hia12 := HIa11.out.fits hwg;have hib12 := HIb11.out.fits hwg;have hir12 := HIr11.out.fits hwg;generalize w = w12 at *;clear hw hwg HAg HBg HQg HF0g
     obtain ⟨hII, hgI⟩ := imgsC_new (w := w12) [(f0, HA1, .slice ja HA1.items.length jc), (f1, B, .slice ba B.items.length bc), (n, RQ, .slice ra RQ.items.length rca)] 3 rfl (by
      intro x hx;rcases List.mem_cons.1 hx with rfl | hx
      ·exact ⟨hia12, HFa.out (by trivial)⟩
      ·rcases List.mem_cons.1 hx with rfl | hx
       ·exact ⟨hib12, small_fine ⟨(HRs.out (by trivial)).1, (HRs.out (by trivial)).2.1⟩⟩
       ·obtain rfl := List.mem_singleton.1 hx
        exact ⟨hir12, HFr.out⟩)
     have HII := keep hII;have HGI := keep hgI;clear hII hgI hia12 hib12 hir12;go_wp2_with fail;refine (split_fn _ _ _ _).mono ?_;rintro x w13 ⟨rfl, hb13⟩;have HGx := keep (Grow.trans (Grow.trans HG12.out HGI.out) hb13);have HRx := keep (HR12.out.fits (Grow.trans HGI.out hb13));have HIx := keep (HII.out.fits hb13);unfold recG;clear hb13;go_wp2_with ((refine wpList_store_rec rfl _ _ rfl (w_.heap.size + 1) _ rfl rfl HRx.out rfl rfl rfl ?_); intro wz hset hbz; have Hset := keep hset; have Hbut := keep hbz; clear hset hbz);have hyz : growC n 2 f0 f1 true A B false (HA1, HAe, 0) (HB1, HBe, HBc) (RQ, 0) = ((5, 0, [], [(f0, HA1), (f1, B), (n, RQ)]), 0) := by
      unfold growC;rw [if_neg (by decide), if_neg (by simp), if_neg (by decide), if_neg (by simp)]
      rfl
     have HE := keep hyz;clear hyz;refine bodyPost_ret (v := .tuple #[recG 5 0 ⟨#[]⟩ (.slice (some ⟨w12.heap.size, 0, none⟩) 3 3), .int .i64 0]) ?_ rfl (by rw [HE.out]; exact ⟨.slice (some ⟨w12.heap.size, 0, none⟩) 3 3, [(f0, HA1, .slice ja HA1.items.length jc), (f1, B, .slice ba B.items.length bc), (n, RQ, .slice ra RQ.items.length rca)], rfl, rfl, imgsC_but HIx.out Hbut.out HRx.out (by decide) (by decide), But.below HGx.out Hbut.out (by omega) HGx.out.size, fun h => by cases h⟩);exact enter_res _ _ _ _ _ _ _ _ rfl rfl Hset.out
    ·have hrc2 : (rc != 0) = true := by simp [hrc]
     have hyz : growC n 2 f0 f1 true A B false (HA1, HAe, 0) (HB1, HBe, HBc) (RQ, rc) = rc0 rc := by
      unfold growC;rw [if_neg (by decide), if_neg (by simp), if_neg (by decide), if_pos hrc]
     have HE := keep hyz;clear hrc hyz;go_wp2_with ((refine wpList_store_rec rfl _ _ rfl (w_.heap.size + 1) _ rfl rfl HR11.out rfl rfl rfl ?_); intro wz hset hbz; have Hset := keep hset; have Hbut := keep hbz; clear hset hbz);refine bodyPost_ret (v := .tuple #[recG 0 0 ⟨#[]⟩ (.slice none 0 0), .int .i64 rc]) ?_ rfl (by rw [HE.out]; exact (recPostC_nil rfl (But.below HG11.out Hbut.out (by omega) (HG11.out).size)));exact enter_res _ _ _ _ _ _ _ _ rfl rfl Hset.out
   ·have hcz2 : (HAc != 0) = true := by simp [hcz]
    have hyz : growC n 2 f0 f1 true A B false (HA1, HAe, HAc) (HB1, HBe, HBc) (RQ, rc) = rc0 121 := by
     unfold growC;rw [if_neg (by decide), if_pos (by exact hcz)]
    have HE := keep hyz;clear hcz hyz;go_wp2_with ((refine wpList_store_rec rfl _ _ rfl (w_.heap.size + 1) _ rfl rfl HR10.out rfl rfl rfl ?_); intro wz hset hbz; have Hset := keep hset; have Hbut := keep hbz; clear hset hbz);refine bodyPost_ret (v := .tuple #[recG 0 0 ⟨#[]⟩ (.slice none 0 0), .int .i64 121]) ?_ rfl (by rw [HE.out]; exact (recPostC_nil rfl (But.below HG10.out Hbut.out (by omega) (HG10.out).size)));exact enter_res _ _ _ _ _ _ _ _ rfl rfl Hset.out
  | true =>
   go_wp2_with fail;refine (HLb.out w8 _ (small_in (HRs.out (by trivial)) (by rw [HRl0.out]; omega) HIb8.out.1.weak) HIb8.out.2).mono ?_;rintro x w9 ⟨jv, rfl, hit, hb9⟩;obtain ⟨ja, jc, rfl⟩ := itemsS_form hit.1;clear a0 a1 a2 a3 a4 a5 b0 b1 b2 b3 b4 b5;have HR9 := keep (HR8.out.fits hb9);have HP9 := keep (HP8.out.fits hb9);have HA9 := keep (HA8.out.fits hb9);have HB9 := keep (HB8.out.fits hb9);have HE9 := keep (HE8.out.fits hb9);have HIa9 := keep (HIa8.out.fits hb9);have HIb9 := keep (HIb8.out.fits hb9);clear HR8 HP8 HA8 HB8 HE8 HIa8 HIb8;have HG9 := keep (Grow.trans HG8.out hb9);have HIn9 := keep hit;have hzl := HE5.out.lt;have hzw : w4.heap.size + 2 < w9.heap.size := HE9.out.lt;clear hit hb9;go_upto_region 19 with ((refine wpList_store_pg rfl _ _ rfl (w4.heap.size + 1) _ rfl rfl HB9.out rfl rfl rfl ?_); intro w10 hset10 hbut10; have HN10 := keep hset10; have HB10_ := keep hbut10; clear hset10 hbut10);have HR10 := keep (HR9.out.but HB10_.out (by omega));have HP10 := keep (HP9.out.but HB10_.out (by omega));have HO10 := keep (HA9.out.but HB10_.out (by omega));have HE10 := keep (HE9.out.but HB10_.out (by omega));have HIo10 := keep (itemsC_but HIa9.out HB10_.out HB9.out (by decide));have HIn10 := keep (itemsC_but HIn9.out HB10_.out HB9.out (by decide));have HG10 := keep (But.below HG9.out HB10_.out (by omega) HG9.out.size);clear HR9 HP9 HA9 HB9 HE9 HIa9 HIb9 HB10_ HIn9
   by_cases hcz : HBc = 0
   ·subst hcz;have HPf := keep (fun (u : World) (hu : Fill w10.heap.size 28 (GoodC RQ) w10.drew u) => Blk.below (Blk.drew HP10.out) hu.below HP10.out.lt);have HEf := keep (fun (u : World) (hu : Fill w10.heap.size 28 (GoodC RQ) w10.drew u) => Blk.below (Blk.drew HE10.out) hu.below HE10.out.lt);have HF0f := keep (fun (u : World) (hu : Fill w10.heap.size 28 (GoodC RQ) w10.drew u) => (HF0.out u (Grow.trans HG10.out (Grow.undrew hu.below)) : u.cell? ⟨cf, of + 0, none⟩ = some (.int .i64 f0)));simp only [Nat.add_zero] at HF0f;unfold pgCells at HPf;go_upto_region 23 with fail;refine wp_region_link_named (by kernel_rfl) 14 lk13 (Fill w10.heap.size 28 (GoodC RQ)) (Fill.refl _) (fun _ _ _ => Fill.trans (goodC_stays RQ)) (by kernel_rfl) (by kernel_rfl) [(101, 0), (102, 1), (103, 2), (104, 3), (105, 4), (106, 5), (107, 6), (108, 7), (109, 8), (100, 9), (110, 10), (111, 11), (22, 12)] (by kernel_rfl) [(0, true), (1, true), (2, true), (3, true), (4, true), (5, true), (6, true), (7, true), (8, true), (9, true), (10, true), (11, true), (12, true), (13, true)] (by kernel_rfl) rfl rfl ?_;intro a0 ha0;have hsz : a0.tmps.size = 129 := (size_at ha0).trans rfl;have s3 := slot_at ha0 3 rfl;have s4 := slot_at ha0 4 rfl;have s12 := slot_at ha0 12 rfl;have s15 := slot_at ha0 15 rfl;have HA0 := keep ha0;clear ha0
    apply lexkf_eq hsz [] [(103, 2), (104, 3), (105, 4), (106, 5), (107, 6), (108, 7), (109, 8), (100, 9), (110, 10), (111, 11), (22, 12)] none (by kernel_rfl) (by kernel_rfl) (by kernel_rfl) (by kernel_rfl) rfl rfl
    ·intro xs w hw hp K hK;go_simp;exact hK _ (Fill.refl _)
    apply lexkf_eq hsz [(0, true)] [(101, 0), (104, 3), (105, 4), (106, 5), (107, 6), (108, 7), (109, 8), (100, 9), (110, 10), (111, 11), (22, 12)] none (by kernel_rfl) (by kernel_rfl) (by kernel_rfl) (by kernel_rfl) rfl rfl
    ·intro xs w hw hp K hK;simp only [hzk, lk13, reduceIte, Nat.reduceEqDiff] at hp;obtain ⟨p0, p1, p2, p3, p4, p5, _⟩ := pgres (HPf.out w hw);go_simp;exact hK _ (Fill.refl _)
    apply lexkf_eq hsz [(1, true)] [(101, 0), (102, 1), (104, 3), (105, 4), (106, 5), (107, 6), (108, 7), (100, 9), (110, 10), (111, 11), (22, 12)] none (by kernel_rfl) (by kernel_rfl) (by kernel_rfl) (by kernel_rfl) rfl rfl
    ·intro xs w hw hp K hK;simp only [hzk, lk13, reduceIte, Nat.reduceEqDiff] at hp;have e1 := HLv1.out;have e2 := HLvP.out;go_simp;exact hK _ (Fill.refl _)
    apply lexkf_eq hsz [] [(101, 0), (102, 1), (103, 2), (106, 5), (107, 6), (108, 7), (109, 8), (100, 9), (110, 10), (111, 11), (22, 12)] none (by kernel_rfl) (by kernel_rfl) (by kernel_rfl) (by kernel_rfl) rfl rfl
    ·intro xs w hw hp K hK;go_simp;exact hK _ (Fill.refl _)
    apply lexkf_eq hsz [(3, true)] [(101, 0), (102, 1), (103, 2), (104, 3), (107, 6), (108, 7), (109, 8), (100, 9), (110, 10), (111, 11), (22, 12)] none (by kernel_rfl) (by kernel_rfl) (by kernel_rfl) (by kernel_rfl) rfl rfl
    ·intro xs w hw hp K hK;simp only [hzk, lk13, reduceIte, Nat.reduceEqDiff] at hp;go_simp;exact hK _ (Fill.refl _)
    apply lexkf_eq hsz [(4, true)] [(101, 0), (102, 1), (103, 2), (104, 3), (105, 4), (107, 6), (108, 7), (100, 9), (110, 10), (111, 11), (22, 12)] none (by kernel_rfl) (by kernel_rfl) (by kernel_rfl) (by kernel_rfl) rfl rfl
    ·intro xs w hw hp K hK;simp only [hzk, lk13, reduceIte, Nat.reduceEqDiff] at hp;have d0 := HF0f.out w hw;go_simp;exact hK _ (Fill.refl _)
    apply lexkf_eq hsz [] [(101, 0), (102, 1), (103, 2), (104, 3), (105, 4), (106, 5), (108, 7), (100, 9), (110, 10), (111, 11), (22, 12)] none (by kernel_rfl) (by kernel_rfl) (by kernel_rfl) (by kernel_rfl) rfl rfl
    ·intro xs w hw hp K hK;obtain ⟨c0, c1, c2, _⟩ := enres (HEf.out w hw);go_simp;exact hK _ (Fill.refl _)
    apply lexkf_eq hsz [] [(101, 0), (102, 1), (103, 2), (104, 3), (105, 4), (106, 5), (107, 6), (100, 9), (110, 10), (111, 11), (22, 12)] none (by kernel_rfl) (by kernel_rfl) (by kernel_rfl) (by kernel_rfl) rfl rfl
    ·intro xs w hw hp K hK;go_simp;exact hK _ (Fill.refl _)
    refine lexkf_says hsz (fun v u => ∃ iv, v = .tuple #[pgV RQ iv, .int .i64 rc] /\ ItemsC u iv RQ.items) (fun _ _ _ g h => h.elim fun iv h => ⟨iv, h.1, g.itemsC h.2⟩) [(2, true), (5, true), (6, true), (7, true)] [(101, 0), (102, 1), (103, 2), (104, 3), (105, 4), (106, 5), (107, 6), (108, 7), (110, 10), (111, 11), (22, 12)] none (by kernel_rfl) (by kernel_rfl) (by kernel_rfl) (by kernel_rfl) rfl rfl ?_ ?_
    ·intro xs w hw hp K hK;simp only [hzk, lk13, reduceIte, Nat.reduceEqDiff] at hp;go_simp;exact (HRt.out w).mono fun e w' ⟨iv, h1, h2, h3⟩ => ⟨_, h1, hK _ _ ⟨iv, rfl, h2⟩ (Fill.of_grow h3 hw.below.size)⟩
    refine lexkf_says hsz (fun v u => ∃ iv, v = .tuple #[pgV RQ iv, .int .i64 rc] /\ ItemsC u iv RQ.items) (fun _ _ _ g h => h.elim fun iv h => ⟨iv, h.1, g.itemsC h.2⟩) [(8, true)] [(101, 0), (102, 1), (103, 2), (104, 3), (105, 4), (106, 5), (107, 6), (108, 7), (109, 8), (22, 12)] none (by kernel_rfl) (by kernel_rfl) (by kernel_rfl) (by kernel_rfl) rfl rfl ?_ ?_
    ·intro xs w hw hp K hK;simp only [hzk, lk13, reduceIte, Nat.reduceEqDiff] at hp;obtain ⟨iv8, h8, hit⟩ := hp;go_simp;exact hK _ _ ⟨iv8, rfl, hit⟩ (Fill.refl _)
    refine lexkf_says hsz (fun v u => ∃ iv, v = pgV RQ iv /\ ItemsC u iv RQ.items) (fun _ _ _ g h => h.elim fun iv h => ⟨iv, h.1, g.itemsC h.2⟩) [(9, true)] [(101, 0), (102, 1), (103, 2), (104, 3), (105, 4), (106, 5), (107, 6), (108, 7), (109, 8), (100, 9), (111, 11), (22, 12)] none (by kernel_rfl) (by kernel_rfl) (by kernel_rfl) (by kernel_rfl) rfl rfl ?_ ?_
    ·intro xs w hw hp K hK;simp only [hzk, lk13, reduceIte, Nat.reduceEqDiff] at hp;obtain ⟨iv8, h8, hit⟩ := hp;go_simp;exact hK _ _ ⟨iv8, rfl, hit⟩ (Fill.refl _)
    refine lexkf_says hsz (fun v _ => v = .int .i64 rc) (fun _ _ _ _ h => h) [(9, true)] [(101, 0), (102, 1), (103, 2), (104, 3), (105, 4), (106, 5), (107, 6), (108, 7), (109, 8), (100, 9), (110, 10), (22, 12)] none (by kernel_rfl) (by kernel_rfl) (by kernel_rfl) (by kernel_rfl) rfl rfl ?_ ?_
    ·intro xs w hw hp K hK;simp only [hzk, lk13, reduceIte, Nat.reduceEqDiff] at hp;obtain ⟨iv8, h8, hit⟩ := hp;go_simp;exact hK _ _ rfl (Fill.refl _)
    refine lexkf_says hsz (fun v u => ∃ b, v = .pointer (some ⟨b, 0, none⟩) /\ w10.heap.size <= b /\ ∃ a0 a1 a2 a3 a4 a5, Blk u b 28 [a0, a1, a2, a3, a4, a5]) (fun _ _ _ g ⟨b, h1, h2, h3⟩ => ⟨b, h1, h2, fill_six g h3⟩) [] [(101, 0), (102, 1), (103, 2), (104, 3), (105, 4), (106, 5), (107, 6), (108, 7), (109, 8), (100, 9), (110, 10), (111, 11)] none (by kernel_rfl) (by kernel_rfl) (by kernel_rfl) (by kernel_rfl) rfl rfl ?_ ?_
    ·intro xs w hw hp K hK;go_simp;exact hK _ _ ⟨_, rfl, hw.below.size, _, _, _, _, _, _, Blk.new w _ [_, _, _, _, _, _]⟩ (Fill.of_grow ((Grow.refl w).alloc _) hw.below.size)
    refine lexkf_link hsz (fun v u => ∃ b, v = .pointer (some ⟨b, 0, none⟩) /\ w10.heap.size <= b /\ ∃ iv', Blk u b 28 (pgCells RQ iv') /\ ItemsC u iv' RQ.items) (fun _ _ _ hg ⟨b, h1, h2, iv', h3, h4⟩ => ⟨b, h1, h2, goodC_lasts hg h3 h4⟩) [(10, true), (12, true)] [(101, 0), (102, 1), (103, 2), (104, 3), (105, 4), (106, 5), (107, 6), (108, 7), (109, 8), (100, 9), (110, 10), (111, 11), (22, 12)] none (by kernel_rfl) (by kernel_rfl) (by kernel_rfl) (by kernel_rfl) rfl (by decide) ?_ ?_
    ·intro xs w hw hp K hK;simp only [hzk, lk13, reduceIte, Nat.reduceEqDiff] at hp;obtain ⟨⟨iv', h17, hit⟩, b, h19, hbN, a0_, a1_, a2_, a3_, a4_, a5_, hB⟩ := hp;obtain ⟨c0, c1, c2, c3, c4, c5, f0, f1, f2, f3, f4, f5⟩ := pgres hB;obtain ⟨iva', ivc', rfl⟩ := itemsS_form hit.1;have Hset := keep (pgset hB (.int .i64 RQ.lsn) (.int .i64 RQ.kind) (.int .i64 RQ.level) (.int .i64 RQ.right) (.string (str RQ.high)) (.slice iva' RQ.items.length ivc'));have Hbut := keep (pgbut w b (.int .i64 RQ.lsn) (.int .i64 RQ.kind) (.int .i64 RQ.level) (.int .i64 RQ.right) (.string (str RQ.high)) (.slice iva' RQ.items.length ivc'));have Hit2 := keep (itemsC_but hit Hbut.out hB (by decide));have HB := keep hB;unfold pgV at h17;clear hB hit;go_simp;exact hK _ _ ⟨b, h19, hbN, _, Hset.out, Hit2.out⟩ (Fill.but (cs' := pgCells RQ (.slice iva' RQ.items.length ivc')) Hbut.out hbN hw.below.size HB.out rfl Hset.out ⟨_, rfl, Hit2.out⟩)
    intro xs w hw hp;have ha0 := HA0.out;clear HA0 hsz s3 s4 s12 s15;simp only [hzk, lk13, reduceIte, Nat.reduceEqDiff] at hp;have hM := hp.2.2.2.2.2.2.2.2.2.2.2.1;obtain ⟨b, h19, hbN, ivQ, hQ, hiQ⟩ := hp.2.2.2.2.2.2.2.2.2.2.2.2.2;clear hp;subst ha0;simp only [putAll, hM, h19];have hwU := hw.undrew;obtain ⟨ra, rca, rfl⟩ := itemsS_form hiQ.1;have HG11 := keep (Grow.trans HG10.out hwU.below);have HR11 := keep (Blk.below HR10.out hwU.below HR10.out.lt);have HA11 := keep (Blk.below HO10.out hwU.below HO10.out.lt);have HB11 := keep (Blk.below HN10.out hwU.below HN10.out.lt);have HIa11 := keep (HIo10.out.fits hwU.below);have HIb11 := keep (HIn10.out.fits hwU.below);have HIr11 := keep hiQ;have HQ11 := keep hQ;have hzb : w10.heap.size <= b := hbN;generalize w = w11 at *;clear hw hwU h19 hQ hiQ HPf HEf HF0f hM
    by_cases hrc : rc = 0
    ·subst hrc;have HAg := keep (fun (u : World) (hu : Grow w11.drew u) => Blk.fits (Blk.drew HA11.out) hu);have HBg := keep (fun (u : World) (hu : Grow w11.drew u) => Blk.fits (Blk.drew HB11.out) hu);have HQg := keep (fun (u : World) (hu : Grow w11.drew u) => Blk.fits (Blk.drew HQ11.out) hu);have HF0g := keep (fun (u : World) (hu : Grow w11.drew u) => (HF0.out u (Grow.trans HG11.out (Grow.undrew hu)) : u.cell? ⟨cf, of + 0, none⟩ = some (.int .i64 f0)));simp only [Nat.add_zero] at HF0g;unfold pgCells at HQg
     try unfold pgCells at HAg
     try unfold pgCells at HBg
     go_upto_region 26 with fail;refine rgv 11 (by kernel_rfl) (by kernel_rfl) rfl rfl ?_;intro a0 ha0;have hsz : a0.tmps.size = 129 := (size_at ha0).trans rfl;have s1 := slot_at ha0 1 rfl;have s3 := slot_at ha0 3 rfl;have s12 := slot_at ha0 12 rfl;have s13 := slot_at ha0 13 rfl;have s14 := slot_at ha0 14 rfl;have s22 := slot_at ha0 22 rfl;have HA0 := keep ha0;clear ha0
     iterate 2
      apply lxv hsz Grow.refl (by kernel_rfl) rfl
      ·intro xs w hw K hK;go_simp;exact hK
     apply lxv hsz Grow.refl (by kernel_rfl) rfl
     ·intro xs w hw K hK;have d0 := HF0g.out w hw;go_simp;exact hK
     apply lxv hsz Grow.refl (by kernel_rfl) rfl
     ·intro xs w hw K hK;obtain ⟨a0, a1, a2, a3, a4, a5, _⟩ := pgres (HAg.out w hw);go_simp;exact hK
     iterate 2
      apply lxv hsz Grow.refl (by kernel_rfl) rfl
      ·intro xs w hw K hK;go_simp;exact hK
     apply lxv hsz Grow.refl (by kernel_rfl) rfl
     ·intro xs w hw K hK;obtain ⟨b0, b1, b2, b3, b4, b5, _⟩ := pgres (HBg.out w hw);go_simp;exact hK
     iterate 2
      apply lxv hsz Grow.refl (by kernel_rfl) rfl
      ·intro xs w hw K hK;go_simp;exact hK
     apply lxv hsz Grow.refl (by kernel_rfl) rfl
     ·intro xs w hw K hK;obtain ⟨q0, q1, q2, q3, q4, q5, _⟩ := pgres (HQg.out w hw);go_simp;exact hK
     apply lxv hsz Grow.refl (by kernel_rfl) rfl
     ·intro xs w hw K hK;go_simp;exact hK
     refine rgd [] (by kernel_rfl) rfl ?_;intro xs w hw hp;have ha0 := HA0.out;clear HA0 hsz s1 s3 s12 s13 s14 s22;clear hp;subst ha0;simp only [putV];have hwg : Grow w11 w := hw.undrew;have HG12 := keep (Grow.trans HG11.out hwg);have HR12 := keep (HR11.out.fits hwg);have hia12 := HIa11.out.fits hwg;have hib12 := HIb11.out.fits hwg;have hir12 := HIr11.out.fits hwg;generalize w = w12 at *;clear hw hwg HAg HBg HQg HF0g
     obtain ⟨hII, hgI⟩ := imgsC_new (w := w12) [(f0, A, .slice aa A.items.length ac), (f1, HB1, .slice ja HB1.items.length jc), (n, RQ, .slice ra RQ.items.length rca)] 3 rfl (by
      intro x hx;rcases List.mem_cons.1 hx with rfl | hx
      ·exact ⟨hia12, small_fine ⟨(HLs.out (by trivial)).1, (HLs.out (by trivial)).2.1⟩⟩
      ·rcases List.mem_cons.1 hx with rfl | hx
       ·exact ⟨hib12, HFb.out (by trivial)⟩
       ·obtain rfl := List.mem_singleton.1 hx
        exact ⟨hir12, HFr.out⟩)
     have HII := keep hII;have HGI := keep hgI;clear hII hgI hia12 hib12 hir12;go_wp2_with fail;refine (split_fn _ _ _ _).mono ?_;rintro x w13 ⟨rfl, hb13⟩;have HGx := keep (Grow.trans (Grow.trans HG12.out HGI.out) hb13);have HRx := keep (HR12.out.fits (Grow.trans HGI.out hb13));have HIx := keep (HII.out.fits hb13);unfold recG;clear hb13;go_wp2_with ((refine wpList_store_rec rfl _ _ rfl (w_.heap.size + 1) _ rfl rfl HRx.out rfl rfl rfl ?_); intro wz hset hbz; have Hset := keep hset; have Hbut := keep hbz; clear hset hbz);have hyz : growC n 2 f0 f1 true A B true (HA1, HAe, HAc) (HB1, HBe, 0) (RQ, 0) = ((5, 0, [], [(f0, A), (f1, HB1), (n, RQ)]), 0) := by
      unfold growC;rw [if_neg (by decide), if_neg (by simp), if_neg (by decide), if_neg (by simp)]
      rfl
     have HE := keep hyz;clear hyz;refine bodyPost_ret (v := .tuple #[recG 5 0 ⟨#[]⟩ (.slice (some ⟨w12.heap.size, 0, none⟩) 3 3), .int .i64 0]) ?_ rfl (by rw [HE.out]; exact ⟨.slice (some ⟨w12.heap.size, 0, none⟩) 3 3, [(f0, A, .slice aa A.items.length ac), (f1, HB1, .slice ja HB1.items.length jc), (n, RQ, .slice ra RQ.items.length rca)], rfl, rfl, imgsC_but HIx.out Hbut.out HRx.out (by decide) (by decide), But.below HGx.out Hbut.out (by omega) HGx.out.size, fun h => by cases h⟩);exact enter_res _ _ _ _ _ _ _ _ rfl rfl Hset.out
    ·have hrc2 : (rc != 0) = true := by simp [hrc]
     have hyz : growC n 2 f0 f1 true A B true (HA1, HAe, HAc) (HB1, HBe, 0) (RQ, rc) = rc0 rc := by
      unfold growC;rw [if_neg (by decide), if_neg (by simp), if_neg (by decide), if_pos hrc]
     have HE := keep hyz;clear hrc hyz;go_wp2_with ((refine wpList_store_rec rfl _ _ rfl (w_.heap.size + 1) _ rfl rfl HR11.out rfl rfl rfl ?_); intro wz hset hbz; have Hset := keep hset; have Hbut := keep hbz; clear hset hbz);refine bodyPost_ret (v := .tuple #[recG 0 0 ⟨#[]⟩ (.slice none 0 0), .int .i64 rc]) ?_ rfl (by rw [HE.out]; exact (recPostC_nil rfl (But.below HG11.out Hbut.out (by omega) (HG11.out).size)));exact enter_res _ _ _ _ _ _ _ _ rfl rfl Hset.out
   ·have hcz2 : (HBc != 0) = true := by simp [hcz]
    have hyz : growC n 2 f0 f1 true A B true (HA1, HAe, HAc) (HB1, HBe, HBc) (RQ, rc) = rc0 121 := by
     unfold growC;rw [if_neg (by decide), if_pos (by exact hcz)]
    have HE := keep hyz;clear hcz hyz;go_wp2_with ((refine wpList_store_rec rfl _ _ rfl (w_.heap.size + 1) _ rfl rfl HR10.out rfl rfl rfl ?_); intro wz hset hbz; have Hset := keep hset; have Hbut := keep hbz; clear hset hbz);refine bodyPost_ret (v := .tuple #[recG 0 0 ⟨#[]⟩ (.slice none 0 0), .int .i64 121]) ?_ rfl (by rw [HE.out]; exact (recPostC_nil rfl (But.below HG10.out Hbut.out (by omega) (HG10.out).size)));exact enter_res _ _ _ _ _ _ _ _ rfl rfl Hset.out
set_option maxRecDepth 100000 in
set_option maxHeartbeats 16000000 in
theorem enter_plain (P : Pg) (iv : Value) (n : Int) (item : List UInt8) (fr : List Int) (fv : Value) (w_ : World) (hin : PgIn w_ iv P) (_hcap : Capd iv) (hs : (item.length : Int) <= 140737488355328) (hf : Ints w_ fv fr) (hfl : (fr.length : Int) <= 4611686018427387904) (hc : (layN P item).2.2 ≠ 3) :
  Calls Tryz.prog 150 #[pgV P iv, .int .i64 n, .string (str item), fv] w_ (RecPostC (enterN P n item fr) w_) := by
 obtain ⟨w0, hw0⟩ : ∃ w0, w0 = (w_.alloc (.cells (pgCells P iv).toArray 28)).alloc (.cells #[.int .i64 0, .int .i64 0, .int .i64 0, .int .u8 0, .int .i64 0, .int .i64 0, .int .i64 0, .int .i64 0, .int .i64 0, .int .i64 0, .string ⟨#[]⟩, .slice none 0 0, .slice none 0 0, .slice none 0 0, .slice none 0 0, .slice none 0 0] 71) := ⟨_, rfl⟩;obtain ⟨hg0, hP0, hR0⟩ := pr_new P iv w_ w0 hw0;have hnd := need_any P iv n item w0 (hin.fits hg0) hs;obtain ⟨hk, hkc, _⟩ := (need_cases P n item).resolve_right (fun h => hc h.1);have hap := fun (u : World) (hu : Grow w_ u) => apart_any fr fv 0 u (hf.fits hu) hfl
 have hy1 : (layN P item).2.2 ≠ 0 -> enterN P n item fr = rc0 (layN P item).2.2 := fun h => by unfold enterN; rw [hkc, if_pos h]
 have hy2 : (layN P item).2.2 = 0 -> apartN fr 0 = false -> enterN P n item fr = rc0 1 := fun h h2 => by unfold enterN; rw [hkc, hk, if_neg (fun h3 => h3 h), if_pos h2]
 have hy3 : (layN P item).2.2 = 0 -> apartN fr 0 = true -> enterN P n item fr = ((3, n, item, []), 0) := fun h h2 => by unfold enterN; rw [hkc, hk, if_neg (fun h3 => h3 h), if_neg (by rw [h2]; decide), if_pos rfl]
 unfold NeedPost at hnd;rw [hkc, hk] at hnd;generalize enterN P n item fr = Y at *;generalize (layN P item).2.2 = c at *;unfold pgV at hnd;have HNd := keep hnd;have HAp := keep hap;have HY1 := keep hy1;have HY2 := keep hy2;have HY3 := keep hy3;have HR0 := keep hR0;have HG0 := keep hg0;have HP0 := keep hP0;clear hnd hap hy1 hy2 hy3 hin _hcap hf hk hkc hc hR0 hg0;unfold pgCells at hw0 hP0;obtain ⟨p0, p1, p2, p3, p4, p5, _⟩ := pgres hP0;clear hP0;unfold pgV;go_enter Tryz.func150, Tryz.ntmps150;go_upto_region 1 with fail;rw [<- hw0];clear hw0;go_wp2_with fail;refine HNd.out.mono ?_;rintro x w1 ⟨rfl, hb1⟩;clear p0 p1 p2 p3 p4 p5 HNd;have HG1 := keep (Grow.trans HG0.out hb1);have HR1 := keep (HR0.out.fits hb1);clear hb1
 by_cases hc0 : c = 0
 ·have HC0 := keep hc0;subst hc0;go_wp2_with fail;refine (HAp.out w1 HG1.out).mono ?_;rintro x w2 ⟨rfl, hb2⟩;have HG2 := keep (Grow.trans HG1.out hb2);have HR2 := keep (HR1.out.fits hb2);clear hb2 HAp;cases ha : apartN fr 0 with
  | false =>
   have HE := keep (HY2.out HC0.out ha);clear ha;go_wp2_with ((refine wpList_store_rec rfl _ _ rfl (w_.heap.size + 1) _ rfl rfl HR2.out rfl rfl rfl ?_); intro wz hset hbz; have Hset := keep hset; have Hbut := keep hbz; clear hset hbz);refine bodyPost_ret (v := .tuple #[recG 0 0 ⟨#[]⟩ (.slice none 0 0), .int .i64 1]) ?_ rfl (by rw [HE.out]; exact (recPostC_nil rfl (But.below HG2.out Hbut.out (by omega) (HG2.out).size)));exact enter_res _ _ _ _ _ _ _ _ rfl rfl Hset.out
  | true =>
   have HE := keep (HY3.out HC0.out ha);clear ha;go_upto_region 7 with fail;go_wp2_with ((refine wpList_store_rec rfl _ _ rfl (w_.heap.size + 1) _ rfl rfl HR2.out rfl rfl rfl ?_); intro wz hset hbz; have Hset := keep hset; have Hbut := keep hbz; clear hset hbz);refine bodyPost_ret (v := .tuple #[recG 3 n (str item) (.slice none 0 0), .int .i64 0]) ?_ rfl (by rw [HE.out]; exact (recPostC_nil rfl (But.below HG2.out Hbut.out (by omega) (HG2.out).size)));exact enter_res _ _ _ _ _ _ _ _ rfl rfl Hset.out
 ·have hc2 : (c != 0) = true := by simp [hc0]
  have HE := keep (HY1.out hc0);clear hc0;go_wp2_with ((refine wpList_store_rec rfl _ _ rfl (w_.heap.size + 1) _ rfl rfl HR1.out rfl rfl rfl ?_); intro wz hset hbz; have Hset := keep hset; have Hbut := keep hbz; clear hset hbz);refine bodyPost_ret (v := .tuple #[recG 0 0 ⟨#[]⟩ (.slice none 0 0), .int .i64 c]) ?_ rfl (by rw [HE.out]; exact (recPostC_nil rfl (But.below HG1.out Hbut.out (by omega) (HG1.out).size)));exact enter_res _ _ _ _ _ _ _ _ rfl rfl Hset.out
theorem enter_any (P : Pg) (iv : Value) (n : Int) (item : List UInt8) (fr : List Int) (fv : Value) (w_ : World) (hin : PgIn w_ iv P) (hcap : Capd iv) (hs : (item.length : Int) <= 140737488355328) (hf : Ints w_ fv fr) (hfl : (fr.length : Int) <= 4611686018427387904) :
  Calls Tryz.prog 150 #[pgV P iv, .int .i64 n, .string (str item), fv] w_ (RecPostC (enterN P n item fr) w_) := by
 rcases need_cases P n item with h | ⟨hc, hk | hk⟩
 ·exact enter_plain P iv n item fr fv w_ hin hcap hs hf hfl h.2.2
 ·cases ha : apartN fr 1 with
  | false => exact enter_few1 P iv n item fr fv w_ hin hcap hs hf hfl hc hk ha
  | true => exact enter_split1 P iv n item fr fv w_ hin hcap hs hf hfl hc hk ha
 ·cases ha : apartN fr 2 with
  | false => exact enter_few2 P iv n item fr fv w_ hin hcap hs hf hfl hc hk ha
  | true => exact enter_split2 P iv n item fr fv w_ hin hcap hs hf hfl hc hk ha
end Go.Proofs.YtcdapdcablnhpaaGreat
