import Derived.Test.YtcdapdcablnhpaaGreatKClog2
import Derived.Test.YtcdapdcablnhpaaGreatKTup3
namespace Go.Proofs.YtcdapdcablnhpaaGreat
open Go.RowKit
theorem below_drewN' (w : World) (n : Nat) : Below w.heap.size w (w.drewN n) := ⟨rfl, rfl, rfl, Nat.le_refl _, fun _ _ => rfl⟩
set_option maxRecDepth 100000 in
set_option maxHeartbeats 2000000 in
theorem open_rest (m : Int) (p : Pg) (iv : Value) (w : World) (hi : Items w iv p.items) (h : modB m = true) (hh : openHead m p = true) (hs : ∀ x ∈ p.items, (x.length : Int) <= 9223372036854775807) : Calls Tryz.prog 38 #[.int .i64 m, pgV p iv] w (CopenPost m p w) := by
 obtain ⟨hm1, hm2, hm3⟩ := modB_bd h;have hE : openE m p = if openBody m p then 0 else 31 := by unfold openE; rw [h, hh]; simp
 simp only [openHead, Bool.and_eq_true, decide_eq_true_eq, List.isEmpty_iff] at hh;obtain ⟨⟨⟨⟨⟨⟨h1, h2⟩, h3⟩, h4⟩, h5⟩, h6⟩, h7⟩ := hh;obtain ⟨lsn, kind, level, right, high, items⟩ := p;simp only at h1 h2 h3 h4 h5 h6 h7 hi hs;subst h1 h3 h4 h5;obtain ⟨l0, l1, rfl⟩ : ∃ l0 l1, items = [l0, l1] := by
  match items, h6 with
  | [a, b], _ => exact ⟨a, b, rfl⟩
 have hs0 := hs l0 (by simp);have hs1 := hs l1 (by simp);have h7' : (l1.length : Int) = (m + 3) / 4 := by simpa using h7
 have HE := keep hE;clear hE h7 hs h6;unfold pgV;go_enter Tryz.func38, Tryz.ntmps38;go_wp2_with fail;refine (isModulus_any _ _).mono ?_;rintro e w1 ⟨rfl, hb⟩;have hB1 := (Blk.new w 28 (pgCells ⟨lsn, 1, 0, 0, [], [l0, l1]⟩ iv)).fits hb;have hb1 : Below w.heap.size w w1 := ((Below.refl _ _).alloc (Nat.le_refl _) _).trans (hb.mono (by simp));have hi1 : Items w1 iv [l0, l1] := Row.fits hi hb1;clear hb hi;unfold pgCells at hB1;have c0 := hB1.cell 0 (by simp);have c1 := hB1.cell 1 (by simp);have c2 := hB1.cell 2 (by simp);have c3 := hB1.cell 3 (by simp);have c4 := hB1.cell 4 (by simp);have c5 := hB1.cell 5 (by simp);simp only [List.getElem_cons_zero, List.getElem_cons_succ] at c0 c1 c2 c3 c4 c5;obtain ⟨c, off, cap, rfl, hcell⟩ := items_cells hi1 (by simp);have d0 := hcell 0 (by simp);have d1 := hcell 1 (by simp);simp only [List.getElem_cons_zero, List.getElem_cons_succ, Nat.add_zero] at d0 d1;have hc := World.block_lt_of_cell? _ _ d0;simp only at hc;have g2 : decide (lsn < 0) = false := by simp; omega
 have g5 : (str []).toList.isEmpty = true := by rw [str_list]; rfl
 have g7 : ((l1.length : Int) != (m + 3) / 4) = false := by simpa using h7'
 have H7 := keep h7';clear h7' hcell;have hwl := hB1.lt;go_wp2_with fail;go_quiet ((go_at_call 37; exact Calls.quiet_of_same ((csize_any m _ (by omega) hm2).mono (fun e w' ⟨a, b⟩ => ⟨a, b.symm⟩))));go_wp2_with fail;refine (rdRead _ _).mono ?_;rintro e w3 ⟨rfl, hw3⟩;have hrd3 : Rd w3 w1.heap.size (str l0) 0 := by subst hw3; exact Blk.new (w1.drewN _) _ [_, _]
 have hb3 : Below w1.heap.size w1 w3 := by subst hw3; exact (below_drewN' w1 _).alloc (Nat.le_refl _) _
 have hB3 := hB1.fits hb3;have hi3 : Items w3 (.slice (some ⟨c, off, none⟩) [l0, l1].length cap) [l0, l1] := Row.fits hi1 hb3;have hs3 : w1.heap.size < w3.heap.size := Blk.lt hrd3;clear hw3;go_wp2_with fail;have hN := rdNum_ok w1.heap.size (str l0) m w3 hrd3 (by unfold maxLen; simp; omega) (by omega);obtain ⟨X, hX⟩ : ∃ X, X = rdNumS m l0 := ⟨_, rfl⟩;rw [str_toList, <- hX] at hN;have HX := keep hX;clear hX;refine hN.mono ?_;rintro e w4 ⟨rfl, hrd4, hbt4⟩;clear hN;have hB4 := hB3.but hbt4 (by omega);have e5 := hB4.cell 5 (by simp);simp only [List.getElem_cons_zero, List.getElem_cons_succ] at e5;have d1' : w4.cell? ⟨c, off + 1, none⟩ = some (.string (str l1)) := by
  rw [hbt4.cell (by show c < _; omega) (by show c ≠ _; omega), hb3.cell (by show c < _; omega)]; exact d1
 obtain ⟨bv, w5, hcv, hbr, hb5, hform⟩ := convert_str w4 (str l1);obtain ⟨g, bc, C, f, rfl, hgb, hC1, hC2, hC3⟩ := hbr;have hlen4 : 0 < l1.length := by have := H7.out; omega
 have hlast := brow_cell hC1 hC2 ((str l1).data.toList.length - 1) (by simp; omega);have hbr : BRow w5 w4.heap.size (.slice (some ⟨g, 0, none⟩) (str l1).data.toList.length bc) (str l1).data.toList := ⟨g, bc, C, f, rfl, hgb, hC1, hC2, hC3⟩;simp only [str_toList] at hcv hlast hbr;have hLv : l1.getD (l1.length - 1) 0 = l1.getLast?.getD 0 := by
  rw [List.getLast?_eq_getElem?]; simp
 rw [hLv] at hlast;clear hform hC1 hC2 hC3 hLv;go_wp2_with fail;have hrd5 := Blk.fits hrd4 hb5;refine (rdEnd _ _ _ _ hrd5).mono ?_;rintro e w6 ⟨rfl, rfl⟩;generalize hEv : (if X.2.2 = 0 /\ 0 < (str X.2.1).size then (12 : Int) else X.2.2) = E;have hE0 : E = 0 ↔ (X.2.2 = 0 /\ X.2.1 = []) := by
  rw [<- hEv];cases hy : X.2.1 with
  | nil => simp
  | cons a l =>
   simp
   split
   ·omega
   ·assumption
 have hwb : Below w.heap.size w w5 := by
  have b3 := hb1.trans (hb3.mono (by omega));have b4 := But.below b3 hbt4 (by omega) (by omega);exact b4.trans (hb5.mono (by have := hbt4.size; omega))
 have hbody : openBody m ⟨lsn, 1, 0, 0, [], [l0, l1]⟩ = (decide (E = 0) && decide (X.1 ≠ 0) && (decide (m % 4 = 0) || decide (((l1.getLast?.getD 0).toNat : Int) / 2 ^ (2 * (m % 4)).toNat = 0))) := by
  unfold openBody;have e1 : openNum m ⟨lsn, 1, 0, 0, [], [l0, l1]⟩ = X := HX.out.symm;rw [e1, Bool.eq_iff_iff];simp only [Bool.and_eq_true, decide_eq_true_eq, hE0];simp
 have hbase : BRow w5 w.heap.size (.slice (some ⟨g, 0, none⟩) l1.length bc) l1 := by
  obtain ⟨g', cap', C, f, a1, a2, a3⟩ := hbr;exact ⟨g', cap', C, f, a1, by have := hbt4.size; omega, a3⟩
 have HB := keep hbody;have HBase := keep hbase;have hnum : openNum m ⟨lsn, 1, 0, 0, [], [l0, l1]⟩ = X := HX.out.symm;have HNum := keep hnum;clear hEv hE0 hbody hbase hnum hbr;generalize hL : ((l1.getLast?.getD 0).toNat) = L at *;clear hL e5 d1' hcv hB1 hi1 c0 c1 c2 c3 c4 c5 d0 d1 g2 g5 g7 hrd3 hB3 hi3 hrd4 hB4 hbt4 hrd5
 by_cases k1 : E = 0
 ·have k1' : (E != 0) = false := by simpa using k1
  by_cases k2 : X.1 = 0
  ·have k2' : (X.1 == 0) = true := by simpa using k2
   have hno : openBody m ⟨lsn, 1, 0, 0, [], [l0, l1]⟩ = false := by rw [HB.out]; simp [k2]
   have hno := keep hno;go_wp2_with fail;go_ret3;refine ⟨.slice none 0 0, ?_, hwb, ?_, ⟨_, _, _, rfl⟩⟩
   ·rw [HE.out, hno.out]; rfl
   ·rw [HE.out, hno.out]; intro h'; cases h'
  ·have k2' : (X.1 == 0) = false := by simpa using k2
   by_cases k3 : m % 4 = 0
   ·have hyes : openBody m ⟨lsn, 1, 0, 0, [], [l0, l1]⟩ = true := by rw [HB.out]; simp [k1, k2, k3]
    have hyes := keep hyes;go_wp2_with fail;go_ret3;refine ⟨.slice (some ⟨g, 0, none⟩) l1.length bc, ?_, hwb, fun _ => HBase.out, ⟨_, _, _, rfl⟩⟩;rw [HE.out, hyes.out, HNum.out]; rfl
   ·have k3' : m % 4 = 2 := by omega
    by_cases k4 : (L : Int) / 16 = 0
    ·have hyes : openBody m ⟨lsn, 1, 0, 0, [], [l0, l1]⟩ = true := by rw [HB.out]; simp [k1, k2, k3', k4]
     have hyes := keep hyes;have k4' : ((L : Int) / 16 != 0) = false := by simpa using k4
     go_wp2_with fail;go_ret3;refine ⟨.slice (some ⟨g, 0, none⟩) l1.length bc, ?_, hwb, fun _ => HBase.out, ⟨_, _, _, rfl⟩⟩;rw [HE.out, hyes.out, HNum.out]; rfl
    ·have hno : openBody m ⟨lsn, 1, 0, 0, [], [l0, l1]⟩ = false := by rw [HB.out]; simp [k3', k4]
     have hno := keep hno;have k4' : ((L : Int) / 16 != 0) = true := by simpa using k4
     go_wp2_with fail;go_ret3;refine ⟨.slice none 0 0, ?_, hwb, ?_, ⟨_, _, _, rfl⟩⟩
     ·rw [HE.out, hno.out]; rfl
     ·rw [HE.out, hno.out]; intro h'; cases h'
 ·have k1' : (E != 0) = true := by simpa using k1
  have hno : openBody m ⟨lsn, 1, 0, 0, [], [l0, l1]⟩ = false := by rw [HB.out]; simp [k1]
  have hno := keep hno;go_wp2_with fail;go_ret3;refine ⟨.slice none 0 0, ?_, hwb, ?_, ⟨_, _, _, rfl⟩⟩
  ·rw [HE.out, hno.out]; rfl
  ·rw [HE.out, hno.out]; intro h'; cases h'
theorem open_any (m : Int) (p : Pg) (iv : Value) (w : World) (hi : Items w iv p.items) (hs : ∀ x ∈ p.items, (x.length : Int) <= 9223372036854775807) : Calls Tryz.prog 38 #[.int .i64 m, pgV p iv] w (CopenPost m p w) := by
 cases h : modB m with
 | false => exact open_mod m p iv w h
 | true =>
  cases hh : openHead m p with
  | false => exact open_head m p iv w hi h hh
  | true => exact open_rest m p iv w hi h hh hs
theorem openE_zero {m : Int} {p : Pg} (h : openE m p = 0) : modB m = true /\ openHead m p = true /\ openBody m p = true := by
 unfold openE at h
 split at h
 ·split at h
  ·rename_i h1 h2
   rw [Bool.and_eq_true] at h2;exact ⟨h1, h2.1, h2.2⟩
  ·cases h
 ·cases h
theorem openE_len {m : Int} {p : Pg} (h : openE m p = 0) : p.items.length = 2 /\ ((p.items.getD 1 []).length : Int) = (m + 3) / 4 /\ p.kind = 1 /\ 0 <= p.lsn /\ p.level = 0 /\ p.right = 0 /\ p.high = [] := by
 have := (openE_zero h).2.1;unfold openHead at this;simp only [Bool.and_eq_true, decide_eq_true_eq, List.isEmpty_iff] at this;obtain ⟨⟨⟨⟨⟨⟨h1, h2⟩, h3⟩, h4⟩, h5⟩, h6⟩, h7⟩ := this;exact ⟨h6, h7, h1, h2, h3, h4, h5⟩
def statAt (l : List UInt8) (x : Int) : Nat := (l.getD ((x - 1) / 4).toNat 0).toNat / 2 ^ (2 * ((x - 1) % 4)).toNat % 4
def getS (m : Int) (p : Pg) (x : Int) : Nat × Int :=
 if openE m p = 0 then if idsB m [x] then (statAt (p.items.getD 1 []) x, 0) else (0, 1) else (0, openE m p)
theorem stat_bits (c e : Nat) (hc : c < 256) (_he : e <= 6) : bits BinOp.and IntKind.u8 ((c : Int) / 2 ^ e) 3 = ((c / 2 ^ e % 4 : Nat) : Int) := by
 have e1 : ((c : Int) / 2 ^ e) = ((c / 2 ^ e : Nat) : Int) := by push_cast; rfl
 have e2 : (3 : Int) = ((3 : Nat) : Int) := rfl;have h1 : c / 2 ^ e <= c := Nat.div_le_self _ _;rw [e1, e2, u8_and_nat _ _ (by omega) (by omega)]
 congr 1
 exact Nat.and_two_pow_sub_one_eq_mod _ 2
set_option maxRecDepth 100000 in
set_option maxHeartbeats 1000000 in
theorem get_any (m : Int) (p : Pg) (iv : Value) (x : Int) (w : World) (hi : Items w iv p.items) (hs : ∀ x ∈ p.items, (x.length : Int) <= 9223372036854775807) : Calls Tryz.prog 250 #[.int .i64 m, pgV p iv, .int .i64 x] w fun e w' =>
  e = .returned (.tuple #[.int .u8 (getS m p x).1, .int .i64 (getS m p x).2]) /\ Below w.heap.size w w' := by
 have ho := open_any m p iv (w.alloc (.cells (pgCells p iv).toArray 28)) (hi.fits ((Below.refl _ _).alloc (Nat.le_refl _) _)) hs;unfold pgV pgCells CopenPost at ho;clear hs hi
 by_cases h0 : openE m p = 0
 ·have hll := (openE_len h0).2.1;have hm := (openE_zero h0).1;obtain ⟨hm1, hm2, _⟩ := modB_bd hm;have hG : getS m p x = if idsB m [x] then (statAt (p.items.getD 1 []) x, 0) else (0, 1) := by unfold getS; rw [if_pos h0]
  rw [h0] at ho;generalize (openNum m p).1 = F at *;generalize p.items.getD 1 [] = l at *;have Ho := keep ho;have HL := keep hll;clear ho h0 hm hll;unfold pgV;go_enter Tryz.func250, Tryz.ntmps250;cases hB : idsB m [x] with
  | false =>
   rw [hB] at hG;have HG := keep hG;clear hG;go_wp2_with fail;refine Ho.out.mono ?_;rintro e w1 ⟨bv, rfl, hb, hbr, _⟩;obtain ⟨g, bc, C, f, rfl, hgb, hC1, hC2, hC3⟩ := hbr (by simp);have hb1 : Below w.heap.size w w1 := ((Below.refl _ _).alloc (Nat.le_refl _) _).trans (hb.mono (by simp));clear hbr hC1 hC2 hC3 hb;go_wp2_with fail;refine (isID_any _ _ _).mono ?_;rintro e w2 ⟨rfl, hb2⟩;go_wp2_with fail;go_ret2;have hG' : getS m p x = (0, 1) := by simpa using HG.out
   rw [hG'];exact ⟨rfl, hb1.trans (hb2.mono hb1.size)⟩
  | true =>
   rw [hB] at hG;have HG := keep hG;obtain ⟨_, hx1, hx2⟩ := idsB_one hB;clear hG;go_wp2_with fail;refine Ho.out.mono ?_;rintro e w1 ⟨bv, rfl, hb, hbr, _⟩;obtain ⟨g, bc, C, f, rfl, hgb, hC1, hC2, hC3⟩ := hbr (by simp);have hb1 : Below w.heap.size w w1 := ((Below.refl _ _).alloc (Nat.le_refl _) _).trans (hb.mono (by simp));have hq1 : ((x - 1) / 4).toNat < l.length := by have := HL.out; omega
   have hcell : w1.cell? ⟨g, ((x - 1) / 4).toNat, none⟩ = some (.int .u8 (l.getD ((x - 1) / 4).toNat 0).toNat) := brow_cell hC1 hC2 _ hq1;have hgl := lt_of_block hC1;clear hbr hC1 hC2 hC3 hb;go_wp2_with fail;refine (isID_any _ _ _).mono ?_;rintro e w2 ⟨rfl, hb2⟩;have hcell2 := (hb2.cell (p := ⟨g, ((x - 1) / 4).toNat, none⟩) hgl).trans hcell;clear hcell;go_wp2_with fail;refine (place_any x _ hx1 (by omega)).mono ?_;rintro e w3 ⟨rfl, rfl⟩;have hst : Kept (bits BinOp.and IntKind.u8 (((l.getD ((x - 1) / 4).toNat 0).toNat : Int) / 2 ^ (2 * ((x - 1) % 4)).toNat) 3 = (statAt l x : Int)) :=
    keep (stat_bits _ _ (l.getD ((x - 1) / 4).toNat 0).toNat_lt (by omega))
   have hi0 : 0 <= (x - 1) / 4 := by omega
   have hi1 : (x - 1) / 4 < (l.length : Int) := by have := HL.out; omega
   have hf0 : 0 <= 2 * ((x - 1) % 4) := by omega
   have hf1 : 2 * ((x - 1) % 4) <= 6 := by omega
   generalize (l.getD ((x - 1) / 4).toNat 0).toNat = cc at *;generalize (x - 1) / 4 = q at *;generalize 2 * ((x - 1) % 4) = far at *;go_wp2_with fail;go_ret2;have hG' : getS m p x = (statAt l x, 0) := by simpa using HG.out
   rw [hG'];refine ⟨?_, hb1.trans (hb2.mono hb1.size)⟩;show Ending.returned (.tuple #[.int .u8 (bits BinOp.and IntKind.u8 ((cc : Int) / 2 ^ far.toNat) 3), .int .i64 0]) = _;rw [hst.out]
 ·have hG : getS m p x = (0, openE m p) := by unfold getS; rw [if_neg h0]
  rw [if_neg h0] at ho;have h0' : (openE m p != 0) = true := by simpa using h0
  generalize openE m p = E at *;have Ho := keep ho;have HG := keep hG;clear ho hG h0;unfold pgV;go_enter Tryz.func250, Tryz.ntmps250;go_wp2_with fail;refine Ho.out.mono ?_;rintro e w1 ⟨bv, rfl, hb, _, a, n, c, rfl⟩;have hb1 : Below w.heap.size w w1 := ((Below.refl _ _).alloc (Nat.le_refl _) _).trans (hb.mono (by simp));clear hb;go_wp2_with fail;go_ret2;rw [HG.out];exact ⟨rfl, hb1⟩
def putS (l : List UInt8) (x : Int) (s : Nat) : List UInt8 :=
 l.set ((x - 1) / 4).toNat (UInt8.ofNat ((l.getD ((x - 1) / 4).toNat 0).toNat &&& (255 - 3 * 2 ^ (2 * ((x - 1) % 4)).toNat % 256) ||| s * 2 ^ (2 * ((x - 1) % 4)).toNat % 256))
theorem put_bits (c s e : Nat) (hc : c < 256) (_hs : s < 256) : bits BinOp.or IntKind.u8 (bits BinOp.andNot IntKind.u8 (c : Int) (((3 * 2 ^ e % 256 : Nat) : Int))) (((s * 2 ^ e % 256 : Nat) : Int)) = ((UInt8.ofNat (c &&& (255 - 3 * 2 ^ e % 256) ||| s * 2 ^ e % 256)).toNat : Int) := by
 rw [u8_andNot_nat _ _ hc (by omega)];have h1 : c &&& (255 - 3 * 2 ^ e % 256) < 256 := Nat.lt_of_le_of_lt Nat.and_le_left hc;rw [u8_or_nat _ _ h1 (by omega)]
 congr 1
 rw [UInt8.toNat_ofNat'];have h2 : (c &&& (255 - 3 * 2 ^ e % 256)) ||| s * 2 ^ e % 256 < 2 ^ 8 := Nat.or_lt_two_pow h1 (by omega);omega
attribute [local go_sem] gives givesUpon_value givesUpon_skip givesUpon_enter
theorem brow_set {w : World} {base g cap : Nat} {C : Array Value} {f : Nat × Nat} {l : List UInt8} (hgb : base <= g) (h3 : w.heap[g]? = some (.cells C 5 f)) (h4 : ∀ j, j < l.length -> C[j]? = some (.int .u8 (l.getD j 0).toNat)) (h5 : l.length <= C.size)
  (h6 : C.size <= f.1 \/ f = (0, 0)) (q : Nat) (hq : q < l.length) (c : UInt8) : BRow (w.setCell ⟨g, q, none⟩ (.int .u8 c.toNat)) base (.slice (some ⟨g, 0, none⟩) l.length cap) (l.set q c) := by
 refine ⟨g, cap, C.setIfInBounds q (.int .u8 c.toNat), f, by simp, hgb, ?_, ?_, by simpa using h5, by simpa using h6⟩
 ·simp only [World.setCell, Array.getElem?_modify, if_true, h3];simp
 ·intro j hj;rw [List.length_set] at hj
  by_cases hjq : j = q
  ·subst hjq;rw [Array.getElem?_setIfInBounds_self_of_lt (by omega)];simp [hj]
  ·rw [Array.getElem?_setIfInBounds_ne (fun e => hjq e.symm), h4 j hj];simp [List.getElem?_set_ne (fun e => hjq e.symm)]
set_option maxRecDepth 100000 in
set_option maxHeartbeats 1000000 in
theorem cput_any (base : Nat) (v : Value) (l : List UInt8) (x : Int) (s : Nat) (w : World) (hb : BRow w base v l) (hx1 : 1 <= x) (hx2 : x <= 1024) (hq1 : ((x - 1) / 4).toNat < l.length) (hs : s < 256) (_hll : (l.length : Int) <= 9223372036854775807) :
  Calls Tryz.prog 39 #[v, .int .i64 x, .int .u8 s] w fun e w' => e = .returned (.tuple #[]) /\ BRow w' base v (putS l x s) /\ Below base w w' := by
 obtain ⟨g, cap, C, f, rfl, hgb, hC1, hC2, hC3, hC4⟩ := hb;have hcell : w.cell? ⟨g, ((x - 1) / 4).toNat, none⟩ = some (.int .u8 (l.getD ((x - 1) / 4).toNat 0).toNat) := brow_cell hC1 hC2 _ hq1;have hfree : w.frozen? ⟨g, ((x - 1) / 4).toNat, none⟩ = false := brow_free hC1 hC3 hC4 _ hq1;have hpb := put_bits (l.getD ((x - 1) / 4).toNat 0).toNat s (2 * ((x - 1) % 4)).toNat (l.getD ((x - 1) / 4).toNat 0).toNat_lt hs;have Hpb := keep hpb;have hi0 : 0 <= (x - 1) / 4 := by omega
 have hi1 : (x - 1) / 4 < (l.length : Int) := by omega
 have hf0 : 0 <= 2 * ((x - 1) % 4) := by omega
 have hf1 : 2 * ((x - 1) % 4) <= 6 := by omega
 have HC1 := keep hC1;have HC2 := keep hC2;have HC3 := keep hC3;have HC4 := keep hC4;clear hC1 hC2 hC3 hC4 hpb;go_enter Tryz.func39, Tryz.ntmps39;go_wp2_with fail;refine (place_any x _ hx1 hx2).mono ?_;rintro e w1 ⟨rfl, rfl⟩;go_wp2_with fail;have hcells : ∀ u, Grow w.drew u -> u.cell? ⟨g, ((x - 1) / 4).toNat, none⟩ = some (.int .u8 (l.getD ((x - 1) / 4).toNat 0).toNat) := fun u hu => (hu.cell (p := ⟨g, ((x - 1) / 4).toNat, none⟩) (lt_of_block HC1.out)).trans hcell
 have Hcells := keep hcells;clear hcells;refine wp_region_grow (by kernel_rfl) 13 (by kernel_rfl) [(13, 0), (14, 1), (15, 2), (16, 3), (17, 4), (18, 5), (19, 6), (20, 7), (21, 8), (22, 9), (23, 10), (24, 11), (25, 12)] (by kernel_rfl) [(0, true), (1, true), (2, true), (3, true), (4, true), (5, true), (6, true), (7, true), (8, true), (9, true), (10, true), (11, true), (12, true)] (by kernel_rfl) rfl rfl ?_;apply lex_eq [] [(14, 1), (15, 2), (16, 3), (17, 4), (18, 5), (19, 6), (20, 7), (21, 8), (22, 9), (23, 10), (24, 11), (25, 12)] (by kernel_rfl) (by kernel_rfl) rfl
 ·intro xs w hw hp K hK;simp only [putAll];go_simp;exact hK _ (Grow.refl _)
 apply lex_eq [] [(13, 0), (15, 2), (16, 3), (17, 4), (18, 5), (19, 6), (20, 7), (21, 8), (22, 9), (23, 10), (24, 11), (25, 12)] (by kernel_rfl) (by kernel_rfl) rfl
 ·intro xs w hw hp K hK;simp only [putAll];go_simp;exact hK _ (Grow.refl _)
 apply lex_eq [] [(13, 0), (14, 1), (16, 3), (18, 5), (19, 6), (20, 7), (21, 8), (22, 9), (23, 10), (24, 11), (25, 12)] (by kernel_rfl) (by kernel_rfl) rfl
 ·intro xs w hw hp K hK;simp only [putAll];go_simp;exact hK _ (Grow.refl _)
 apply lex_eq [] [(13, 0), (14, 1), (15, 2), (18, 5), (19, 6), (20, 7), (21, 8), (22, 9), (23, 10), (24, 11), (25, 12)] (by kernel_rfl) (by kernel_rfl) rfl
 ·intro xs w hw hp K hK;simp only [putAll];go_simp;exact hK _ (Grow.refl _)
 apply lex_eq [(2, true), (3, true)] [(13, 0), (14, 1), (15, 2), (16, 3), (19, 6), (20, 7), (21, 8), (22, 9), (23, 10), (24, 11), (25, 12)] (by kernel_rfl) (by kernel_rfl) rfl
 ·intro xs w hw hp K hK;simp only [hz] at hp;simp only [putAll];go_simp;exact hK _ (Grow.refl _)
 apply lex_eq [(4, true)] [(13, 0), (14, 1), (15, 2), (16, 3), (17, 4), (19, 6), (20, 7), (22, 9), (23, 10), (24, 11), (25, 12)] (by kernel_rfl) (by kernel_rfl) rfl
 ·intro xs w hw hp K hK;simp only [hz] at hp;simp only [putAll];have hc5 := Hcells.out w hw;go_simp;exact hK _ (Grow.refl _)
 apply lex_eq [] [(13, 0), (14, 1), (15, 2), (16, 3), (17, 4), (18, 5), (21, 8), (22, 9), (23, 10), (24, 11), (25, 12)] (by kernel_rfl) (by kernel_rfl) rfl
 ·intro xs w hw hp K hK;simp only [putAll];go_simp;exact hK _ (Grow.refl _)
 apply lex_eq [(6, true)] [(13, 0), (14, 1), (15, 2), (16, 3), (17, 4), (18, 5), (19, 6), (22, 9), (23, 10), (24, 11), (25, 12)] (by kernel_rfl) (by kernel_rfl) rfl
 ·intro xs w hw hp K hK;simp only [hz] at hp;simp only [putAll];go_simp;exact hK _ (Grow.refl _)
 apply lex_eq [(5, true), (7, true)] [(13, 0), (14, 1), (15, 2), (16, 3), (17, 4), (18, 5), (19, 6), (20, 7), (22, 9), (23, 10), (24, 11)] (by kernel_rfl) (by kernel_rfl) rfl
 ·intro xs w hw hp K hK;simp only [hz] at hp;simp only [putAll];go_simp;exact hK _ (Grow.refl _)
 apply lex_eq [] [(13, 0), (14, 1), (15, 2), (16, 3), (17, 4), (18, 5), (19, 6), (20, 7), (21, 8), (23, 10), (25, 12)] (by kernel_rfl) (by kernel_rfl) rfl
 ·intro xs w hw hp K hK;simp only [putAll];go_simp;exact hK _ (Grow.refl _)
 apply lex_eq [] [(13, 0), (14, 1), (15, 2), (16, 3), (17, 4), (18, 5), (19, 6), (20, 7), (21, 8), (22, 9), (25, 12)] (by kernel_rfl) (by kernel_rfl) rfl
 ·intro xs w hw hp K hK;simp only [putAll];go_simp;exact hK _ (Grow.refl _)
 apply lex_eq [(9, true), (10, true)] [(13, 0), (14, 1), (15, 2), (16, 3), (17, 4), (18, 5), (19, 6), (20, 7), (21, 8), (22, 9), (23, 10)] (by kernel_rfl) (by kernel_rfl) rfl
 ·intro xs w hw hp K hK;simp only [hz] at hp;simp only [putAll];go_simp;exact hK _ (Grow.refl _)
 apply lex_eq [(8, true), (11, true)] [(13, 0), (14, 1), (15, 2), (16, 3), (17, 4), (18, 5), (19, 6), (20, 7), (21, 8), (22, 9), (23, 10), (24, 11)] (by kernel_rfl) (by kernel_rfl) rfl
 ·intro xs w hw hp K hK;simp only [hz] at hp;simp only [putAll];go_simp;exact hK _ (Grow.refl _)
 intro xs w hw hp;simp only [hz] at hp;simp only [putAll, hp, List.drop_succ_cons, List.drop_zero];have hcw := Hcells.out w hw;have hfw : w.frozen? ⟨g, ((x - 1) / 4).toNat, none⟩ = false := (hw.frozen (p := ⟨g, ((x - 1) / 4).toNat, none⟩) (lt_of_block HC1.out)).trans hfree;go_wp2;go_end0;have e1 : (3 : Int) * 2 ^ (2 * ((x - 1) % 4)).toNat % 256 = ((3 * 2 ^ (2 * ((x - 1) % 4)).toNat % 256 : Nat) : Int) := by push_cast; rfl
 have e2 : (s : Int) * 2 ^ (2 * ((x - 1) % 4)).toNat % 256 = ((s * 2 ^ (2 * ((x - 1) % 4)).toNat % 256 : Nat) : Int) := by push_cast; rfl
 have e3 : l[((x - 1) / 4).toNat] = l.getD ((x - 1) / 4).toNat 0 := by simp [hq1]
 rw [e1, e2, e3, Hpb.out];refine ⟨rfl, brow_set hgb (w := w) ?_ HC2.out HC3.out HC4.out _ hq1 _, ?_⟩
 ·rw [Grow.undrew hw |>.block g (lt_of_block HC1.out)]; exact HC1.out
 ·exact ((Below.mono (Grow.undrew hw) (by have := lt_of_block HC1.out; omega)).setCell hgb _)
def madeP (n : Nat) (l : List UInt8) (lsn : Int) : Pg := { lsn := lsn, kind := 1, level := 0, right := 0, high := [], items := [sev n, l] }
set_option maxRecDepth 100000 in
set_option maxHeartbeats 1000000 in
theorem made_any (n : Nat) (v : Value) (l : List UInt8) (lsn : Int) (w_ : World) (hn : (n : Int) <= 9223372036854775807) (hcv : ∀ u, Grow w_ u -> (convert 93 9 v).run Tryz.prog u = .ok (.string (str l)) u) :
  Calls Tryz.prog 36 #[.int .i64 n, v, .int .i64 lsn] w_ fun e w' => ∃ iv, e = .returned (pgV (madeP n l lsn) iv) /\ ItemsS w' iv [sev n, l] /\ Below w_.heap.size w_ w' := by
 have Hcv := keep hcv;clear hcv;go_enter Tryz.func36, Tryz.ntmps36;go_wp2_with fail;generalize hw0 : w_.alloc (.cells #[.int .i64 0, .int .i64 0, .int .i64 0, .int .i64 0, .string ⟨#[]⟩, .slice none 0 0] 28) = w0;have hB0 : Blk w0 w_.heap.size 28 [.int .i64 0, .int .i64 0, .int .i64 0, .int .i64 0, .string ⟨#[]⟩, .slice none 0 0] := by subst hw0; exact Blk.new w_ _ _
 have hg0 : Grow w_ w0 := by subst hw0; exact (Grow.refl w_).alloc _
 have hlt0 := hB0.lt;clear hw0;refine (wrNew w0).mono ?_;rintro e w1 ⟨rfl, hW1, hb1⟩;go_wp2_with fail;have hnm := wrNum_some w0.heap.size [] [(n : Int)] w1.heap.size 0 1 #[.int .i64 n] (0, 0) (w1.alloc (.cells #[.int .i64 n] 3)) (hW1.alloc _) (by show (w1.heap.push _)[_]? = _; simp)
  (by intro j hj; simp at hj; subst hj; rfl) (by intro j hj; simp at hj; subst hj; simp; omega) (by simp)
 refine hnm.mono ?_;rintro e w3 ⟨rfl, hW3, hb3⟩;clear hnm;have hs1 := hb1.size;have hB3 : Blk w3 w_.heap.size 28 [.int .i64 0, .int .i64 0, .int .i64 0, .int .i64 0, .string ⟨#[]⟩, .slice none 0 0] := ((hB0.fits hb1).alloc _).below hb3 hlt0;have hg3 : Grow w_ w3 := Below.trans hg0 (((hb1.alloc hs1 _).trans hb3).mono hg0.size);have hsev : [] ++ sevs [(n : Int)] = sev n := by simp [sevs]
 rw [hsev] at hW3;have hWu : ∀ u, Grow w3.drew u -> Wr u w0.heap.size (sev n) := fun u hu => Wr.grow (w := w3.drew) hW3 hu
 have hCu : ∀ u, Grow w3.drew u -> (convert 93 9 v).run Tryz.prog u = .ok (.string (str l)) u := fun u hu => Hcv.out u (Grow.trans hg3 hu.undrew)
 have HW := keep hWu;have HC := keep hCu;clear hWu hCu hsev hW1 hW3;go_wp2_with fail;refine wp_region_grow (by kernel_rfl) 6 (by kernel_rfl) [(13, 0), (14, 1), (15, 2), (16, 3), (17, 4), (18, 5)] (by kernel_rfl) [(0, true), (1, true), (2, true), (3, true), (4, true), (5, true)] (by kernel_rfl) rfl rfl ?_;apply lex_eq [] [(14, 1), (15, 2), (16, 3), (17, 4), (18, 5)] (by kernel_rfl) (by kernel_rfl) rfl
 ·intro xs w hw hp K hK;simp only [putAll];go_simp;exact hK _ (Grow.refl _)
 apply lex_eq [] [(13, 0), (16, 3), (17, 4), (18, 5), (19, 6)] (by kernel_rfl) (by kernel_rfl) rfl
 ·intro xs w hw hp K hK;simp only [putAll];go_simp;exact hK _ (Grow.refl _)
 apply lex_eq [(1, true)] [(13, 0), (14, 1), (16, 3), (17, 4), (19, 6)] (by kernel_rfl) (by kernel_rfl) rfl
 ·intro xs w hw hp K hK;simp only [hz] at hp;simp only [putAll];go_simp;refine (wrBytes _ _ _ (HW.out w hw)).mono ?_; rintro e w' ⟨rfl, rfl⟩; exact ⟨_, rfl, hK _ (Grow.refl _)⟩
 apply lex_eq [] [(13, 0), (14, 1), (15, 2), (18, 5), (19, 6)] (by kernel_rfl) (by kernel_rfl) rfl
 ·intro xs w hw hp K hK;simp only [putAll];go_simp;exact hK _ (Grow.refl _)
 apply lex_eq [(3, true)] [(13, 0), (14, 1), (15, 2), (16, 3), (19, 6)] (by kernel_rfl) (by kernel_rfl) rfl
 ·intro xs w hw hp K hK;simp only [hz] at hp;simp only [putAll];have hcv := HC.out w hw;go_simp;exact hK _ (Grow.refl _)
 refine lex_says (fun v u => ∃ b, v = .slice (some ⟨b, 0, none⟩) 2 2 /\ Blk u b 9 [.string (str (sev n)), .string (str l)] /\ w3.heap.size <= b) (fun v u u' hg ⟨b, h1, h2, h3⟩ => ⟨b, h1, Blk.fits h2 hg, h3⟩) [(2, true), (4, true)] [(13, 0), (14, 1), (15, 2), (16, 3), (17, 4)] (by kernel_rfl) (by kernel_rfl) rfl ?_ ?_
 ·intro xs w hw hp K hK;simp only [hz] at hp;simp only [putAll];go_simp;exact hK _ _ ⟨_, rfl, Blk.new w _ [_, _], by simpa using hw.size⟩ ((Grow.refl w).alloc _)
 intro xs w hw hp;simp only [hz] at hp;simp only [putAll, hp, List.drop_succ_cons, List.drop_zero];obtain ⟨_, _, _, _, _, b, hp5, hBs, hbs⟩ := hp;simp only [hp5];have hB4 := hB3.fits (Grow.undrew hw);have c0 := hB4.cell 0 (by simp);have c1 := hB4.cell 1 (by simp);have c2 := hB4.cell 2 (by simp);have c3 := hB4.cell 3 (by simp);have c4 := hB4.cell 4 (by simp);have c5 := hB4.cell 5 (by simp);have f0 := hB4.free 0;have f1 := hB4.free 1;have f2 := hB4.free 2;have f3 := hB4.free 3;have f4 := hB4.free 4;have f5 := hB4.free 5;have hset := pgset hB4 (.int .i64 lsn) (.int .i64 1) (.int .i64 0) (.int .i64 0) (.string ⟨#[]⟩) (.slice (some ⟨b, 0, none⟩) 2 2);have hbut := pgbut w w_.heap.size (.int .i64 lsn) (.int .i64 1) (.int .i64 0) (.int .i64 0) (.string ⟨#[]⟩) (.slice (some ⟨b, 0, none⟩) 2 2);have Hset := keep hset;have Hbut := keep hbut;have hi : ItemsS w (.slice (some ⟨b, 0, none⟩) 2 2) [sev n, l] := RowS.blk hBs 2 2 _ 0 (by intro j hj; simp [sCells]);have Hi := keep hi;clear hset hbut hi;go_wp2;refine bodyPost_ret (v := pgV (madeP n l lsn) (.slice (some ⟨b, 0, none⟩) 2 2)) ?_ rfl ⟨_, rfl, items_but Hi.out Hbut.out hB4 (by decide), ?_⟩
 ·have r0 := Hset.out.cell 0 (by simp);have r1 := Hset.out.cell 1 (by simp);have r2 := Hset.out.cell 2 (by simp);have r3 := Hset.out.cell 3 (by simp);have r4 := Hset.out.cell 4 (by simp);have r5 := Hset.out.cell 5 (by simp);simp [results, Tryz.results36, go_sem, r0, r1, r2, r3, r4, r5, pgV, madeP]
  rfl
 ·exact But.below (Grow.trans hg3 (Grow.undrew hw)) Hbut.out (Nat.le_refl _) (by have := (Grow.undrew hw).size; have := hg3.size; omega)
end Go.Proofs.YtcdapdcablnhpaaGreat
namespace Go.Proofs.YtcdapdcablnhpaaGreat
open Go.RowKit
def noPg : Pg := { lsn := 0, kind := 0, level := 0, right := 0, high := [], items := [] }
def pg0 : List Value := [.int .i64 0, .int .i64 0, .int .i64 0, .int .i64 0, .string ⟨#[]⟩, .slice none 0 0]
def CpgPost (P : Pg) (c : Int) (w : World) (e : Ending) (w' : World) : Prop := ∃ iv, e = .returned (.tuple #[pgV P iv, .int .i64 c]) /\ ItemsS w' iv P.items /\ Below w.heap.size w w'
def blankS (m fr : Int) : Pg × Int := if idsB m [fr] then (madeP fr.toNat (List.replicate ((m + 3) / 4).toNat 0) 0, 0) else (noPg, 1)
set_option maxRecDepth 100000 in
set_option maxHeartbeats 1000000 in
theorem blank_bad (m fr : Int) (w : World) (h : idsB m [fr] = false) : Calls Tryz.prog 9 #[.int .i64 m, .int .i64 fr] w (CpgPost noPg 1 w) := by
 cases hm : modB m with
 | false =>
  go_enter Tryz.func9, Tryz.ntmps9;go_wp2_with fail;generalize hw0 : w.alloc (.cells #[.int .i64 0, .int .i64 0, .int .i64 0, .int .i64 0, .string ⟨#[]⟩, .slice none 0 0] 28) = w0;have hB0 : Blk w0 w.heap.size 28 pg0 := by subst hw0; exact Blk.new w _ _
  have hg0 : Grow w w0 := by subst hw0; exact (Grow.refl w).alloc _
  clear hw0;refine (isModulus_any _ _).mono ?_;rintro e w1 ⟨rfl, hb1⟩;have hB1 := hB0.fits hb1;obtain ⟨c0, c1, c2, c3, c4, c5, f0, f1, f2, f3, f4, f5⟩ := pgres hB1;have hset := pgset hB1 (.int .i64 0) (.int .i64 0) (.int .i64 0) (.int .i64 0) (.string ⟨#[]⟩) (.slice none 0 0);have hbut := pgbut w1 w.heap.size (.int .i64 0) (.int .i64 0) (.int .i64 0) (.int .i64 0) (.string ⟨#[]⟩) (.slice none 0 0);have Hset := keep hset;have Hbut := keep hbut;clear hset hbut;go_wp2_with fail;refine bodyPost_ret (v := .tuple #[pgV noPg (.slice none 0 0), .int .i64 1]) ?_ rfl ⟨_, rfl, RowS.nil _ _ _ _, But.below (Grow.trans hg0 hb1) Hbut.out (Nat.le_refl _) (Grow.trans hg0 hb1).size⟩;obtain ⟨r0, r1, r2, r3, r4, r5, _⟩ := pgres Hset.out;simp [results, Tryz.results9, go_sem, r0, r1, r2, r3, r4, r5, pgV, noPg]
  rfl
 | true =>
  go_enter Tryz.func9, Tryz.ntmps9;go_wp2_with fail;generalize hw0 : w.alloc (.cells #[.int .i64 0, .int .i64 0, .int .i64 0, .int .i64 0, .string ⟨#[]⟩, .slice none 0 0] 28) = w0;have hB0 : Blk w0 w.heap.size 28 pg0 := by subst hw0; exact Blk.new w _ _
  have hg0 : Grow w w0 := by subst hw0; exact (Grow.refl w).alloc _
  clear hw0;refine (isModulus_any _ _).mono ?_;rintro e w1 ⟨rfl, hb1⟩;go_wp2_with fail;refine (isID_any _ _ _).mono ?_;rintro e w2 ⟨rfl, hb2⟩;have hB1 := (hB0.fits hb1).fits hb2;obtain ⟨c0, c1, c2, c3, c4, c5, f0, f1, f2, f3, f4, f5⟩ := pgres hB1;have hset := pgset hB1 (.int .i64 0) (.int .i64 0) (.int .i64 0) (.int .i64 0) (.string ⟨#[]⟩) (.slice none 0 0);have hbut := pgbut w2 w.heap.size (.int .i64 0) (.int .i64 0) (.int .i64 0) (.int .i64 0) (.string ⟨#[]⟩) (.slice none 0 0);have Hset := keep hset;have Hbut := keep hbut;have hg2 := Grow.trans (Grow.trans hg0 hb1) hb2;clear hset hbut;go_wp2_with fail;refine bodyPost_ret (v := .tuple #[pgV noPg (.slice none 0 0), .int .i64 1]) ?_ rfl ⟨_, rfl, RowS.nil _ _ _ _, But.below hg2 Hbut.out (Nat.le_refl _) (Below.size hg2)⟩;obtain ⟨r0, r1, r2, r3, r4, r5, _⟩ := pgres Hset.out;simp [results, Tryz.results9, go_sem, r0, r1, r2, r3, r4, r5, pgV, noPg]
  rfl
set_option maxRecDepth 100000 in
set_option maxHeartbeats 1000000 in
theorem blank_ok (m fr : Int) (w : World) (h : idsB m [fr] = true) : Calls Tryz.prog 9 #[.int .i64 m, .int .i64 fr] w (CpgPost (madeP fr.toNat (List.replicate ((m + 3) / 4).toNat 0) 0) 0 w) := by
 obtain ⟨hm, hf1, hf2⟩ := idsB_one h;obtain ⟨hm1, hm2, _⟩ := modB_bd hm;obtain ⟨i0, hi, hz0, hz1, hz2⟩ := info_parts infoU8;obtain ⟨fn, rfl⟩ := Int.eq_ofNat_of_zero_le (show 0 <= fr by omega);obtain ⟨sz, hsz⟩ : ∃ sz : Nat, (m + 3) / 4 = (sz : Int) := ⟨((m + 3) / 4).toNat, by omega⟩;have hszl : sz <= 256 := by omega
 have HSZ := keep hsz;go_enter Tryz.func9, Tryz.ntmps9;go_wp2_with fail;generalize hw0 : w.alloc (.cells #[.int .i64 0, .int .i64 0, .int .i64 0, .int .i64 0, .string ⟨#[]⟩, .slice none 0 0] 28) = w0;have hB0 : Blk w0 w.heap.size 28 pg0 := by subst hw0; exact Blk.new w _ _
 have hg0 : Grow w w0 := by subst hw0; exact (Grow.refl w).alloc _
 clear hw0;refine (isModulus_any _ _).mono ?_;rintro e w1 ⟨rfl, hb1⟩;go_wp2_with fail;refine (isID_any _ _ _).mono ?_;rintro e w2 ⟨rfl, hb2⟩;have hB2 := (hB0.fits hb1).fits hb2;have hg2 := Grow.trans (Grow.trans hg0 hb1) hb2;clear hB0 hg0 hb1 hb2;go_wp2_with fail;refine (csize_any m w2 (by omega) hm2).mono ?_;rintro e w3 ⟨rfl, rfl⟩;go_wp2_with ((at_make; go_must (refine wpList_make_full _ rfl _ _ 93 rfl w2.heap.size 5 i0 (.int .u8 0) 1 Tryz.underlying93 hi hz0 hz1 .i64 .i64 _ _ sz rfl rfl (by omega) (by omega) (by rw [hz2]; omega) (by unfold maxLen; omega) (Nat.le_refl _) ?_); intro w4 hown hgrow));have hz : (madeCells (Value.int IntKind.u8 0).cells (sz * 1)).toList = bcells (List.replicate sz 0) := by
  rw [Nat.mul_one, bcells, List.map_replicate]; exact toList_madeCells_one _ _
 rw [hz] at hown;have hg4 : Grow w2 w4 := (Below.refl _ _).grown hgrow (Nat.le_refl _) (by simp);have hB4 := hB2.fits hg4;have hcv : ∀ u, Grow w4 u -> (convert 93 9 (.slice (some ⟨w2.heap.size, 0, none⟩) sz sz)).run Tryz.prog u = .ok (.string (str (List.replicate sz 0))) u := by
  intro u hu;refine own_convert (base := w2.heap.size) (n := sz) ⟨hown.1, ?_⟩ (by simp);rcases hown.2 with h | ⟨g, cap, cur, a1, a2, a3, a4⟩
  ·exact .inl h
  ·exact .inr ⟨g, cap, cur, a1, a2, by rw [hu.block g (lt_of_block a3)]; exact a3, a4⟩
 refine (made_any fn _ (List.replicate sz 0) 0 w4 (by omega) hcv).mono ?_;rintro e w5 ⟨iv, rfl, hit, hb5⟩;have hB5 := hB4.fits hb5;have hg5 := Grow.trans (Grow.trans hg2 hg4) hb5;obtain ⟨c0, c1, c2, c3, c4, c5, f0, f1, f2, f3, f4, f5⟩ := pgres hB5;have hset := pgset hB5 (.int .i64 0) (.int .i64 1) (.int .i64 0) (.int .i64 0) (.string (str [])) iv;have hbut := pgbut w5 w.heap.size (.int .i64 0) (.int .i64 1) (.int .i64 0) (.int .i64 0) (.string (str [])) iv;have Hset := keep hset;have Hbut := keep hbut;have Hit := keep hit;have e1 : ((m + 3) / 4).toNat = sz := by have := HSZ.out; omega
 have E1 := keep e1;obtain ⟨iva, ivc, hivf⟩ : ∃ a c, iv = .slice a 2 c := items_form hit.weak;subst hivf;clear hset hbut hcv hown hgrow hz hit e1 hsz hB2 hB4;unfold pgV madeP;go_wp2_with fail;refine bodyPost_ret (v := .tuple #[pgV (madeP fn (List.replicate sz 0) 0) (.slice iva 2 ivc), .int .i64 0]) ?_ rfl ?_
 ·obtain ⟨r0, r1, r2, r3, r4, r5, _⟩ := pgres Hset.out;simp [results, Tryz.results9, go_sem, r0, r1, r2, r3, r4, r5, pgV, madeP]
 ·rw [Int.toNat_natCast, E1.out];exact ⟨_, rfl, items_but Hit.out Hbut.out hB5 (by decide), But.below hg5 Hbut.out (Nat.le_refl _) (Below.size hg5)⟩
theorem blank_any (m fr : Int) (w : World) : Calls Tryz.prog 9 #[.int .i64 m, .int .i64 fr] w (CpgPost (blankS m fr).1 (blankS m fr).2 w) := by
 unfold blankS;cases h : idsB m [fr] with
 | false => exact blank_bad m fr w h
 | true => exact blank_ok m fr w h
def setS (m : Int) (p : Pg) (x : Int) (s : Nat) : Pg × Int :=
 if openE m p = 0 then if idsB m [x] && decide (s <= 3) then (madeP (openNum m p).1.toNat (putS (p.items.getD 1 []) x s) p.lsn, 0) else (noPg, 1) else (noPg, openE m p)
set_option maxRecDepth 100000 in
set_option maxHeartbeats 1000000 in
theorem set_bad (m : Int) (p : Pg) (iv : Value) (x : Int) (s : Nat) (w : World) (hi : Items w iv p.items) (hs : ∀ x ∈ p.items, (x.length : Int) <= 9223372036854775807) (h0 : openE m p ≠ 0) :
  Calls Tryz.prog 10 #[.int .i64 m, pgV p iv, .int .i64 x, .int .u8 s] w (CpgPost noPg (openE m p) w) := by
 obtain ⟨w0, hw0⟩ : ∃ w0, w0 = (w.alloc (.cells (pgCells p iv).toArray 28)).alloc (.cells #[.int .i64 0, .int .i64 0, .int .i64 0, .int .i64 0, .string ⟨#[]⟩, .slice none 0 0] 28) := ⟨_, rfl⟩;have hg0 : Grow w w0 := by subst hw0; exact ((Grow.refl w).alloc _).alloc _
 have hBb : Blk w0 w.heap.size 28 (pgCells p iv) := by subst hw0; exact (Blk.new w _ _).alloc _
 have hB0 : Blk w0 (w.heap.size + 1) 28 pg0 := by
  have := Blk.new (w.alloc (.cells (pgCells p iv).toArray 28)) 28 pg0;have e : (w.alloc (.cells (pgCells p iv).toArray 28)).heap.size = w.heap.size + 1 := by simp
  rw [e] at this;subst hw0; exact this
 have ho := open_any m p iv w0 (hi.fits hg0) hs;unfold pgV CopenPost at ho;rw [if_neg h0] at ho;unfold pgCells at hw0 hBb;have h0' : (openE m p != 0) = true := by simpa using h0
 generalize openE m p = E at *;have Ho := keep ho;clear ho h0 hi hs;unfold pgV;go_enter Tryz.func10, Tryz.ntmps10;obtain ⟨c0, c1, c2, c3, c4, c5, f0, f1, f2, f3, f4, f5⟩ := pgres hBb;go_wp2_with fail;rw [<- hw0];refine Ho.out.mono ?_;rintro e w1 ⟨bv, rfl, hb, _, a, n, c, rfl⟩;have hg1 := Grow.trans hg0 hb;have hB1 := hB0.fits hb;clear hw0 hg0 hBb hB0 c0 c1 c2 c3 c4 c5 f0 f1 f2 f3 f4 f5 hb Ho;obtain ⟨c0, c1, c2, c3, c4, c5, f0, f1, f2, f3, f4, f5⟩ := pgres hB1;have hset := pgset hB1 (.int .i64 0) (.int .i64 0) (.int .i64 0) (.int .i64 0) (.string ⟨#[]⟩) (.slice none 0 0);have hbut := pgbut w1 (w.heap.size + 1) (.int .i64 0) (.int .i64 0) (.int .i64 0) (.int .i64 0) (.string ⟨#[]⟩) (.slice none 0 0);have Hset := keep hset;have Hbut := keep hbut;clear hset hbut;go_wp2_with fail;refine bodyPost_ret (v := .tuple #[pgV noPg (.slice none 0 0), .int .i64 E]) ?_ rfl ⟨_, rfl, RowS.nil _ _ _ _, But.below hg1 Hbut.out (by omega) (Below.size hg1)⟩;obtain ⟨r0, r1, r2, r3, r4, r5, _⟩ := pgres Hset.out;simp [results, Tryz.results10, go_sem, r0, r1, r2, r3, r4, r5, pgV, noPg]
 rfl
set_option maxRecDepth 100000 in
set_option maxHeartbeats 1000000 in
theorem set_arg (m : Int) (p : Pg) (iv : Value) (x : Int) (s : Nat) (w : World) (hi : Items w iv p.items) (hs : ∀ x ∈ p.items, (x.length : Int) <= 9223372036854775807) (h0 : openE m p = 0) (h1 : (idsB m [x] && decide (s <= 3)) = false) (hs8 : s < 256) :
  Calls Tryz.prog 10 #[.int .i64 m, pgV p iv, .int .i64 x, .int .u8 s] w (CpgPost noPg 1 w) := by
 obtain ⟨w0, hw0⟩ : ∃ w0, w0 = (w.alloc (.cells (pgCells p iv).toArray 28)).alloc (.cells #[.int .i64 0, .int .i64 0, .int .i64 0, .int .i64 0, .string ⟨#[]⟩, .slice none 0 0] 28) := ⟨_, rfl⟩;have hg0 : Grow w w0 := by subst hw0; exact ((Grow.refl w).alloc _).alloc _
 have hBb : Blk w0 w.heap.size 28 (pgCells p iv) := by subst hw0; exact (Blk.new w _ _).alloc _
 have hB0 : Blk w0 (w.heap.size + 1) 28 pg0 := by
  have := Blk.new (w.alloc (.cells (pgCells p iv).toArray 28)) 28 pg0;have e : (w.alloc (.cells (pgCells p iv).toArray 28)).heap.size = w.heap.size + 1 := by simp
  rw [e] at this;subst hw0; exact this
 have ho := open_any m p iv w0 (hi.fits hg0) hs;unfold pgV CopenPost at ho;rw [if_pos h0] at ho;unfold pgCells at hw0 hBb;rw [h0] at ho;generalize (openNum m p).1 = F at *;generalize p.items.getD 1 [] = l at *;have Ho := keep ho;clear ho h0 hi hs;unfold pgV;go_enter Tryz.func10, Tryz.ntmps10;obtain ⟨c0, c1, c2, c3, c4, c5, f0, f1, f2, f3, f4, f5⟩ := pgres hBb;go_wp2_with fail;rw [<- hw0];refine Ho.out.mono ?_;rintro e w1 ⟨bv, rfl, hb, hbr, a, n, c, rfl⟩;have hg1 := Grow.trans hg0 hb;have hB1 := hB0.fits hb;clear hw0 hg0 hBb hB0 c0 c1 c2 c3 c4 c5 f0 f1 f2 f3 f4 f5 hb Ho hbr;go_wp2_with fail;refine (isID_any _ _ _).mono ?_;rintro e w2 ⟨rfl, hb2⟩;have hg2 := Grow.trans hg1 hb2;have hB2 := hB1.fits hb2;obtain ⟨c0, c1, c2, c3, c4, c5, f0, f1, f2, f3, f4, f5⟩ := pgres hB2;have hset := pgset hB2 (.int .i64 0) (.int .i64 0) (.int .i64 0) (.int .i64 0) (.string ⟨#[]⟩) (.slice none 0 0);have hbut := pgbut w2 (w.heap.size + 1) (.int .i64 0) (.int .i64 0) (.int .i64 0) (.int .i64 0) (.string ⟨#[]⟩) (.slice none 0 0);have Hset := keep hset;have Hbut := keep hbut;clear hset hbut hB1 hg1 hb2;cases hB : idsB m [x] with
 | false =>
  go_wp2_with fail;refine bodyPost_ret (v := .tuple #[pgV noPg (.slice none 0 0), .int .i64 1]) ?_ rfl ⟨_, rfl, RowS.nil _ _ _ _, But.below hg2 Hbut.out (by omega) (Below.size hg2)⟩;obtain ⟨r0, r1, r2, r3, r4, r5, _⟩ := pgres Hset.out;simp [results, Tryz.results10, go_sem, r0, r1, r2, r3, r4, r5, pgV, noPg]
  rfl
 | true =>
  have hs3 : (3 : Int) < (s : Int) := by rw [hB] at h1; simp at h1; omega
  go_wp2_with fail;refine bodyPost_ret (v := .tuple #[pgV noPg (.slice none 0 0), .int .i64 1]) ?_ rfl ⟨_, rfl, RowS.nil _ _ _ _, But.below hg2 Hbut.out (by omega) (Below.size hg2)⟩;obtain ⟨r0, r1, r2, r3, r4, r5, _⟩ := pgres Hset.out;simp [results, Tryz.results10, go_sem, r0, r1, r2, r3, r4, r5, pgV, noPg]
  rfl
set_option maxRecDepth 100000 in
set_option maxHeartbeats 1000000 in
theorem set_ok (m : Int) (p : Pg) (iv : Value) (x : Int) (s : Nat) (w : World) (hi : Items w iv p.items) (hs : ∀ x ∈ p.items, (x.length : Int) <= 9223372036854775807) (h0 : openE m p = 0) (hB : idsB m [x] = true) (hs3 : s <= 3) :
  Calls Tryz.prog 10 #[.int .i64 m, pgV p iv, .int .i64 x, .int .u8 s] w (CpgPost (madeP (openNum m p).1.toNat (putS (p.items.getD 1 []) x s) p.lsn) 0 w) := by
 obtain ⟨_, hx1, hx2⟩ := idsB_one hB;obtain ⟨hm1, hm2, _⟩ := modB_bd (openE_zero h0).1;have hll := (openE_len h0).2.1;have hF : 0 <= (openNum m p).1 /\ (openNum m p).1 <= 1024 := by
  have hb := (openE_zero h0).2.2;unfold openBody at hb;simp only [Bool.and_eq_true, decide_eq_true_eq] at hb;have := rdNumS_facts m (p.items.getD 0 []);have h5 := (this.2.2.2.2 hb.1.1.1).1;unfold openNum;omega
 obtain ⟨fn, hfn⟩ := Int.eq_ofNat_of_zero_le hF.1;obtain ⟨w0, hw0⟩ : ∃ w0, w0 = (w.alloc (.cells (pgCells p iv).toArray 28)).alloc (.cells #[.int .i64 0, .int .i64 0, .int .i64 0, .int .i64 0, .string ⟨#[]⟩, .slice none 0 0] 28) := ⟨_, rfl⟩;have hg0 : Grow w w0 := by subst hw0; exact ((Grow.refl w).alloc _).alloc _
 have hBb : Blk w0 w.heap.size 28 (pgCells p iv) := by subst hw0; exact (Blk.new w _ _).alloc _
 have hB0 : Blk w0 (w.heap.size + 1) 28 pg0 := by
  have := Blk.new (w.alloc (.cells (pgCells p iv).toArray 28)) 28 pg0;have e : (w.alloc (.cells (pgCells p iv).toArray 28)).heap.size = w.heap.size + 1 := by simp
  rw [e] at this;subst hw0; exact this
 have ho := open_any m p iv w0 (hi.fits hg0) hs;unfold pgV CopenPost at ho;rw [if_pos h0] at ho;unfold pgCells at hw0 hBb;rw [h0] at ho;rw [hfn] at ho hF ⊢;rw [Int.toNat_natCast];generalize p.items.getD 1 [] = l at *;have hq1 : ((x - 1) / 4).toNat < l.length := by omega
 have HL := keep hll;have hl2 : (l.length : Int) <= 9223372036854775807 := by omega
 have Ho := keep ho;have HF := keep hF;clear ho h0 hi hs hfn hF hll;unfold pgV;go_enter Tryz.func10, Tryz.ntmps10;obtain ⟨c0, c1, c2, c3, c4, c5, f0, f1, f2, f3, f4, f5⟩ := pgres hBb;go_wp2_with fail;rw [<- hw0];refine Ho.out.mono ?_;rintro e w1 ⟨bv, rfl, hb, hbr, a, n, c, rfl⟩;have hg1 := Grow.trans hg0 hb;have hB1 := hB0.fits hb;have hb1 := hBb.fits hb;have hR1 := hbr trivial;clear hw0 c0 c1 c2 c3 c4 c5 f0 f1 f2 f3 f4 f5 hb Ho hbr;go_wp2_with fail;refine (isID_any _ _ _).mono ?_;rintro e w2 ⟨rfl, hb2⟩;have hg2 := Grow.trans hg1 hb2;have hB2 := hB1.fits hb2;have hbb2 := hb1.fits hb2;have hR2 := hR1.fits hb2;have hs3' : (s : Int) <= 3 := by omega
 clear hg1 hB1 hb1 hR1;go_wp2_with fail;refine (cput_any _ _ _ x s w2 hR2 hx1 (by omega) hq1 (by omega) hl2).mono ?_;rintro e w3 ⟨rfl, hR3, hb3⟩;have hz0 := hb2.size;have hz1 := hg0.size;have hl0 := hBb.lt;have hl1 := hB0.lt;have hg3 : Grow w w3 := Below.trans hg2 (hb3.mono (by omega));have hB3 := hB2.below hb3 (by omega);have hbb3 := hbb2.below hb3 (by omega);obtain ⟨c0, c1, c2, c3, c4, c5, f0, f1, f2, f3, f4, f5⟩ := pgres hbb3;clear hg2 hB2 hbb2 hb3 hb2 hR2;go_wp2_with fail;refine (made_any fn _ (putS l x s) p.lsn w3 (by have := HF.out; omega) (fun u hu => (hR3.fits hu).converts)).mono ?_;rintro e w4 ⟨iv', rfl, hit, hb4⟩;have hB4 := hB3.fits hb4;have hg4 := Grow.trans hg3 hb4;obtain ⟨iva, ivc, hivf⟩ : ∃ a c, iv' = .slice a 2 c := items_form hit.weak;subst hivf;clear c0 c1 c2 c3 c4 c5 f0 f1 f2 f3 f4 f5 hbb3 hB3 hR3;obtain ⟨c0, c1, c2, c3, c4, c5, f0, f1, f2, f3, f4, f5⟩ := pgres hB4;have hset := pgset hB4 (.int .i64 p.lsn) (.int .i64 1) (.int .i64 0) (.int .i64 0) (.string (str [])) (.slice iva 2 ivc);have hbut := pgbut w4 (w.heap.size + 1) (.int .i64 p.lsn) (.int .i64 1) (.int .i64 0) (.int .i64 0) (.string (str [])) (.slice iva 2 ivc);have Hset := keep hset;have Hbut := keep hbut;have Hit := keep hit;clear hset hbut hit;unfold pgV madeP;go_wp2_with fail;refine bodyPost_ret (v := .tuple #[pgV (madeP fn (putS l x s) p.lsn) (.slice iva 2 ivc), .int .i64 0]) ?_ rfl ?_
 ·obtain ⟨r0, r1, r2, r3, r4, r5, _⟩ := pgres Hset.out;simp [results, Tryz.results10, go_sem, r0, r1, r2, r3, r4, r5, pgV, madeP]
 ·exact ⟨_, rfl, items_but Hit.out Hbut.out hB4 (by decide), But.below hg4 Hbut.out (by omega) (Below.size hg4)⟩
theorem set_any (m : Int) (p : Pg) (iv : Value) (x : Int) (s : Nat) (w : World) (hi : Items w iv p.items) (hs : ∀ x ∈ p.items, (x.length : Int) <= 9223372036854775807) (hs8 : s < 256) :
  Calls Tryz.prog 10 #[.int .i64 m, pgV p iv, .int .i64 x, .int .u8 s] w (CpgPost (setS m p x s).1 (setS m p x s).2 w) := by
 unfold setS
 by_cases h0 : openE m p = 0
 ·rw [if_pos h0];cases h1 : (idsB m [x] && decide (s <= 3)) with
  | false => exact set_arg m p iv x s w hi hs h0 h1 hs8
  | true =>
   simp only [Bool.and_eq_true, decide_eq_true_eq] at h1;exact set_ok m p iv x s w hi hs h0 h1.1 h1.2
 ·rw [if_neg h0];exact set_bad m p iv x s w hi hs h0
def idxI (l : List Int) (x : Int) : Int := if l.contains x then (l.idxOf x : Int) else -1
theorem idxI_hit {l : List Int} {x : Int} {k : Nat} (hk : k < l.length) (h1 : ∀ y ∈ l.take k, y ≠ x) (h2 : l.getD k 0 = x) : idxI l x = k := by
 have hg : l[k] = x := by simpa [hk] using h2
 have hmem : l.contains x = true := by
  rw [List.contains_iff_mem]; exact hg ▸ List.getElem_mem hk
 unfold idxI;rw [if_pos hmem];have e : l = l.take k ++ x :: l.drop (k + 1) := by
  rw [<- hg, <- List.drop_eq_getElem_cons hk, List.take_append_drop]
 have : x ∉ l.take k := fun hm => h1 x hm rfl
 rw [e, List.idxOf_append, if_neg this];simp; omega
theorem idxI_none {l : List Int} {x : Int} (h1 : ∀ y ∈ l, y ≠ x) : idxI l x = -1 := by
 unfold idxI;rw [if_neg];intro h;rw [List.contains_iff_mem] at h;exact h1 x h rfl
set_option maxHeartbeats 1000000 in
theorem sindex_any (v : Value) (l : List Int) (x : Int) (w : World) (hv : Ints w v l) (hlen : (l.length : Int) <= 70368744177664) :
  Calls Tryz.prog 248 #[v, .int .i64 x] w fun e w' => e = .returned (.int .i64 (idxI l x)) /\ Below w.heap.size w w' := by
 obtain ⟨a, cap, rfl, hc⟩ := ints_form hv;clear hv;go_enter Tryz.func248, Tryz.ntmps248;go_wp2_with fail;go_loop [8] (fun i => ∃ k : Nat, k <= l.length /\ i = .int .i64 k /\ Kept (∀ y ∈ l.take k, y ≠ x)) (fun i => l.length - (intOf i).toNat)
 case atStart => exact ⟨0, Nat.zero_le _, rfl, keep (by simp)⟩
 case round =>
  obtain ⟨k, hk, rfl, hall⟩ := hrel
  by_cases hlt : k < l.length
  ·obtain ⟨c, off, rfl, hcell⟩ := hc k hlt;have hhit := @idxI_hit l x k hlt hall.out;have htake : l.take (k + 1) = l.take k ++ [l.getD k 0] := by
    rw [List.take_succ_eq_append_getElem hlt]; simp [hlt]
   generalize l.getD k 0 = y at hcell hhit htake;have HH := keep hhit;have HT := keep htake;clear hhit htake hc
   by_cases hxy : y = x
   ·have e1 : (x == y) = true := by simp [hxy]
    go_wp2_with fail;go_ret;rw [HH.out hxy];exact ⟨rfl, Below.refl _ _⟩
   ·have e1 : (x == y) = false := by simp; exact fun h => hxy h.symm
    go_wp2_with fail;go_round
    case rel =>
     refine ⟨k + 1, by omega, by go_num, keep ?_⟩;rw [HT.out];intro z hz;rcases List.mem_append.mp hz with hz | hz
     ·exact hall.out z hz
     ·simp at hz; rw [hz]; exact hxy
    case measure => simp [intOf]; omega
  ·have e : l.take k = l := List.take_of_length_le (by omega);have hn := @idxI_none l x (by have := hall.out; rw [e] at this; exact this);have HN := keep hn;clear hn e;go_wp2_with fail;go_ret;rw [HN.out];exact ⟨rfl, Below.refl _ _⟩
set_option maxHeartbeats 1000000 in
theorem contains_any (v : Value) (l : List Int) (x : Int) (w : World) (hv : Ints w v l) (hlen : (l.length : Int) <= 70368744177664) :
  Calls Tryz.prog 244 #[v, .int .i64 x] w fun e w' => e = .returned (.bool (l.contains x)) /\ Below w.heap.size w w' := by
 have hi := sindex_any v l x w hv hlen;have hd : decide (0 <= idxI l x) = l.contains x := by
  unfold idxI; split <;> rename_i h <;> rw [Bool.eq_iff_iff] <;> simp at h ⊢ <;> simp [h]
 generalize idxI l x = I at *;have Hi := keep hi;have HD := keep hd;obtain ⟨a, cap, rfl, _⟩ := ints_form hv;clear hi hv hd;go_enter Tryz.func244, Tryz.ntmps244;go_wp2_with fail;refine Hi.out.mono ?_;rintro e w1 ⟨rfl, hb⟩;go_wp2_with fail;go_ret;rw [<- HD.out];exact ⟨rfl, hb⟩
structure Vw where
 m : Int
 next : Int
 active : List Int
 own : Int
 running : List Int
 clog : Pg
def vwV (v : Vw) (av rv iv : Value) : Value := .agg #[.int .i64 v.m, .int .i64 v.next, av, .int .i64 v.own, rv, .int .i64 v.clog.lsn, .int .i64 v.clog.kind, .int .i64 v.clog.level, .int .i64 v.clog.right, .string (str v.clog.high), iv]
def vwCells (v : Vw) (av rv iv : Value) : List Value := [.int .i64 v.m, .int .i64 v.next, av, .int .i64 v.own, rv, .int .i64 v.clog.lsn, .int .i64 v.clog.kind, .int .i64 v.clog.level, .int .i64 v.clog.right, .string (str v.clog.high), iv]
structure VwIn (w : World) (v : Vw) (av rv iv : Value) : Prop where
 act : Ints w av v.active
 run : Ints w rv v.running
 items : Items w iv v.clog.items
 actl : (v.active.length : Int) <= 70368744177664
 runl : (v.running.length : Int) <= 70368744177664
 itemsl : (v.clog.items.length : Int) <= 70368744177664
 texts : ∀ x ∈ v.clog.items, (x.length : Int) <= 9223372036854775807
theorem VwIn.fits {w w' : World} {v : Vw} {av rv iv : Value} (h : VwIn w v av rv iv) (k : Below w.heap.size w w') : VwIn w' v av rv iv :=
 ⟨h.act.fits k, h.run.fits k, Row.fits h.items k, h.actl, h.runl, h.itemsl, h.texts⟩
def statusS (v : Vw) (x : Int) : Nat := if v.running.contains x then 1 else (getS v.m v.clog x).1
theorem getS_err {m : Int} {p : Pg} {x : Int} (h : (getS m p x).2 ≠ 0) : (getS m p x).1 = 0 := by
 unfold getS at *
 split at h
 ·split at h
  ·exact absurd rfl h
  ·rename_i h1 h2; simp [h1, h2]
 ·rename_i h1; simp [h1]
set_option maxRecDepth 100000 in
set_option maxHeartbeats 1000000 in
theorem status_any (v : Vw) (av rv iv : Value) (x : Int) (w : World) (hv : VwIn w v av rv iv) :
  Calls Tryz.prog 246 #[vwV v av rv iv, .int .i64 x] w fun e w' => e = .returned (.int .u8 (statusS v x)) /\ Below w.heap.size w w' := by
 obtain ⟨w0, hw0⟩ : ∃ w0, w0 = w.alloc (.cells (vwCells v av rv iv).toArray 40) := ⟨_, rfl⟩;have hg0 : Grow w w0 := by subst hw0; exact (Grow.refl w).alloc _
 have hB0 : Blk w0 w.heap.size 40 (vwCells v av rv iv) := by subst hw0; exact Blk.new w _ _
 have hc := contains_any rv v.running x w0 (hv.run.fits hg0) hv.runl;have hit := hv.items;have hd : statusS v x = if v.running.contains x then 1 else (getS v.m v.clog x).1 := rfl
 obtain ⟨iva, ivc, rfl⟩ := items_form hv.items;obtain ⟨rva, rvc, rfl, _⟩ := ints_form hv.run;obtain ⟨ava, avc, rfl, _⟩ := ints_form hv.act;have ht := hv.texts;have HV := keep hit;have HT := keep ht;have HD := keep hd;have Hc := keep hc;clear hv hit ht hd hc;unfold vwV vwCells at *;have c0 := hB0.cell 0 (by simp);have c1 := hB0.cell 1 (by simp);have c2 := hB0.cell 2 (by simp);have c3 := hB0.cell 3 (by simp);have c4 := hB0.cell 4 (by simp);have c5 := hB0.cell 5 (by simp);have c6 := hB0.cell 6 (by simp);have c7 := hB0.cell 7 (by simp);have c8 := hB0.cell 8 (by simp);have c9 := hB0.cell 9 (by simp);have c10 := hB0.cell 10 (by simp);go_enter Tryz.func246, Tryz.ntmps246;go_wp2_with fail;rw [<- hw0];refine Hc.out.mono ?_;rintro e w1 ⟨rfl, hb1⟩;have hg1 := Grow.trans hg0 hb1;have hB1 := hB0.fits hb1;clear hw0 c0 c1 c2 c3 c4 c5 c6 c7 c8 c9 c10 hB0 hb1 hg0;cases hx : v.running.contains x with
 | true =>
  rw [hx] at HD;go_wp2_with fail;go_ret;have := HD.out;simp at this;rw [this];exact ⟨rfl, hg1⟩
 | false =>
  rw [hx] at HD;have c0 := hB1.cell 0 (by simp);have c1 := hB1.cell 1 (by simp);have c2 := hB1.cell 2 (by simp);have c3 := hB1.cell 3 (by simp);have c4 := hB1.cell 4 (by simp);have c5 := hB1.cell 5 (by simp);have c6 := hB1.cell 6 (by simp);have c7 := hB1.cell 7 (by simp);have c8 := hB1.cell 8 (by simp);have c9 := hB1.cell 9 (by simp);have c10 := hB1.cell 10 (by simp);go_wp2_with fail;refine (get_any v.m v.clog _ x w1 (Row.fits HV.out hg1) HT.out).mono ?_;rintro e w2 ⟨rfl, hb2⟩;have hg2 := Grow.trans hg1 hb2;have he := @getS_err v.m v.clog x;have hd2 : statusS v x = (getS v.m v.clog x).1 := by have := HD.out; simpa using this
  generalize getS v.m v.clog x = G at *;have HD2 := keep hd2;clear c0 c1 c2 c3 c4 c5 c6 c7 c8 c9 c10 hd2 HD
  by_cases h0 : G.2 = 0
  ·have h0' : (G.2 != 0) = false := by simpa using h0
   clear he;go_wp2_with fail;go_ret;rw [HD2.out];exact ⟨rfl, hg2⟩
  ·have h0' : (G.2 != 0) = true := by simpa using h0
   have hz := he h0;have HZ := keep hz;clear he hz;go_wp2_with fail;go_ret;rw [HD2.out, HZ.out];exact ⟨rfl, hg2⟩
theorem vwres {w : World} {b t : Nat} {v0 v1 v2 v3 v4 v5 v6 v7 v8 v9 v10 : Value} (h : Blk w b t [v0, v1, v2, v3, v4, v5, v6, v7, v8, v9, v10]) :
  w.cell? ⟨b, 0, none⟩ = some v0 /\ w.cell? ⟨b, 1, none⟩ = some v1 /\ w.cell? ⟨b, 2, none⟩ = some v2 /\ w.cell? ⟨b, 3, none⟩ = some v3 /\ w.cell? ⟨b, 4, none⟩ = some v4 /\ w.cell? ⟨b, 5, none⟩ = some v5 /\
  w.cell? ⟨b, 6, none⟩ = some v6 /\ w.cell? ⟨b, 7, none⟩ = some v7 /\ w.cell? ⟨b, 8, none⟩ = some v8 /\ w.cell? ⟨b, 9, none⟩ = some v9 /\ w.cell? ⟨b, 10, none⟩ = some v10 :=
 ⟨h.cell 0 (by simp), h.cell 1 (by simp), h.cell 2 (by simp), h.cell 3 (by simp), h.cell 4 (by simp), h.cell 5 (by simp), h.cell 6 (by simp), h.cell 7 (by simp), h.cell 8 (by simp), h.cell 9 (by simp), h.cell 10 (by simp)⟩
theorem tures {w : World} {b t : Nat} {v0 v1 v2 v3 v4 : Value} (h : Blk w b t [v0, v1, v2, v3, v4]) :
  w.cell? ⟨b, 0, none⟩ = some v0 /\ w.cell? ⟨b, 1, none⟩ = some v1 /\ w.cell? ⟨b, 2, none⟩ = some v2 /\ w.cell? ⟨b, 3, none⟩ = some v3 /\ w.cell? ⟨b, 4, none⟩ = some v4 :=
 ⟨h.cell 0 (by simp), h.cell 1 (by simp), h.cell 2 (by simp), h.cell 3 (by simp), h.cell 4 (by simp)⟩
def tuCells (t : Tup) : List Value := [.int .i64 t.xmin, .int .i64 t.xmax, .bool t.frozen, .string (str t.key), .string (str t.val)]
theorem u8_eq (n k : Nat) : ((n : Int) == (k : Int)) = (n == k) := by rw [Bool.eq_iff_iff]; simp; omega
theorem tmod2 (m : Int) (h : 0 <= m) : m.tmod 2 = m % 2 := Int.tmod_eq_emod_of_nonneg h
theorem rright7_any (m : Int) (w : World) : Calls Tryz.prog 194 #[.int .i64 m] w fun e w' => e = .returned (.bool (modB m)) /\ w = w' := by
 have hM : modB m = (decide (16 <= m) && decide (m <= 1024) && decide (m % 2 = 0)) := rfl;have HM := keep hM;clear hM
 by_cases h1 : 16 <= m
 ·have e2 := tmod2 m (by omega)
  by_cases h2 : m <= 1024
  ·by_cases h3 : m % 2 = 0
   ·rw [h3] at e2;go_enter Tryz.func194, Tryz.ntmps194;go_wp2_with fail;go_ret;rw [HM.out];exact ⟨by simp [h1, h2, h3], rfl⟩
   ·have h4 : m % 2 = 1 := by omega
    rw [h4] at e2;go_enter Tryz.func194, Tryz.ntmps194;go_wp2_with fail;go_ret;rw [HM.out];exact ⟨by simp [h1, h2, h4], rfl⟩
  ·go_enter Tryz.func194, Tryz.ntmps194;go_wp2_with fail;go_ret;rw [HM.out];exact ⟨by simp [h1]; omega, rfl⟩
 ·go_enter Tryz.func194, Tryz.ntmps194;go_wp2_with fail;go_ret;rw [HM.out];exact ⟨by simp; omega, rfl⟩
def idB (m x : Int) : Bool := decide (1 <= x) && decide (x <= m)
theorem rid_any (m x : Int) (w : World) : Calls Tryz.prog 195 #[.int .i64 m, .int .i64 x] w fun e w' => e = .returned (.bool (idB m x)) /\ w = w' := by
 go_enter Tryz.func195, Tryz.ntmps195
 by_cases h1 : 1 <= x
 ·by_cases h2 : x <= m
  ·go_wp2_with fail;go_ret;exact ⟨by simp [idB, h1, h2], rfl⟩
  ·go_wp2_with fail;go_ret;exact ⟨by simp [idB, h1, h2], rfl⟩
 ·go_wp2_with fail;go_ret;exact ⟨by simp [idB]; omega, rfl⟩
theorem idsB_one' (m x : Int) : idsB m [x] = (modB m && idB m x) := by
 unfold idsB idB; simp [Bool.and_comm]
theorem idsB_two' (m a b : Int) : idsB m [a, b] = (modB m && (idB m a && idB m b)) := by
 unfold idsB idB; simp [Bool.and_comm]
set_option maxHeartbeats 1000000 in
theorem radd_any (m x n : Int) (w : World) (hn0 : 0 <= n) (_hn1 : n <= 4611686018427387904) : Calls Tryz.prog 196 #[.int .i64 m, .int .i64 x, .int .i64 n] w fun e w' => e = .returned (.int .i64 (addS m x n)) /\ w = w' := by
 have hS : addS m x n = if modB m && idB m x then (x - 1 + n) % m + 1 else 0 := by unfold addS; rw [idsB_one']
 have hr := fun (u : World) => rright7_any m u
 have hi := fun (u : World) => rid_any m x u
 have hb := @modB_bd m;have hib : idB m x = true -> 1 <= x /\ x <= m := by
  intro h; simpa [idB] using h
 generalize modB m = M at *;generalize idB m x = I at *;generalize addS m x n = S at *;have HS := keep hS;have HR := keep hr;have HI := keep hi;clear hS hr hi;go_enter Tryz.func196, Tryz.ntmps196;cases M with
 | false =>
  go_wp2_with (go_at_call 194; refine (HR.out _).mono ?_; rintro e w' ⟨rfl, rfl⟩);go_ret;rw [HS.out];exact ⟨rfl, rfl⟩
 | true =>
  cases I with
  | false =>
   go_wp2_with (first | (go_at_call 194; refine (HR.out _).mono ?_; rintro e w' ⟨rfl, rfl⟩) | (go_at_call 195; refine (HI.out _).mono ?_; rintro e w' ⟨rfl, rfl⟩))
   go_ret;rw [HS.out];exact ⟨rfl, rfl⟩
  | true =>
   obtain ⟨hm1, hm2, _⟩ := hb rfl;obtain ⟨hx1, hx2⟩ := hib rfl;have e1 : n.tmod m = n % m := Int.tmod_eq_emod_of_nonneg hn0;have hp := Int.emod_nonneg n (show m ≠ 0 by omega);have hq := Int.emod_lt_of_pos n (show 0 < m by omega);have e2 : (x - 1 + n % m).tmod m = (x - 1 + n) % m := by rw [Int.tmod_eq_emod_of_nonneg (by omega), Int.add_emod_emod]
   have hp2 := Int.emod_nonneg (x - 1 + n) (show m ≠ 0 by omega);have hq2 := Int.emod_lt_of_pos (x - 1 + n) (show 0 < m by omega);have hm0 : ¬ m = 0 := by omega
   have hS' : S = (x - 1 + n) % m + 1 := HS.out;have HS' := keep hS';clear hb hib HS hS';generalize n % m = k at *;generalize (x - 1 + n) % m = j at *;go_wp2_with (first | (go_at_call 194; refine (HR.out _).mono ?_; rintro e w' ⟨rfl, rfl⟩) | (go_at_call 195; refine (HI.out _).mono ?_; rintro e w' ⟨rfl, rfl⟩))
   go_ret;rw [HS'.out];exact ⟨rfl, rfl⟩
theorem add_hits {m a b k : Int} (hB : idsB m [a, b] = true) (h0 : 0 <= k) (h1 : k <= (b - a) % m) : addS m a k = b ↔ k = (b - a) % m := by
 obtain ⟨hm, ha1, ha2, hb1, hb2⟩ := idsB_two hB;obtain ⟨hm1, hm2, _⟩ := modB_bd hm;have hA : addS m a k = (a - 1 + k) % m + 1 := by
  unfold addS;rw [if_pos (by rw [idsB_one', hm]; simp [idB]; omega)]
 rw [hA]
 by_cases hab : a <= b
 ·have e1 : (b - a) % m = b - a := Int.emod_eq_of_lt (by omega) (by omega);rw [e1] at h1 ⊢;rw [Int.emod_eq_of_lt (by omega) (by omega)];omega
 ·have e1 : (b - a) % m = b - a + m := by
   rw [<- Int.add_emod_right, Int.emod_eq_of_lt (by omega) (by omega)]
  rw [e1] at h1 ⊢
  by_cases hlt : a - 1 + k < m
  ·rw [Int.emod_eq_of_lt (by omega) hlt];omega
  ·have e2 : (a - 1 + k) % m = a - 1 + k - m := by
    rw [<- Int.sub_emod_right, Int.emod_eq_of_lt (by omega) (by omega)]
   rw [e2];omega
set_option maxHeartbeats 1000000 in
theorem rgap_any (m a b : Int) (w : World) : Calls Tryz.prog 141 #[.int .i64 m, .int .i64 a, .int .i64 b] w fun e w' => e = .returned (.int .i64 (gapS m a b)) /\ Below w.heap.size w w' := by
 have hr := fun (u : World) => rright7_any m u
 have hi := fun (u : World) => rid_any m a u
 have hj := fun (u : World) => rid_any m b u
 have hS : gapS m a b = if modB m && (idB m a && idB m b) then (b - a) % m else 0 := by unfold gapS; rw [idsB_two']
 have hadd := fun (u : World) (k : Int) (h0 : 0 <= k) (h1 : k <= 1024) => radd_any m a k u h0 (by omega)
 have hhit := fun k (h : (modB m && (idB m a && idB m b)) = true) => @add_hits m a b k (by rw [idsB_two']; exact h)
 have hb := @modB_bd m;generalize modB m = M at *;generalize idB m a = I at *;generalize idB m b = J at *;generalize gapS m a b = S at *;have HS := keep hS;have HR := keep hr;have HI := keep hi;have HJ := keep hj;have HA := keep hadd;have HH := keep hhit;clear hS hr hi hj hadd hhit;go_enter Tryz.func141, Tryz.ntmps141;cases M with
 | false =>
  go_wp2_with fail;refine (HR.out _).mono ?_;rintro e w' ⟨rfl, rfl⟩;go_wp2_with fail;go_ret;rw [HS.out];exact ⟨rfl, Below.refl _ _⟩
 | true =>
  go_wp2_with fail;refine (HR.out _).mono ?_;rintro e w' ⟨rfl, rfl⟩;go_wp2_with fail;refine (HI.out _).mono ?_;rintro e w' ⟨rfl, rfl⟩;cases I with
  | false =>
   go_wp2_with fail;go_ret;rw [HS.out];exact ⟨rfl, Below.refl _ _⟩
  | true =>
   go_wp2_with fail;refine (HJ.out _).mono ?_;rintro e w' ⟨rfl, rfl⟩;cases J with
   | false =>
    go_wp2_with fail;go_ret;rw [HS.out];exact ⟨rfl, Below.refl _ _⟩
   | true =>
    obtain ⟨hm1, hm2, _⟩ := hb (by trivial);have hS' : S = (b - a) % m := HS.out;have hp := Int.emod_nonneg (b - a) (show m ≠ 0 by omega);have hq := Int.emod_lt_of_pos (b - a) (show 0 < m by omega);have hH := fun k => HH.out k rfl
    rw [<- hS'] at hp hq;rw [<- hS'] at hH;have HH' := keep hH;clear hb hS' HS HH hH HR HI HJ;go_wp2_with fail;go_loop [7] (fun n => ∃ k : Int, n = .int .i64 k /\ 0 <= k /\ k <= S) (fun n => (S - intOf n).toNat)
    case atStart => exact ⟨0, rfl, by omega, by omega⟩
    case round =>
     obtain ⟨k, rfl, hk0, hk1⟩ := hrel;have hh := HH'.out k hk0 hk1;have hc := HA.out w k hk0 (by omega);generalize addS m a k = A at *;have HC := keep hc;clear hc
     by_cases hA : k = S
     ·have e1 : (A != b) = false := by simp [hh.2 hA]
      subst hA;clear hh;go_wp2_with fail;refine HC.out.mono ?_;rintro e w' ⟨rfl, rfl⟩;go_wp2_with fail;go_ret;exact ⟨rfl, Below.refl _ _⟩
     ·have e1 : (A != b) = true := by simp; exact fun h => hA (hh.1 h)
      clear hh;go_wp2_with fail;refine HC.out.mono ?_;rintro e w' ⟨rfl, rfl⟩;go_wp2_with fail;go_round
      case rel => exact ⟨k + 1, by go_num, by omega, by omega⟩
      case measure => simp [intOf]; omega
set_option maxHeartbeats 400000 in
theorem rbefore_any (m a b : Int) (w : World) : Calls Tryz.prog 88 #[.int .i64 m, .int .i64 a, .int .i64 b] w fun e w' => e = .returned (.bool (beforeB m a b)) /\ Below w.heap.size w w' := by
 have hbd := gapS_bd m a b;have HB : Kept (beforeB m a b = (decide (0 < gapS m a b) && decide (gapS m a b < m / 2))) := keep rfl;go_enter Tryz.func88, Tryz.ntmps88;go_wp2_with fail;refine (rgap_any _ _ _ _).mono ?_;rintro e w' ⟨rfl, hb⟩;generalize gapS m a b = g at *;obtain ⟨hb0, hb1⟩ := hbd
 by_cases h0 : 0 < g
 ·obtain ⟨hm1, hm2⟩ := hb1 h0;clear hb1;have e1 : m.tdiv 2 = m / 2 := Int.tdiv_eq_ediv_of_nonneg (by omega)
  by_cases h3 : g < m / 2
  ·go_wp2_with fail;go_ret;rw [HB.out];refine ⟨?_, hb⟩;simp [h0, h3];omega
  ·go_wp2_with fail;go_ret;rw [HB.out];refine ⟨?_, hb⟩;simp [h0];omega
 ·clear hb1;go_wp2_with fail;go_ret;rw [HB.out];refine ⟨?_, hb⟩;have h0' : decide (0 < g) = false := by simp; omega
  rw [h0']
  rfl
theorem rin_any (v : Value) (l : List Int) (x : Int) (w : World) (hv : Ints w v l) (hlen : (l.length : Int) <= 70368744177664) :
  Calls Tryz.prog 89 #[v, .int .i64 x] w fun e w' => e = .returned (.bool (l.contains x)) /\ Below w.heap.size w w' := by
 obtain ⟨a, cap, rfl, hc⟩ := ints_form hv;clear hv;go_enter Tryz.func89, Tryz.ntmps89;go_wp2_with fail;go_loop [5] (fun i => ∃ k : Nat, k <= l.length /\ i = .int .i64 k /\ Kept (∀ y ∈ l.take k, y ≠ x)) (fun i => l.length - (intOf i).toNat)
 case atStart => exact ⟨0, Nat.zero_le _, rfl, keep (by simp)⟩
 case round =>
  obtain ⟨k, hk, rfl, hall⟩ := hrel
  by_cases hlt : k < l.length
  ·obtain ⟨c, off, rfl, hcell⟩ := hc k hlt;have htake : l.take (k + 1) = l.take k ++ [l.getD k 0] := by
    rw [List.take_succ_eq_append_getElem hlt]; simp [hlt]
   have hmem : l.getD k 0 ∈ l := by
    simp only [List.getD_eq_getElem?_getD, List.getElem?_eq_getElem hlt, Option.getD_some]; exact List.getElem_mem hlt
   generalize l.getD k 0 = y at hcell htake hmem;have HT := keep htake;have HM := keep hmem;clear htake hc hmem
   by_cases hxy : y = x
   ·have e1 : (y == x) = true := by simp [hxy]
    go_wp2_with fail;go_ret;have hm := HM.out;rw [hxy] at hm;exact ⟨by simp [hm], Below.refl _ _⟩
   ·have e1 : (y == x) = false := by simp [hxy]
    go_wp2_with fail;go_round
    case rel =>
     refine ⟨k + 1, by omega, by go_num, keep ?_⟩;rw [HT.out];intro z hz;rcases List.mem_append.mp hz with hz | hz
     ·exact hall.out z hz
     ·simp at hz; rw [hz]; exact hxy
    case measure => simp [intOf]; omega
  ·have e : l.take k = l := List.take_of_length_le (by omega);have hn : ¬ x ∈ l := by
    have h := hall.out;rw [e] at h;exact fun hm => h x hm rfl
   have HN := keep hn;clear hn e;go_wp2_with fail;go_ret;exact ⟨by simp [HN.out], Below.refl _ _⟩
end Go.Proofs.YtcdapdcablnhpaaGreat
