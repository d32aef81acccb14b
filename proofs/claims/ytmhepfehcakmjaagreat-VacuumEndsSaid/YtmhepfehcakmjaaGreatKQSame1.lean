import Derived.Test.YtmhepfehcakmjaaGreatKClog2
import Derived.Test.YtmhepfehcakmjaaGreatKTup3
import Derived.Maps.AppendAt
import Derived.Deep.QuietTactic
import Derived.BigQuiet
namespace Go.Proofs.YtmhepfehcakmjaaGreat
open Go.RowKit
theorem below_drewN' (w : World) (n : Nat) : Below w.heap.size w (w.drewN n) := ⟨rfl, rfl, rfl, Nat.le_refl _, fun _ _ => rfl⟩
set_option maxRecDepth 100000 in
set_option maxHeartbeats 2000000 in
theorem open_rest (m : Int) (p : Pg) (iv : Value) (w : World) (hi : Items w iv p.items) (h : modB m = true) (hh : openHead m p = true) (hs : ∀ x ∈ p.items, (x.length : Int) ≤ 9223372036854775807) : Calls Tryz.prog 65 #[.int .i64 m, pgV p iv] w (CopenPost m p w) := by
 obtain ⟨hm1, hm2, hm3⟩ := modB_bd h
 have hE : openE m p = if openBody m p then 0 else 31 := by unfold openE; rw [h, hh]; simp
 simp only [openHead, Bool.and_eq_true, decide_eq_true_eq, List.isEmpty_iff] at hh
 obtain ⟨⟨⟨⟨⟨⟨h1, h2⟩, h3⟩, h4⟩, h5⟩, h6⟩, h7⟩ := hh
 obtain ⟨lsn, kind, level, right, high, items⟩ := p
 simp only at h1 h2 h3 h4 h5 h6 h7 hi hs
 subst h1 h3 h4 h5
 obtain ⟨l0, l1, rfl⟩ : ∃ l0 l1, items = [l0, l1] := by
  match items, h6 with
  | [a, b], _ => exact ⟨a, b, rfl⟩
 have hs0 := hs l0 (by simp)
 have hs1 := hs l1 (by simp)
 have h7' : (l1.length : Int) = (m + 3) / 4 := by simpa using h7
 have HE := keep hE
 clear hE h7 hs h6
 unfold pgV
 go_enter Tryz.func65, Tryz.ntmps65
 go_wp2_with fail
 refine (isModulus_any _ _).mono ?_
 rintro e w1 ⟨rfl, hb⟩
 have hB1 := (Blk.new w 24 (pgCells ⟨lsn, 1, 0, 0, [], [l0, l1]⟩ iv)).fits hb
 have hb1 : Below w.heap.size w w1 := ((Below.refl _ _).alloc (Nat.le_refl _) _).trans (hb.mono (by simp))
 have hi1 : Items w1 iv [l0, l1] := Row.fits hi hb1
 clear hb hi
 unfold pgCells at hB1
 have c0 := hB1.cell 0 (by simp)
 have c1 := hB1.cell 1 (by simp)
 have c2 := hB1.cell 2 (by simp)
 have c3 := hB1.cell 3 (by simp)
 have c4 := hB1.cell 4 (by simp)
 have c5 := hB1.cell 5 (by simp)
 simp only [List.getElem_cons_zero, List.getElem_cons_succ] at c0 c1 c2 c3 c4 c5
 obtain ⟨c, off, cap, rfl, hcell⟩ := items_cells hi1 (by simp)
 have d0 := hcell 0 (by simp)
 have d1 := hcell 1 (by simp)
 simp only [List.getElem_cons_zero, List.getElem_cons_succ, Nat.add_zero] at d0 d1
 have hc := World.block_lt_of_cell? _ _ d0
 simp only at hc
 have g2 : decide (lsn < 0) = false := by simp; omega
 have g5 : (str []).toList.isEmpty = true := by rw [str_list]; rfl
 have g7 : ((l1.length : Int) != (m + 3) / 4) = false := by simpa using h7'
 have H7 := keep h7'
 clear h7' hcell
 have hwl := hB1.lt
 go_wp2_with fail
 go_quiet ((go_at_call 64; exact Calls.quiet_of_same ((csize_any m _ (by omega) hm2).mono (fun e w' ⟨a, b⟩ => ⟨a, b.symm⟩))))
 go_wp2_with fail
 refine (rdRead _ _).mono ?_
 rintro e w3 ⟨rfl, hw3⟩
 have hrd3 : Rd w3 w1.heap.size (str l0) 0 := by subst hw3; exact Blk.new (w1.drewN _) _ [_, _]
 have hb3 : Below w1.heap.size w1 w3 := by subst hw3; exact (below_drewN' w1 _).alloc (Nat.le_refl _) _
 have hB3 := hB1.fits hb3
 have hi3 : Items w3 (.slice (some ⟨c, off, none⟩) [l0, l1].length cap) [l0, l1] := Row.fits hi1 hb3
 have hs3 : w1.heap.size < w3.heap.size := Blk.lt hrd3
 clear hw3
 go_wp2_with fail
 have hN := rdNum_ok w1.heap.size (str l0) m w3 hrd3 (by unfold maxLen; simp; omega) (by omega)
 obtain ⟨X, hX⟩ : ∃ X, X = rdNumS m l0 := ⟨_, rfl⟩
 rw [str_toList, ← hX] at hN
 have HX := keep hX
 clear hX
 refine hN.mono ?_
 rintro e w4 ⟨rfl, hrd4, hbt4⟩
 clear hN
 have hB4 := hB3.but hbt4 (by omega)
 have e5 := hB4.cell 5 (by simp)
 simp only [List.getElem_cons_zero, List.getElem_cons_succ] at e5
 have d1' : w4.cell? ⟨c, off + 1, none⟩ = some (.string (str l1)) := by
  rw [hbt4.cell (by show c < _; omega) (by show c ≠ _; omega), hb3.cell (by show c < _; omega)]; exact d1
 obtain ⟨bv, w5, hcv, hbr, hb5, hform⟩ := convert_str w4 (str l1)
 obtain ⟨g, bc, C, f, rfl, hgb, hC1, hC2, hC3⟩ := hbr
 have hlen4 : 0 < l1.length := by have := H7.out; omega
 have hlast := brow_cell hC1 hC2 ((str l1).data.toList.length - 1) (by simp; omega)
 have hbr : BRow w5 w4.heap.size (.slice (some ⟨g, 0, none⟩) (str l1).data.toList.length bc) (str l1).data.toList := ⟨g, bc, C, f, rfl, hgb, hC1, hC2, hC3⟩
 simp only [str_toList] at hcv hlast hbr
 have hLv : l1.getD (l1.length - 1) 0 = l1.getLast?.getD 0 := by
  rw [List.getLast?_eq_getElem?]; simp
 rw [hLv] at hlast
 clear hform hC1 hC2 hC3 hLv
 go_wp2_with fail
 have hrd5 := Blk.fits hrd4 hb5
 refine (rdEnd _ _ _ _ hrd5).mono ?_
 rintro e w6 ⟨rfl, rfl⟩
 generalize hEv : (if X.2.2 = 0 ∧ 0 < (str X.2.1).size then (12 : Int) else X.2.2) = E
 have hE0 : E = 0 ↔ (X.2.2 = 0 ∧ X.2.1 = []) := by
  rw [← hEv]
  cases hy : X.2.1 with
  | nil => simp
  | cons a l =>
   simp
   split
   ·omega
   ·assumption
 have hwb : Below w.heap.size w w5 := by
  have b3 := hb1.trans (hb3.mono (by omega))
  have b4 := But.below b3 hbt4 (by omega) (by omega)
  exact b4.trans (hb5.mono (by have := hbt4.size; omega))
 have hbody : openBody m ⟨lsn, 1, 0, 0, [], [l0, l1]⟩ = (decide (E = 0) && decide (X.1 ≠ 0) && (decide (m % 4 = 0) || decide (((l1.getLast?.getD 0).toNat : Int) / 2 ^ (2 * (m % 4)).toNat = 0))) := by
  unfold openBody
  have e1 : openNum m ⟨lsn, 1, 0, 0, [], [l0, l1]⟩ = X := HX.out.symm
  rw [e1, Bool.eq_iff_iff]
  simp only [Bool.and_eq_true, decide_eq_true_eq, hE0]
  simp
 have hbase : BRow w5 w.heap.size (.slice (some ⟨g, 0, none⟩) l1.length bc) l1 := by
  obtain ⟨g', cap', C, f, a1, a2, a3⟩ := hbr
  exact ⟨g', cap', C, f, a1, by have := hbt4.size; omega, a3⟩
 have HB := keep hbody
 have HBase := keep hbase
 have hnum : openNum m ⟨lsn, 1, 0, 0, [], [l0, l1]⟩ = X := HX.out.symm
 have HNum := keep hnum
 clear hEv hE0 hbody hbase hnum hbr
 generalize hL : ((l1.getLast?.getD 0).toNat) = L at *
 clear hL e5 d1' hcv hB1 hi1 c0 c1 c2 c3 c4 c5 d0 d1 g2 g5 g7 hrd3 hB3 hi3 hrd4 hB4 hbt4 hrd5
 by_cases k1 : E = 0
 ·have k1' : (E != 0) = false := by simpa using k1
  by_cases k2 : X.1 = 0
  ·have k2' : (X.1 == 0) = true := by simpa using k2
   have hno : openBody m ⟨lsn, 1, 0, 0, [], [l0, l1]⟩ = false := by rw [HB.out]; simp [k2]
   have hno := keep hno
   go_wp2_with fail
   go_ret3
   refine ⟨.slice none 0 0, ?_, hwb, ?_, ⟨_, _, _, rfl⟩⟩
   ·rw [HE.out, hno.out]; rfl
   ·rw [HE.out, hno.out]; intro h'; cases h'
  ·have k2' : (X.1 == 0) = false := by simpa using k2
   by_cases k3 : m % 4 = 0
   ·have hyes : openBody m ⟨lsn, 1, 0, 0, [], [l0, l1]⟩ = true := by rw [HB.out]; simp [k1, k2, k3]
    have hyes := keep hyes
    go_wp2_with fail
    go_ret3
    refine ⟨.slice (some ⟨g, 0, none⟩) l1.length bc, ?_, hwb, fun _ => HBase.out, ⟨_, _, _, rfl⟩⟩
    rw [HE.out, hyes.out, HNum.out]; rfl
   ·have k3' : m % 4 = 2 := by omega
    by_cases k4 : (L : Int) / 16 = 0
    ·have hyes : openBody m ⟨lsn, 1, 0, 0, [], [l0, l1]⟩ = true := by rw [HB.out]; simp [k1, k2, k3', k4]
     have hyes := keep hyes
     have k4' : ((L : Int) / 16 != 0) = false := by simpa using k4
     go_wp2_with fail
     go_ret3
     refine ⟨.slice (some ⟨g, 0, none⟩) l1.length bc, ?_, hwb, fun _ => HBase.out, ⟨_, _, _, rfl⟩⟩
     rw [HE.out, hyes.out, HNum.out]; rfl
    ·have hno : openBody m ⟨lsn, 1, 0, 0, [], [l0, l1]⟩ = false := by rw [HB.out]; simp [k3', k4]
     have hno := keep hno
     have k4' : ((L : Int) / 16 != 0) = true := by simpa using k4
     go_wp2_with fail
     go_ret3
     refine ⟨.slice none 0 0, ?_, hwb, ?_, ⟨_, _, _, rfl⟩⟩
     ·rw [HE.out, hno.out]; rfl
     ·rw [HE.out, hno.out]; intro h'; cases h'
 ·have k1' : (E != 0) = true := by simpa using k1
  have hno : openBody m ⟨lsn, 1, 0, 0, [], [l0, l1]⟩ = false := by rw [HB.out]; simp [k1]
  have hno := keep hno
  go_wp2_with fail
  go_ret3
  refine ⟨.slice none 0 0, ?_, hwb, ?_, ⟨_, _, _, rfl⟩⟩
  ·rw [HE.out, hno.out]; rfl
  ·rw [HE.out, hno.out]; intro h'; cases h'
theorem open_any (m : Int) (p : Pg) (iv : Value) (w : World) (hi : Items w iv p.items) (hs : ∀ x ∈ p.items, (x.length : Int) ≤ 9223372036854775807) : Calls Tryz.prog 65 #[.int .i64 m, pgV p iv] w (CopenPost m p w) := by
 cases h : modB m with
 | false => exact open_mod m p iv w h
 | true =>
  cases hh : openHead m p with
  | false => exact open_head m p iv w hi h hh
  | true => exact open_rest m p iv w hi h hh hs
end Go.Proofs.YtmhepfehcakmjaaGreat
namespace Go.Proofs.YtmhepfehcakmjaaGreat
open Go.RowKit
theorem openE_zero {m : Int} {p : Pg} (h : openE m p = 0) : modB m = true ∧ openHead m p = true ∧ openBody m p = true := by
 unfold openE at h
 split at h
 ·split at h
  ·rename_i h1 h2
   rw [Bool.and_eq_true] at h2
   exact ⟨h1, h2.1, h2.2⟩
  ·cases h
 ·cases h
theorem openE_len {m : Int} {p : Pg} (h : openE m p = 0) : p.items.length = 2 ∧ ((p.items.getD 1 []).length : Int) = (m + 3) / 4 ∧ p.kind = 1 ∧ 0 ≤ p.lsn ∧ p.level = 0 ∧ p.right = 0 ∧ p.high = [] := by
 have := (openE_zero h).2.1
 unfold openHead at this
 simp only [Bool.and_eq_true, decide_eq_true_eq, List.isEmpty_iff] at this
 obtain ⟨⟨⟨⟨⟨⟨h1, h2⟩, h3⟩, h4⟩, h5⟩, h6⟩, h7⟩ := this
 exact ⟨h6, h7, h1, h2, h3, h4, h5⟩
def statAt (l : List UInt8) (x : Int) : Nat := (l.getD ((x - 1) / 4).toNat 0).toNat / 2 ^ (2 * ((x - 1) % 4)).toNat % 4
def getS (m : Int) (p : Pg) (x : Int) : Nat × Int :=
 if openE m p = 0 then if idsB m [x] then (statAt (p.items.getD 1 []) x, 0) else (0, 1) else (0, openE m p)
theorem stat_bits (c e : Nat) (hc : c < 256) (_he : e ≤ 6) : bits BinOp.and IntKind.u8 ((c : Int) / 2 ^ e) 3 = ((c / 2 ^ e % 4 : Nat) : Int) := by
 have e1 : ((c : Int) / 2 ^ e) = ((c / 2 ^ e : Nat) : Int) := by push_cast; rfl
 have e2 : (3 : Int) = ((3 : Nat) : Int) := rfl
 have h1 : c / 2 ^ e ≤ c := Nat.div_le_self _ _
 rw [e1, e2, u8_and_nat _ _ (by omega) (by omega)]
 congr 1
 exact Nat.and_two_pow_sub_one_eq_mod _ 2
set_option maxRecDepth 100000 in
set_option maxHeartbeats 1000000 in
theorem get_any (m : Int) (p : Pg) (iv : Value) (x : Int) (w : World) (hi : Items w iv p.items) (hs : ∀ x ∈ p.items, (x.length : Int) ≤ 9223372036854775807) : Calls Tryz.prog 101 #[.int .i64 m, pgV p iv, .int .i64 x] w fun e w' =>
  e = .returned (.tuple #[.int .u8 (getS m p x).1, .int .i64 (getS m p x).2]) ∧ Below w.heap.size w w' := by
 have ho := open_any m p iv (w.alloc (.cells (pgCells p iv).toArray 24)) (hi.fits ((Below.refl _ _).alloc (Nat.le_refl _) _)) hs
 unfold pgV pgCells CopenPost at ho
 clear hs hi
 by_cases h0 : openE m p = 0
 ·have hll := (openE_len h0).2.1
  have hm := (openE_zero h0).1
  obtain ⟨hm1, hm2, _⟩ := modB_bd hm
  have hG : getS m p x = if idsB m [x] then (statAt (p.items.getD 1 []) x, 0) else (0, 1) := by unfold getS; rw [if_pos h0]
  rw [h0] at ho
  generalize (openNum m p).1 = F at *
  generalize p.items.getD 1 [] = l at *
  have Ho := keep ho
  have HL := keep hll
  clear ho h0 hm hll
  unfold pgV
  go_enter Tryz.func101, Tryz.ntmps101
  cases hB : idsB m [x] with
  | false =>
   rw [hB] at hG
   have HG := keep hG
   clear hG
   go_wp2_with fail
   refine Ho.out.mono ?_
   rintro e w1 ⟨bv, rfl, hb, hbr, _⟩
   obtain ⟨g, bc, C, f, rfl, hgb, hC1, hC2, hC3⟩ := hbr (by simp)
   have hb1 : Below w.heap.size w w1 := ((Below.refl _ _).alloc (Nat.le_refl _) _).trans (hb.mono (by simp))
   clear hbr hC1 hC2 hC3 hb
   go_wp2_with fail
   refine (isID_any _ _ _).mono ?_
   rintro e w2 ⟨rfl, hb2⟩
   go_wp2_with fail
   go_ret2
   have hG' : getS m p x = (0, 1) := by simpa using HG.out
   rw [hG']
   exact ⟨rfl, hb1.trans (hb2.mono hb1.size)⟩
  | true =>
   rw [hB] at hG
   have HG := keep hG
   obtain ⟨_, hx1, hx2⟩ := idsB_one hB
   clear hG
   go_wp2_with fail
   refine Ho.out.mono ?_
   rintro e w1 ⟨bv, rfl, hb, hbr, _⟩
   obtain ⟨g, bc, C, f, rfl, hgb, hC1, hC2, hC3⟩ := hbr (by simp)
   have hb1 : Below w.heap.size w w1 := ((Below.refl _ _).alloc (Nat.le_refl _) _).trans (hb.mono (by simp))
   have hq1 : ((x - 1) / 4).toNat < l.length := by have := HL.out; omega
   have hcell : w1.cell? ⟨g, ((x - 1) / 4).toNat, none⟩ = some (.int .u8 (l.getD ((x - 1) / 4).toNat 0).toNat) := brow_cell hC1 hC2 _ hq1
   have hgl := lt_of_block hC1
   clear hbr hC1 hC2 hC3 hb
   go_wp2_with fail
   refine (isID_any _ _ _).mono ?_
   rintro e w2 ⟨rfl, hb2⟩
   have hcell2 := (hb2.cell (p := ⟨g, ((x - 1) / 4).toNat, none⟩) hgl).trans hcell
   clear hcell
   go_wp2_with fail
   refine (place_any x _ hx1 (by omega)).mono ?_
   rintro e w3 ⟨rfl, rfl⟩
   have hst : Kept (bits BinOp.and IntKind.u8 (((l.getD ((x - 1) / 4).toNat 0).toNat : Int) / 2 ^ (2 * ((x - 1) % 4)).toNat) 3 = (statAt l x : Int)) :=
    keep (stat_bits _ _ (l.getD ((x - 1) / 4).toNat 0).toNat_lt (by omega))
   have hi0 : 0 ≤ (x - 1) / 4 := by omega
   have hi1 : (x - 1) / 4 < (l.length : Int) := by have := HL.out; omega
   have hf0 : 0 ≤ 2 * ((x - 1) % 4) := by omega
   have hf1 : 2 * ((x - 1) % 4) ≤ 6 := by omega
   generalize (l.getD ((x - 1) / 4).toNat 0).toNat = cc at *
   generalize (x - 1) / 4 = q at *
   generalize 2 * ((x - 1) % 4) = far at *
   go_wp2_with fail
   go_ret2
   have hG' : getS m p x = (statAt l x, 0) := by simpa using HG.out
   rw [hG']
   refine ⟨?_, hb1.trans (hb2.mono hb1.size)⟩
   show Ending.returned (.tuple #[.int .u8 (bits BinOp.and IntKind.u8 ((cc : Int) / 2 ^ far.toNat) 3), .int .i64 0]) = _
   rw [hst.out]
 ·have hG : getS m p x = (0, openE m p) := by unfold getS; rw [if_neg h0]
  rw [if_neg h0] at ho
  have h0' : (openE m p != 0) = true := by simpa using h0
  generalize openE m p = E at *
  have Ho := keep ho
  have HG := keep hG
  clear ho hG h0
  unfold pgV
  go_enter Tryz.func101, Tryz.ntmps101
  go_wp2_with fail
  refine Ho.out.mono ?_
  rintro e w1 ⟨bv, rfl, hb, _, a, n, c, rfl⟩
  have hb1 : Below w.heap.size w w1 := ((Below.refl _ _).alloc (Nat.le_refl _) _).trans (hb.mono (by simp))
  clear hb
  go_wp2_with fail
  go_ret2
  rw [HG.out]
  exact ⟨rfl, hb1⟩
def putS (l : List UInt8) (x : Int) (s : Nat) : List UInt8 :=
 l.set ((x - 1) / 4).toNat (UInt8.ofNat ((l.getD ((x - 1) / 4).toNat 0).toNat &&& (255 - 3 * 2 ^ (2 * ((x - 1) % 4)).toNat % 256) ||| s * 2 ^ (2 * ((x - 1) % 4)).toNat % 256))
theorem put_bits (c s e : Nat) (hc : c < 256) (_hs : s < 256) : bits BinOp.or IntKind.u8 (bits BinOp.andNot IntKind.u8 (c : Int) (((3 * 2 ^ e % 256 : Nat) : Int))) (((s * 2 ^ e % 256 : Nat) : Int)) = ((UInt8.ofNat (c &&& (255 - 3 * 2 ^ e % 256) ||| s * 2 ^ e % 256)).toNat : Int) := by
 rw [u8_andNot_nat _ _ hc (by omega)]
 have h1 : c &&& (255 - 3 * 2 ^ e % 256) < 256 := Nat.lt_of_le_of_lt Nat.and_le_left hc
 rw [u8_or_nat _ _ h1 (by omega)]
 congr 1
 rw [UInt8.toNat_ofNat']
 have h2 : (c &&& (255 - 3 * 2 ^ e % 256)) ||| s * 2 ^ e % 256 < 2 ^ 8 := Nat.or_lt_two_pow h1 (by omega)
 omega
end Go.Proofs.YtmhepfehcakmjaaGreat
namespace Go.Proofs.YtmhepfehcakmjaaGreat
open Go.RowKit
attribute [local go_sem] gives givesUpon_value givesUpon_skip givesUpon_enter
theorem brow_set {w : World} {base g cap : Nat} {C : Array Value} {f : Nat × Nat} {l : List UInt8} (hgb : base ≤ g) (h3 : w.heap[g]? = some (.cells C 5 f)) (h4 : ∀ j, j < l.length → C[j]? = some (.int .u8 (l.getD j 0).toNat)) (h5 : l.length ≤ C.size)
  (h6 : C.size ≤ f.1 ∨ f = (0, 0)) (q : Nat) (hq : q < l.length) (c : UInt8) : BRow (w.setCell ⟨g, q, none⟩ (.int .u8 c.toNat)) base (.slice (some ⟨g, 0, none⟩) l.length cap) (l.set q c) := by
 refine ⟨g, cap, C.setIfInBounds q (.int .u8 c.toNat), f, by simp, hgb, ?_, ?_, by simpa using h5, by simpa using h6⟩
 ·simp only [World.setCell, Array.getElem?_modify, if_true, h3]
  simp
 ·intro j hj
  rw [List.length_set] at hj
  by_cases hjq : j = q
  ·subst hjq
   rw [Array.getElem?_setIfInBounds_self_of_lt (by omega)]
   simp [hj]
  ·rw [Array.getElem?_setIfInBounds_ne (fun e => hjq e.symm), h4 j hj]
   simp [List.getElem?_set_ne (fun e => hjq e.symm)]
set_option maxRecDepth 100000 in
set_option maxHeartbeats 1000000 in
theorem cput_any (base : Nat) (v : Value) (l : List UInt8) (x : Int) (s : Nat) (w : World) (hb : BRow w base v l) (hx1 : 1 ≤ x) (hx2 : x ≤ 1024) (hq1 : ((x - 1) / 4).toNat < l.length) (hs : s < 256) (_hll : (l.length : Int) ≤ 9223372036854775807) :
  Calls Tryz.prog 66 #[v, .int .i64 x, .int .u8 s] w fun e w' => e = .returned (.tuple #[]) ∧ BRow w' base v (putS l x s) ∧ Below base w w' := by
 obtain ⟨g, cap, C, f, rfl, hgb, hC1, hC2, hC3, hC4⟩ := hb
 have hcell : w.cell? ⟨g, ((x - 1) / 4).toNat, none⟩ = some (.int .u8 (l.getD ((x - 1) / 4).toNat 0).toNat) := brow_cell hC1 hC2 _ hq1
 have hfree : w.frozen? ⟨g, ((x - 1) / 4).toNat, none⟩ = false := brow_free hC1 hC3 hC4 _ hq1
 have hpb := put_bits (l.getD ((x - 1) / 4).toNat 0).toNat s (2 * ((x - 1) % 4)).toNat (l.getD ((x - 1) / 4).toNat 0).toNat_lt hs
 have Hpb := keep hpb
 have hi0 : 0 ≤ (x - 1) / 4 := by omega
 have hi1 : (x - 1) / 4 < (l.length : Int) := by omega
 have hf0 : 0 ≤ 2 * ((x - 1) % 4) := by omega
 have hf1 : 2 * ((x - 1) % 4) ≤ 6 := by omega
 have HC1 := keep hC1
 have HC2 := keep hC2
 have HC3 := keep hC3
 have HC4 := keep hC4
 clear hC1 hC2 hC3 hC4 hpb
 go_enter Tryz.func66, Tryz.ntmps66
 go_wp2_with fail
 refine (place_any x _ hx1 hx2).mono ?_
 rintro e w1 ⟨rfl, rfl⟩
 go_wp2_with fail
 have hcells : ∀ u, Grow w.drew u → u.cell? ⟨g, ((x - 1) / 4).toNat, none⟩ = some (.int .u8 (l.getD ((x - 1) / 4).toNat 0).toNat) := fun u hu => (hu.cell (p := ⟨g, ((x - 1) / 4).toNat, none⟩) (lt_of_block HC1.out)).trans hcell
 have Hcells := keep hcells
 clear hcells
 refine wp_region_grow (by kernel_rfl) 13 (by kernel_rfl) [(13, 0), (14, 1), (15, 2), (16, 3), (17, 4), (18, 5), (19, 6), (20, 7), (21, 8), (22, 9), (23, 10), (24, 11), (25, 12)] (by kernel_rfl) [(0, true), (1, true), (2, true), (3, true), (4, true), (5, true), (6, true), (7, true), (8, true), (9, true), (10, true), (11, true), (12, true)] (by kernel_rfl) rfl rfl ?_
 apply lex_eq [] [(14, 1), (15, 2), (16, 3), (17, 4), (18, 5), (19, 6), (20, 7), (21, 8), (22, 9), (23, 10), (24, 11), (25, 12)] (by kernel_rfl) (by kernel_rfl) rfl
 ·intro xs w hw hp K hK
  simp only [putAll]
  go_simp
  exact hK _ (Grow.refl _)
 apply lex_eq [] [(13, 0), (15, 2), (16, 3), (17, 4), (18, 5), (19, 6), (20, 7), (21, 8), (22, 9), (23, 10), (24, 11), (25, 12)] (by kernel_rfl) (by kernel_rfl) rfl
 ·intro xs w hw hp K hK
  simp only [putAll]
  go_simp
  exact hK _ (Grow.refl _)
 apply lex_eq [] [(13, 0), (14, 1), (16, 3), (18, 5), (19, 6), (20, 7), (21, 8), (22, 9), (23, 10), (24, 11), (25, 12)] (by kernel_rfl) (by kernel_rfl) rfl
 ·intro xs w hw hp K hK
  simp only [putAll]
  go_simp
  exact hK _ (Grow.refl _)
 apply lex_eq [] [(13, 0), (14, 1), (15, 2), (18, 5), (19, 6), (20, 7), (21, 8), (22, 9), (23, 10), (24, 11), (25, 12)] (by kernel_rfl) (by kernel_rfl) rfl
 ·intro xs w hw hp K hK
  simp only [putAll]
  go_simp
  exact hK _ (Grow.refl _)
 apply lex_eq [(2, true), (3, true)] [(13, 0), (14, 1), (15, 2), (16, 3), (19, 6), (20, 7), (21, 8), (22, 9), (23, 10), (24, 11), (25, 12)] (by kernel_rfl) (by kernel_rfl) rfl
 ·intro xs w hw hp K hK
  simp only [hz] at hp
  simp only [putAll]
  go_simp
  exact hK _ (Grow.refl _)
 apply lex_eq [(4, true)] [(13, 0), (14, 1), (15, 2), (16, 3), (17, 4), (19, 6), (20, 7), (22, 9), (23, 10), (24, 11), (25, 12)] (by kernel_rfl) (by kernel_rfl) rfl
 ·intro xs w hw hp K hK
  simp only [hz] at hp
  simp only [putAll]
  have hc5 := Hcells.out w hw
  go_simp
  exact hK _ (Grow.refl _)
 apply lex_eq [] [(13, 0), (14, 1), (15, 2), (16, 3), (17, 4), (18, 5), (21, 8), (22, 9), (23, 10), (24, 11), (25, 12)] (by kernel_rfl) (by kernel_rfl) rfl
 ·intro xs w hw hp K hK
  simp only [putAll]
  go_simp
  exact hK _ (Grow.refl _)
 apply lex_eq [(6, true)] [(13, 0), (14, 1), (15, 2), (16, 3), (17, 4), (18, 5), (19, 6), (22, 9), (23, 10), (24, 11), (25, 12)] (by kernel_rfl) (by kernel_rfl) rfl
 ·intro xs w hw hp K hK
  simp only [hz] at hp
  simp only [putAll]
  go_simp
  exact hK _ (Grow.refl _)
 apply lex_eq [(5, true), (7, true)] [(13, 0), (14, 1), (15, 2), (16, 3), (17, 4), (18, 5), (19, 6), (20, 7), (22, 9), (23, 10), (24, 11)] (by kernel_rfl) (by kernel_rfl) rfl
 ·intro xs w hw hp K hK
  simp only [hz] at hp
  simp only [putAll]
  go_simp
  exact hK _ (Grow.refl _)
 apply lex_eq [] [(13, 0), (14, 1), (15, 2), (16, 3), (17, 4), (18, 5), (19, 6), (20, 7), (21, 8), (23, 10), (25, 12)] (by kernel_rfl) (by kernel_rfl) rfl
 ·intro xs w hw hp K hK
  simp only [putAll]
  go_simp
  exact hK _ (Grow.refl _)
 apply lex_eq [] [(13, 0), (14, 1), (15, 2), (16, 3), (17, 4), (18, 5), (19, 6), (20, 7), (21, 8), (22, 9), (25, 12)] (by kernel_rfl) (by kernel_rfl) rfl
 ·intro xs w hw hp K hK
  simp only [putAll]
  go_simp
  exact hK _ (Grow.refl _)
 apply lex_eq [(9, true), (10, true)] [(13, 0), (14, 1), (15, 2), (16, 3), (17, 4), (18, 5), (19, 6), (20, 7), (21, 8), (22, 9), (23, 10)] (by kernel_rfl) (by kernel_rfl) rfl
 ·intro xs w hw hp K hK
  simp only [hz] at hp
  simp only [putAll]
  go_simp
  exact hK _ (Grow.refl _)
 apply lex_eq [(8, true), (11, true)] [(13, 0), (14, 1), (15, 2), (16, 3), (17, 4), (18, 5), (19, 6), (20, 7), (21, 8), (22, 9), (23, 10), (24, 11)] (by kernel_rfl) (by kernel_rfl) rfl
 ·intro xs w hw hp K hK
  simp only [hz] at hp
  simp only [putAll]
  go_simp
  exact hK _ (Grow.refl _)
 intro xs w hw hp
 simp only [hz] at hp
 simp only [putAll, hp, List.drop_succ_cons, List.drop_zero]
 have hcw := Hcells.out w hw
 have hfw : w.frozen? ⟨g, ((x - 1) / 4).toNat, none⟩ = false := (hw.frozen (p := ⟨g, ((x - 1) / 4).toNat, none⟩) (lt_of_block HC1.out)).trans hfree
 go_wp2
 go_end0
 have e1 : (3 : Int) * 2 ^ (2 * ((x - 1) % 4)).toNat % 256 = ((3 * 2 ^ (2 * ((x - 1) % 4)).toNat % 256 : Nat) : Int) := by push_cast; rfl
 have e2 : (s : Int) * 2 ^ (2 * ((x - 1) % 4)).toNat % 256 = ((s * 2 ^ (2 * ((x - 1) % 4)).toNat % 256 : Nat) : Int) := by push_cast; rfl
 have e3 : l[((x - 1) / 4).toNat] = l.getD ((x - 1) / 4).toNat 0 := by simp [hq1]
 rw [e1, e2, e3, Hpb.out]
 refine ⟨rfl, brow_set hgb (w := w) ?_ HC2.out HC3.out HC4.out _ hq1 _, ?_⟩
 ·rw [Grow.undrew hw |>.block g (lt_of_block HC1.out)]; exact HC1.out
 ·exact ((Below.mono (Grow.undrew hw) (by have := lt_of_block HC1.out; omega)).setCell hgb _)
end Go.Proofs.YtmhepfehcakmjaaGreat
namespace Go.Proofs.YtmhepfehcakmjaaGreat
open Go.RowKit
attribute [local go_sem] gives givesUpon_value givesUpon_skip givesUpon_enter
def madeP (n : Nat) (l : List UInt8) (lsn : Int) : Pg := { lsn := lsn, kind := 1, level := 0, right := 0, high := [], items := [sev n, l] }
set_option maxRecDepth 100000 in
set_option maxHeartbeats 1000000 in
theorem made_any (n : Nat) (v : Value) (l : List UInt8) (lsn : Int) (w_ : World) (hn : (n : Int) ≤ 9223372036854775807) (hcv : ∀ u, Grow w_ u → (convert 122 9 v).run Tryz.prog u = .ok (.string (str l)) u) :
  Calls Tryz.prog 63 #[.int .i64 n, v, .int .i64 lsn] w_ fun e w' => ∃ iv, e = .returned (pgV (madeP n l lsn) iv) ∧ ItemsS w' iv [sev n, l] ∧ Below w_.heap.size w_ w' := by
 have Hcv := keep hcv
 clear hcv
 go_enter Tryz.func63, Tryz.ntmps63
 go_wp2_with fail
 generalize hw0 : w_.alloc (.cells #[.int .i64 0, .int .i64 0, .int .i64 0, .int .i64 0, .string ⟨#[]⟩, .slice none 0 0] 24) = w0
 have hB0 : Blk w0 w_.heap.size 24 [.int .i64 0, .int .i64 0, .int .i64 0, .int .i64 0, .string ⟨#[]⟩, .slice none 0 0] := by subst hw0; exact Blk.new w_ _ _
 have hg0 : Grow w_ w0 := by subst hw0; exact (Grow.refl w_).alloc _
 have hlt0 := hB0.lt
 clear hw0
 refine (wrNew w0).mono ?_
 rintro e w1 ⟨rfl, hW1, hb1⟩
 go_wp2_with fail
 have hnm := wrNum_some w0.heap.size [] [(n : Int)] w1.heap.size 0 1 #[.int .i64 n] (0, 0) (w1.alloc (.cells #[.int .i64 n] 3)) (hW1.alloc _) (by show (w1.heap.push _)[_]? = _; simp)
  (by intro j hj; simp at hj; subst hj; rfl) (by intro j hj; simp at hj; subst hj; simp; omega) (by simp)
 refine hnm.mono ?_
 rintro e w3 ⟨rfl, hW3, hb3⟩
 clear hnm
 have hs1 := hb1.size
 have hB3 : Blk w3 w_.heap.size 24 [.int .i64 0, .int .i64 0, .int .i64 0, .int .i64 0, .string ⟨#[]⟩, .slice none 0 0] := ((hB0.fits hb1).alloc _).below hb3 hlt0
 have hg3 : Grow w_ w3 := Below.trans hg0 (((hb1.alloc hs1 _).trans hb3).mono hg0.size)
 have hsev : [] ++ sevs [(n : Int)] = sev n := by simp [sevs]
 rw [hsev] at hW3
 have hWu : ∀ u, Grow w3.drew u → Wr u w0.heap.size (sev n) := fun u hu => Wr.grow (w := w3.drew) hW3 hu
 have hCu : ∀ u, Grow w3.drew u → (convert 122 9 v).run Tryz.prog u = .ok (.string (str l)) u := fun u hu => Hcv.out u (Grow.trans hg3 hu.undrew)
 have HW := keep hWu
 have HC := keep hCu
 clear hWu hCu hsev hW1 hW3
 go_wp2_with fail
 refine wp_region_grow (by kernel_rfl) 6 (by kernel_rfl) [(13, 0), (14, 1), (15, 2), (16, 3), (17, 4), (18, 5)] (by kernel_rfl) [(0, true), (1, true), (2, true), (3, true), (4, true), (5, true)] (by kernel_rfl) rfl rfl ?_
 apply lex_eq [] [(14, 1), (15, 2), (16, 3), (17, 4), (18, 5)] (by kernel_rfl) (by kernel_rfl) rfl
 ·intro xs w hw hp K hK
  simp only [putAll]
  go_simp
  exact hK _ (Grow.refl _)
 apply lex_eq [] [(13, 0), (16, 3), (17, 4), (18, 5), (19, 6)] (by kernel_rfl) (by kernel_rfl) rfl
 ·intro xs w hw hp K hK
  simp only [putAll]
  go_simp
  exact hK _ (Grow.refl _)
 apply lex_eq [(1, true)] [(13, 0), (14, 1), (16, 3), (17, 4), (19, 6)] (by kernel_rfl) (by kernel_rfl) rfl
 ·intro xs w hw hp K hK
  simp only [hz] at hp
  simp only [putAll]
  go_simp
  refine (wrBytes _ _ _ (HW.out w hw)).mono ?_; rintro e w' ⟨rfl, rfl⟩; exact ⟨_, rfl, hK _ (Grow.refl _)⟩
 apply lex_eq [] [(13, 0), (14, 1), (15, 2), (18, 5), (19, 6)] (by kernel_rfl) (by kernel_rfl) rfl
 ·intro xs w hw hp K hK
  simp only [putAll]
  go_simp
  exact hK _ (Grow.refl _)
 apply lex_eq [(3, true)] [(13, 0), (14, 1), (15, 2), (16, 3), (19, 6)] (by kernel_rfl) (by kernel_rfl) rfl
 ·intro xs w hw hp K hK
  simp only [hz] at hp
  simp only [putAll]
  have hcv := HC.out w hw
  go_simp
  exact hK _ (Grow.refl _)
 refine lex_says (fun v u => ∃ b, v = .slice (some ⟨b, 0, none⟩) 2 2 ∧ Blk u b 9 [.string (str (sev n)), .string (str l)] ∧ w3.heap.size ≤ b) (fun v u u' hg ⟨b, h1, h2, h3⟩ => ⟨b, h1, Blk.fits h2 hg, h3⟩) [(2, true), (4, true)] [(13, 0), (14, 1), (15, 2), (16, 3), (17, 4)] (by kernel_rfl) (by kernel_rfl) rfl ?_ ?_
 ·intro xs w hw hp K hK
  simp only [hz] at hp
  simp only [putAll]
  go_simp
  exact hK _ _ ⟨_, rfl, Blk.new w _ [_, _], by simpa using hw.size⟩ ((Grow.refl w).alloc _)
 intro xs w hw hp
 simp only [hz] at hp
 simp only [putAll, hp, List.drop_succ_cons, List.drop_zero]
 obtain ⟨_, _, _, _, _, b, hp5, hBs, hbs⟩ := hp
 simp only [hp5]
 have hB4 := hB3.fits (Grow.undrew hw)
 have c0 := hB4.cell 0 (by simp)
 have c1 := hB4.cell 1 (by simp)
 have c2 := hB4.cell 2 (by simp)
 have c3 := hB4.cell 3 (by simp)
 have c4 := hB4.cell 4 (by simp)
 have c5 := hB4.cell 5 (by simp)
 have f0 := hB4.free 0
 have f1 := hB4.free 1
 have f2 := hB4.free 2
 have f3 := hB4.free 3
 have f4 := hB4.free 4
 have f5 := hB4.free 5
 have hset := pgset hB4 (.int .i64 lsn) (.int .i64 1) (.int .i64 0) (.int .i64 0) (.string ⟨#[]⟩) (.slice (some ⟨b, 0, none⟩) 2 2)
 have hbut := pgbut w w_.heap.size (.int .i64 lsn) (.int .i64 1) (.int .i64 0) (.int .i64 0) (.string ⟨#[]⟩) (.slice (some ⟨b, 0, none⟩) 2 2)
 have Hset := keep hset
 have Hbut := keep hbut
 have hi : ItemsS w (.slice (some ⟨b, 0, none⟩) 2 2) [sev n, l] := RowS.blk hBs 2 2 _ 0 (by intro j hj; simp [sCells])
 have Hi := keep hi
 clear hset hbut hi
 go_wp2
 refine bodyPost_ret (v := pgV (madeP n l lsn) (.slice (some ⟨b, 0, none⟩) 2 2)) ?_ rfl ⟨_, rfl, items_but Hi.out Hbut.out hB4 (by decide), ?_⟩
 ·have r0 := Hset.out.cell 0 (by simp)
  have r1 := Hset.out.cell 1 (by simp)
  have r2 := Hset.out.cell 2 (by simp)
  have r3 := Hset.out.cell 3 (by simp)
  have r4 := Hset.out.cell 4 (by simp)
  have r5 := Hset.out.cell 5 (by simp)
  simp [results, Tryz.results63, go_sem, r0, r1, r2, r3, r4, r5, pgV, madeP]
  rfl
 ·exact But.below (Grow.trans hg3 (Grow.undrew hw)) Hbut.out (Nat.le_refl _) (by have := (Grow.undrew hw).size; have := hg3.size; omega)
end Go.Proofs.YtmhepfehcakmjaaGreat
namespace Go.Proofs.YtmhepfehcakmjaaGreat
open Go.RowKit
def noPg : Pg := { lsn := 0, kind := 0, level := 0, right := 0, high := [], items := [] }
def pg0 : List Value := [.int .i64 0, .int .i64 0, .int .i64 0, .int .i64 0, .string ⟨#[]⟩, .slice none 0 0]
def CpgPost (P : Pg) (c : Int) (w : World) (e : Ending) (w' : World) : Prop := ∃ iv, e = .returned (.tuple #[pgV P iv, .int .i64 c]) ∧ ItemsS w' iv P.items ∧ Below w.heap.size w w'
def blankS (m fr : Int) : Pg × Int := if idsB m [fr] then (madeP fr.toNat (List.replicate ((m + 3) / 4).toNat 0) 0, 0) else (noPg, 1)
set_option maxRecDepth 100000 in
set_option maxHeartbeats 1000000 in
theorem blank_bad (m fr : Int) (w : World) (h : idsB m [fr] = false) : Calls Tryz.prog 37 #[.int .i64 m, .int .i64 fr] w (CpgPost noPg 1 w) := by
 cases hm : modB m with
 | false =>
  go_enter Tryz.func37, Tryz.ntmps37
  go_wp2_with fail
  generalize hw0 : w.alloc (.cells #[.int .i64 0, .int .i64 0, .int .i64 0, .int .i64 0, .string ⟨#[]⟩, .slice none 0 0] 24) = w0
  have hB0 : Blk w0 w.heap.size 24 pg0 := by subst hw0; exact Blk.new w _ _
  have hg0 : Grow w w0 := by subst hw0; exact (Grow.refl w).alloc _
  clear hw0
  refine (isModulus_any _ _).mono ?_
  rintro e w1 ⟨rfl, hb1⟩
  have hB1 := hB0.fits hb1
  obtain ⟨c0, c1, c2, c3, c4, c5, f0, f1, f2, f3, f4, f5⟩ := pgres hB1
  have hset := pgset hB1 (.int .i64 0) (.int .i64 0) (.int .i64 0) (.int .i64 0) (.string ⟨#[]⟩) (.slice none 0 0)
  have hbut := pgbut w1 w.heap.size (.int .i64 0) (.int .i64 0) (.int .i64 0) (.int .i64 0) (.string ⟨#[]⟩) (.slice none 0 0)
  have Hset := keep hset
  have Hbut := keep hbut
  clear hset hbut
  go_wp2_with fail
  refine bodyPost_ret (v := .tuple #[pgV noPg (.slice none 0 0), .int .i64 1]) ?_ rfl ⟨_, rfl, RowS.nil _ _ _ _, But.below (Grow.trans hg0 hb1) Hbut.out (Nat.le_refl _) (Grow.trans hg0 hb1).size⟩
  obtain ⟨r0, r1, r2, r3, r4, r5, _⟩ := pgres Hset.out
  simp [results, Tryz.results37, go_sem, r0, r1, r2, r3, r4, r5, pgV, noPg]
  rfl
 | true =>
  go_enter Tryz.func37, Tryz.ntmps37
  go_wp2_with fail
  generalize hw0 : w.alloc (.cells #[.int .i64 0, .int .i64 0, .int .i64 0, .int .i64 0, .string ⟨#[]⟩, .slice none 0 0] 24) = w0
  have hB0 : Blk w0 w.heap.size 24 pg0 := by subst hw0; exact Blk.new w _ _
  have hg0 : Grow w w0 := by subst hw0; exact (Grow.refl w).alloc _
  clear hw0
  refine (isModulus_any _ _).mono ?_
  rintro e w1 ⟨rfl, hb1⟩
  go_wp2_with fail
  refine (isID_any _ _ _).mono ?_
  rintro e w2 ⟨rfl, hb2⟩
  have hB1 := (hB0.fits hb1).fits hb2
  obtain ⟨c0, c1, c2, c3, c4, c5, f0, f1, f2, f3, f4, f5⟩ := pgres hB1
  have hset := pgset hB1 (.int .i64 0) (.int .i64 0) (.int .i64 0) (.int .i64 0) (.string ⟨#[]⟩) (.slice none 0 0)
  have hbut := pgbut w2 w.heap.size (.int .i64 0) (.int .i64 0) (.int .i64 0) (.int .i64 0) (.string ⟨#[]⟩) (.slice none 0 0)
  have Hset := keep hset
  have Hbut := keep hbut
  have hg2 := Grow.trans (Grow.trans hg0 hb1) hb2
  clear hset hbut
  go_wp2_with fail
  refine bodyPost_ret (v := .tuple #[pgV noPg (.slice none 0 0), .int .i64 1]) ?_ rfl ⟨_, rfl, RowS.nil _ _ _ _, But.below hg2 Hbut.out (Nat.le_refl _) (Below.size hg2)⟩
  obtain ⟨r0, r1, r2, r3, r4, r5, _⟩ := pgres Hset.out
  simp [results, Tryz.results37, go_sem, r0, r1, r2, r3, r4, r5, pgV, noPg]
  rfl
set_option maxRecDepth 100000 in
set_option maxHeartbeats 1000000 in
theorem blank_ok (m fr : Int) (w : World) (h : idsB m [fr] = true) : Calls Tryz.prog 37 #[.int .i64 m, .int .i64 fr] w (CpgPost (madeP fr.toNat (List.replicate ((m + 3) / 4).toNat 0) 0) 0 w) := by
 obtain ⟨hm, hf1, hf2⟩ := idsB_one h
 obtain ⟨hm1, hm2, _⟩ := modB_bd hm
 obtain ⟨i0, hi, hz0, hz1, hz2⟩ := info_parts infoU8
 obtain ⟨fn, rfl⟩ := Int.eq_ofNat_of_zero_le (show 0 ≤ fr by omega)
 obtain ⟨sz, hsz⟩ : ∃ sz : Nat, (m + 3) / 4 = (sz : Int) := ⟨((m + 3) / 4).toNat, by omega⟩
 have hszl : sz ≤ 256 := by omega
 have HSZ := keep hsz
 go_enter Tryz.func37, Tryz.ntmps37
 go_wp2_with fail
 generalize hw0 : w.alloc (.cells #[.int .i64 0, .int .i64 0, .int .i64 0, .int .i64 0, .string ⟨#[]⟩, .slice none 0 0] 24) = w0
 have hB0 : Blk w0 w.heap.size 24 pg0 := by subst hw0; exact Blk.new w _ _
 have hg0 : Grow w w0 := by subst hw0; exact (Grow.refl w).alloc _
 clear hw0
 refine (isModulus_any _ _).mono ?_
 rintro e w1 ⟨rfl, hb1⟩
 go_wp2_with fail
 refine (isID_any _ _ _).mono ?_
 rintro e w2 ⟨rfl, hb2⟩
 have hB2 := (hB0.fits hb1).fits hb2
 have hg2 := Grow.trans (Grow.trans hg0 hb1) hb2
 clear hB0 hg0 hb1 hb2
 go_wp2_with fail
 refine (csize_any m w2 (by omega) hm2).mono ?_
 rintro e w3 ⟨rfl, rfl⟩
 go_wp2_with ((at_make; go_must (refine wpList_make_full _ rfl _ _ 122 rfl w2.heap.size 5 i0 (.int .u8 0) 1 Tryz.underlying122 hi hz0 hz1 .i64 .i64 _ _ sz rfl rfl (by omega) (by omega) (by rw [hz2]; omega) (by unfold maxLen; omega) (Nat.le_refl _) ?_); intro w4 hown hgrow))
 have hz : (madeCells (Value.int IntKind.u8 0).cells (sz * 1)).toList = bcells (List.replicate sz 0) := by
  rw [Nat.mul_one, bcells, List.map_replicate]; exact toList_madeCells_one _ _
 rw [hz] at hown
 have hg4 : Grow w2 w4 := (Below.refl _ _).grown hgrow (Nat.le_refl _) (by simp)
 have hB4 := hB2.fits hg4
 have hcv : ∀ u, Grow w4 u → (convert 122 9 (.slice (some ⟨w2.heap.size, 0, none⟩) sz sz)).run Tryz.prog u = .ok (.string (str (List.replicate sz 0))) u := by
  intro u hu
  refine own_convert (base := w2.heap.size) (n := sz) ⟨hown.1, ?_⟩ (by simp)
  rcases hown.2 with h | ⟨g, cap, cur, a1, a2, a3, a4⟩
  ·exact .inl h
  ·exact .inr ⟨g, cap, cur, a1, a2, by rw [hu.block g (lt_of_block a3)]; exact a3, a4⟩
 refine (made_any fn _ (List.replicate sz 0) 0 w4 (by omega) hcv).mono ?_
 rintro e w5 ⟨iv, rfl, hit, hb5⟩
 have hB5 := hB4.fits hb5
 have hg5 := Grow.trans (Grow.trans hg2 hg4) hb5
 obtain ⟨c0, c1, c2, c3, c4, c5, f0, f1, f2, f3, f4, f5⟩ := pgres hB5
 have hset := pgset hB5 (.int .i64 0) (.int .i64 1) (.int .i64 0) (.int .i64 0) (.string (str [])) iv
 have hbut := pgbut w5 w.heap.size (.int .i64 0) (.int .i64 1) (.int .i64 0) (.int .i64 0) (.string (str [])) iv
 have Hset := keep hset
 have Hbut := keep hbut
 have Hit := keep hit
 have e1 : ((m + 3) / 4).toNat = sz := by have := HSZ.out; omega
 have E1 := keep e1
 obtain ⟨iva, ivc, hivf⟩ : ∃ a c, iv = .slice a 2 c := items_form hit.weak
 subst hivf
 clear hset hbut hcv hown hgrow hz hit e1 hsz hB2 hB4
 unfold pgV madeP
 go_wp2_with fail
 refine bodyPost_ret (v := .tuple #[pgV (madeP fn (List.replicate sz 0) 0) (.slice iva 2 ivc), .int .i64 0]) ?_ rfl ?_
 ·obtain ⟨r0, r1, r2, r3, r4, r5, _⟩ := pgres Hset.out
  simp [results, Tryz.results37, go_sem, r0, r1, r2, r3, r4, r5, pgV, madeP]
 ·rw [Int.toNat_natCast, E1.out]
  exact ⟨_, rfl, items_but Hit.out Hbut.out hB5 (by decide), But.below hg5 Hbut.out (Nat.le_refl _) (Below.size hg5)⟩
theorem blank_any (m fr : Int) (w : World) : Calls Tryz.prog 37 #[.int .i64 m, .int .i64 fr] w (CpgPost (blankS m fr).1 (blankS m fr).2 w) := by
 unfold blankS
 cases h : idsB m [fr] with
 | false => exact blank_bad m fr w h
 | true => exact blank_ok m fr w h
end Go.Proofs.YtmhepfehcakmjaaGreat
namespace Go.Proofs.YtmhepfehcakmjaaGreat
open Go.RowKit
def setS (m : Int) (p : Pg) (x : Int) (s : Nat) : Pg × Int :=
 if openE m p = 0 then if idsB m [x] && decide (s ≤ 3) then (madeP (openNum m p).1.toNat (putS (p.items.getD 1 []) x s) p.lsn, 0) else (noPg, 1) else (noPg, openE m p)
set_option maxRecDepth 100000 in
set_option maxHeartbeats 1000000 in
theorem set_bad (m : Int) (p : Pg) (iv : Value) (x : Int) (s : Nat) (w : World) (hi : Items w iv p.items) (hs : ∀ x ∈ p.items, (x.length : Int) ≤ 9223372036854775807) (h0 : openE m p ≠ 0) :
  Calls Tryz.prog 38 #[.int .i64 m, pgV p iv, .int .i64 x, .int .u8 s] w (CpgPost noPg (openE m p) w) := by
 obtain ⟨w0, hw0⟩ : ∃ w0, w0 = (w.alloc (.cells (pgCells p iv).toArray 24)).alloc (.cells #[.int .i64 0, .int .i64 0, .int .i64 0, .int .i64 0, .string ⟨#[]⟩, .slice none 0 0] 24) := ⟨_, rfl⟩
 have hg0 : Grow w w0 := by subst hw0; exact ((Grow.refl w).alloc _).alloc _
 have hBb : Blk w0 w.heap.size 24 (pgCells p iv) := by subst hw0; exact (Blk.new w _ _).alloc _
 have hB0 : Blk w0 (w.heap.size + 1) 24 pg0 := by
  have := Blk.new (w.alloc (.cells (pgCells p iv).toArray 24)) 24 pg0
  have e : (w.alloc (.cells (pgCells p iv).toArray 24)).heap.size = w.heap.size + 1 := by simp
  rw [e] at this
  subst hw0; exact this
 have ho := open_any m p iv w0 (hi.fits hg0) hs
 unfold pgV CopenPost at ho
 rw [if_neg h0] at ho
 unfold pgCells at hw0 hBb
 have h0' : (openE m p != 0) = true := by simpa using h0
 generalize openE m p = E at *
 have Ho := keep ho
 clear ho h0 hi hs
 unfold pgV
 go_enter Tryz.func38, Tryz.ntmps38
 obtain ⟨c0, c1, c2, c3, c4, c5, f0, f1, f2, f3, f4, f5⟩ := pgres hBb
 go_wp2_with fail
 rw [← hw0]
 refine Ho.out.mono ?_
 rintro e w1 ⟨bv, rfl, hb, _, a, n, c, rfl⟩
 have hg1 := Grow.trans hg0 hb
 have hB1 := hB0.fits hb
 clear hw0 hg0 hBb hB0 c0 c1 c2 c3 c4 c5 f0 f1 f2 f3 f4 f5 hb Ho
 obtain ⟨c0, c1, c2, c3, c4, c5, f0, f1, f2, f3, f4, f5⟩ := pgres hB1
 have hset := pgset hB1 (.int .i64 0) (.int .i64 0) (.int .i64 0) (.int .i64 0) (.string ⟨#[]⟩) (.slice none 0 0)
 have hbut := pgbut w1 (w.heap.size + 1) (.int .i64 0) (.int .i64 0) (.int .i64 0) (.int .i64 0) (.string ⟨#[]⟩) (.slice none 0 0)
 have Hset := keep hset
 have Hbut := keep hbut
 clear hset hbut
 go_wp2_with fail
 refine bodyPost_ret (v := .tuple #[pgV noPg (.slice none 0 0), .int .i64 E]) ?_ rfl ⟨_, rfl, RowS.nil _ _ _ _, But.below hg1 Hbut.out (by omega) (Below.size hg1)⟩
 obtain ⟨r0, r1, r2, r3, r4, r5, _⟩ := pgres Hset.out
 simp [results, Tryz.results38, go_sem, r0, r1, r2, r3, r4, r5, pgV, noPg]
 rfl
set_option maxRecDepth 100000 in
set_option maxHeartbeats 1000000 in
theorem set_arg (m : Int) (p : Pg) (iv : Value) (x : Int) (s : Nat) (w : World) (hi : Items w iv p.items) (hs : ∀ x ∈ p.items, (x.length : Int) ≤ 9223372036854775807) (h0 : openE m p = 0) (h1 : (idsB m [x] && decide (s ≤ 3)) = false) (hs8 : s < 256) :
  Calls Tryz.prog 38 #[.int .i64 m, pgV p iv, .int .i64 x, .int .u8 s] w (CpgPost noPg 1 w) := by
 obtain ⟨w0, hw0⟩ : ∃ w0, w0 = (w.alloc (.cells (pgCells p iv).toArray 24)).alloc (.cells #[.int .i64 0, .int .i64 0, .int .i64 0, .int .i64 0, .string ⟨#[]⟩, .slice none 0 0] 24) := ⟨_, rfl⟩
 have hg0 : Grow w w0 := by subst hw0; exact ((Grow.refl w).alloc _).alloc _
 have hBb : Blk w0 w.heap.size 24 (pgCells p iv) := by subst hw0; exact (Blk.new w _ _).alloc _
 have hB0 : Blk w0 (w.heap.size + 1) 24 pg0 := by
  have := Blk.new (w.alloc (.cells (pgCells p iv).toArray 24)) 24 pg0
  have e : (w.alloc (.cells (pgCells p iv).toArray 24)).heap.size = w.heap.size + 1 := by simp
  rw [e] at this
  subst hw0; exact this
 have ho := open_any m p iv w0 (hi.fits hg0) hs
 unfold pgV CopenPost at ho
 rw [if_pos h0] at ho
 unfold pgCells at hw0 hBb
 rw [h0] at ho
 generalize (openNum m p).1 = F at *
 generalize p.items.getD 1 [] = l at *
 have Ho := keep ho
 clear ho h0 hi hs
 unfold pgV
 go_enter Tryz.func38, Tryz.ntmps38
 obtain ⟨c0, c1, c2, c3, c4, c5, f0, f1, f2, f3, f4, f5⟩ := pgres hBb
 go_wp2_with fail
 rw [← hw0]
 refine Ho.out.mono ?_
 rintro e w1 ⟨bv, rfl, hb, hbr, a, n, c, rfl⟩
 have hg1 := Grow.trans hg0 hb
 have hB1 := hB0.fits hb
 clear hw0 hg0 hBb hB0 c0 c1 c2 c3 c4 c5 f0 f1 f2 f3 f4 f5 hb Ho hbr
 go_wp2_with fail
 refine (isID_any _ _ _).mono ?_
 rintro e w2 ⟨rfl, hb2⟩
 have hg2 := Grow.trans hg1 hb2
 have hB2 := hB1.fits hb2
 obtain ⟨c0, c1, c2, c3, c4, c5, f0, f1, f2, f3, f4, f5⟩ := pgres hB2
 have hset := pgset hB2 (.int .i64 0) (.int .i64 0) (.int .i64 0) (.int .i64 0) (.string ⟨#[]⟩) (.slice none 0 0)
 have hbut := pgbut w2 (w.heap.size + 1) (.int .i64 0) (.int .i64 0) (.int .i64 0) (.int .i64 0) (.string ⟨#[]⟩) (.slice none 0 0)
 have Hset := keep hset
 have Hbut := keep hbut
 clear hset hbut hB1 hg1 hb2
 cases hB : idsB m [x] with
 | false =>
  go_wp2_with fail
  refine bodyPost_ret (v := .tuple #[pgV noPg (.slice none 0 0), .int .i64 1]) ?_ rfl ⟨_, rfl, RowS.nil _ _ _ _, But.below hg2 Hbut.out (by omega) (Below.size hg2)⟩
  obtain ⟨r0, r1, r2, r3, r4, r5, _⟩ := pgres Hset.out
  simp [results, Tryz.results38, go_sem, r0, r1, r2, r3, r4, r5, pgV, noPg]
  rfl
 | true =>
  have hs3 : (3 : Int) < (s : Int) := by rw [hB] at h1; simp at h1; omega
  go_wp2_with fail
  refine bodyPost_ret (v := .tuple #[pgV noPg (.slice none 0 0), .int .i64 1]) ?_ rfl ⟨_, rfl, RowS.nil _ _ _ _, But.below hg2 Hbut.out (by omega) (Below.size hg2)⟩
  obtain ⟨r0, r1, r2, r3, r4, r5, _⟩ := pgres Hset.out
  simp [results, Tryz.results38, go_sem, r0, r1, r2, r3, r4, r5, pgV, noPg]
  rfl
set_option maxRecDepth 100000 in
set_option maxHeartbeats 1000000 in
theorem set_ok (m : Int) (p : Pg) (iv : Value) (x : Int) (s : Nat) (w : World) (hi : Items w iv p.items) (hs : ∀ x ∈ p.items, (x.length : Int) ≤ 9223372036854775807) (h0 : openE m p = 0) (hB : idsB m [x] = true) (hs3 : s ≤ 3) :
  Calls Tryz.prog 38 #[.int .i64 m, pgV p iv, .int .i64 x, .int .u8 s] w (CpgPost (madeP (openNum m p).1.toNat (putS (p.items.getD 1 []) x s) p.lsn) 0 w) := by
 obtain ⟨_, hx1, hx2⟩ := idsB_one hB
 obtain ⟨hm1, hm2, _⟩ := modB_bd (openE_zero h0).1
 have hll := (openE_len h0).2.1
 have hF : 0 ≤ (openNum m p).1 ∧ (openNum m p).1 ≤ 1024 := by
  have hb := (openE_zero h0).2.2
  unfold openBody at hb
  simp only [Bool.and_eq_true, decide_eq_true_eq] at hb
  have := rdNumS_facts m (p.items.getD 0 [])
  have h5 := (this.2.2.2.2 hb.1.1.1).1
  unfold openNum
  omega
 obtain ⟨fn, hfn⟩ := Int.eq_ofNat_of_zero_le hF.1
 obtain ⟨w0, hw0⟩ : ∃ w0, w0 = (w.alloc (.cells (pgCells p iv).toArray 24)).alloc (.cells #[.int .i64 0, .int .i64 0, .int .i64 0, .int .i64 0, .string ⟨#[]⟩, .slice none 0 0] 24) := ⟨_, rfl⟩
 have hg0 : Grow w w0 := by subst hw0; exact ((Grow.refl w).alloc _).alloc _
 have hBb : Blk w0 w.heap.size 24 (pgCells p iv) := by subst hw0; exact (Blk.new w _ _).alloc _
 have hB0 : Blk w0 (w.heap.size + 1) 24 pg0 := by
  have := Blk.new (w.alloc (.cells (pgCells p iv).toArray 24)) 24 pg0
  have e : (w.alloc (.cells (pgCells p iv).toArray 24)).heap.size = w.heap.size + 1 := by simp
  rw [e] at this
  subst hw0; exact this
 have ho := open_any m p iv w0 (hi.fits hg0) hs
 unfold pgV CopenPost at ho
 rw [if_pos h0] at ho
 unfold pgCells at hw0 hBb
 rw [h0] at ho
 rw [hfn] at ho hF ⊢
 rw [Int.toNat_natCast]
 generalize p.items.getD 1 [] = l at *
 have hq1 : ((x - 1) / 4).toNat < l.length := by omega
 have HL := keep hll
 have hl2 : (l.length : Int) ≤ 9223372036854775807 := by omega
 have Ho := keep ho
 have HF := keep hF
 clear ho h0 hi hs hfn hF hll
 unfold pgV
 go_enter Tryz.func38, Tryz.ntmps38
 obtain ⟨c0, c1, c2, c3, c4, c5, f0, f1, f2, f3, f4, f5⟩ := pgres hBb
 go_wp2_with fail
 rw [← hw0]
 refine Ho.out.mono ?_
 rintro e w1 ⟨bv, rfl, hb, hbr, a, n, c, rfl⟩
 have hg1 := Grow.trans hg0 hb
 have hB1 := hB0.fits hb
 have hb1 := hBb.fits hb
 have hR1 := hbr trivial
 clear hw0 c0 c1 c2 c3 c4 c5 f0 f1 f2 f3 f4 f5 hb Ho hbr
 go_wp2_with fail
 refine (isID_any _ _ _).mono ?_
 rintro e w2 ⟨rfl, hb2⟩
 have hg2 := Grow.trans hg1 hb2
 have hB2 := hB1.fits hb2
 have hbb2 := hb1.fits hb2
 have hR2 := hR1.fits hb2
 have hs3' : (s : Int) ≤ 3 := by omega
 clear hg1 hB1 hb1 hR1
 go_wp2_with fail
 refine (cput_any _ _ _ x s w2 hR2 hx1 (by omega) hq1 (by omega) hl2).mono ?_
 rintro e w3 ⟨rfl, hR3, hb3⟩
 have hz0 := hb2.size
 have hz1 := hg0.size
 have hl0 := hBb.lt
 have hl1 := hB0.lt
 have hg3 : Grow w w3 := Below.trans hg2 (hb3.mono (by omega))
 have hB3 := hB2.below hb3 (by omega)
 have hbb3 := hbb2.below hb3 (by omega)
 obtain ⟨c0, c1, c2, c3, c4, c5, f0, f1, f2, f3, f4, f5⟩ := pgres hbb3
 clear hg2 hB2 hbb2 hb3 hb2 hR2
 go_wp2_with fail
 refine (made_any fn _ (putS l x s) p.lsn w3 (by have := HF.out; omega) (fun u hu => (hR3.fits hu).converts)).mono ?_
 rintro e w4 ⟨iv', rfl, hit, hb4⟩
 have hB4 := hB3.fits hb4
 have hg4 := Grow.trans hg3 hb4
 obtain ⟨iva, ivc, hivf⟩ : ∃ a c, iv' = .slice a 2 c := items_form hit.weak
 subst hivf
 clear c0 c1 c2 c3 c4 c5 f0 f1 f2 f3 f4 f5 hbb3 hB3 hR3
 obtain ⟨c0, c1, c2, c3, c4, c5, f0, f1, f2, f3, f4, f5⟩ := pgres hB4
 have hset := pgset hB4 (.int .i64 p.lsn) (.int .i64 1) (.int .i64 0) (.int .i64 0) (.string (str [])) (.slice iva 2 ivc)
 have hbut := pgbut w4 (w.heap.size + 1) (.int .i64 p.lsn) (.int .i64 1) (.int .i64 0) (.int .i64 0) (.string (str [])) (.slice iva 2 ivc)
 have Hset := keep hset
 have Hbut := keep hbut
 have Hit := keep hit
 clear hset hbut hit
 unfold pgV madeP
 go_wp2_with fail
 refine bodyPost_ret (v := .tuple #[pgV (madeP fn (putS l x s) p.lsn) (.slice iva 2 ivc), .int .i64 0]) ?_ rfl ?_
 ·obtain ⟨r0, r1, r2, r3, r4, r5, _⟩ := pgres Hset.out
  simp [results, Tryz.results38, go_sem, r0, r1, r2, r3, r4, r5, pgV, madeP]
 ·exact ⟨_, rfl, items_but Hit.out Hbut.out hB4 (by decide), But.below hg4 Hbut.out (by omega) (Below.size hg4)⟩
theorem set_any (m : Int) (p : Pg) (iv : Value) (x : Int) (s : Nat) (w : World) (hi : Items w iv p.items) (hs : ∀ x ∈ p.items, (x.length : Int) ≤ 9223372036854775807) (hs8 : s < 256) :
  Calls Tryz.prog 38 #[.int .i64 m, pgV p iv, .int .i64 x, .int .u8 s] w (CpgPost (setS m p x s).1 (setS m p x s).2 w) := by
 unfold setS
 by_cases h0 : openE m p = 0
 ·rw [if_pos h0]
  cases h1 : (idsB m [x] && decide (s ≤ 3)) with
  | false => exact set_arg m p iv x s w hi hs h0 h1 hs8
  | true =>
   simp only [Bool.and_eq_true, decide_eq_true_eq] at h1
   exact set_ok m p iv x s w hi hs h0 h1.1 h1.2
 ·rw [if_neg h0]
  exact set_bad m p iv x s w hi hs h0
end Go.Proofs.YtmhepfehcakmjaaGreat
namespace Go.Proofs.YtmhepfehcakmjaaGreat
open Go.RowKit
def idxI (l : List Int) (x : Int) : Int := if l.contains x then (l.idxOf x : Int) else -1
theorem idxI_hit {l : List Int} {x : Int} {k : Nat} (hk : k < l.length) (h1 : ∀ y ∈ l.take k, y ≠ x) (h2 : l.getD k 0 = x) : idxI l x = k := by
 have hg : l[k] = x := by simpa [hk] using h2
 have hmem : l.contains x = true := by
  rw [List.contains_iff_mem]; exact hg ▸ List.getElem_mem hk
 unfold idxI
 rw [if_pos hmem]
 have e : l = l.take k ++ x :: l.drop (k + 1) := by
  rw [← hg, ← List.drop_eq_getElem_cons hk, List.take_append_drop]
 have : x ∉ l.take k := fun hm => h1 x hm rfl
 rw [e, List.idxOf_append, if_neg this]
 simp; omega
theorem idxI_none {l : List Int} {x : Int} (h1 : ∀ y ∈ l, y ≠ x) : idxI l x = -1 := by
 unfold idxI
 rw [if_neg]
 intro h
 rw [List.contains_iff_mem] at h
 exact h1 x h rfl
set_option maxHeartbeats 1000000 in
theorem sindex_any (v : Value) (l : List Int) (x : Int) (w : World) (hv : Ints w v l) (hlen : (l.length : Int) ≤ 70368744177664) :
  Calls Tryz.prog 123 #[v, .int .i64 x] w fun e w' => e = .returned (.int .i64 (idxI l x)) ∧ Below w.heap.size w w' := by
 obtain ⟨a, cap, rfl, hc⟩ := ints_form hv
 clear hv
 go_enter Tryz.func123, Tryz.ntmps123
 go_wp2_with fail
 go_loop [8] (fun i => ∃ k : Nat, k ≤ l.length ∧ i = .int .i64 k ∧ Kept (∀ y ∈ l.take k, y ≠ x)) (fun i => l.length - (intOf i).toNat)
 case atStart => exact ⟨0, Nat.zero_le _, rfl, keep (by simp)⟩
 case round =>
  obtain ⟨k, hk, rfl, hall⟩ := hrel
  by_cases hlt : k < l.length
  ·obtain ⟨c, off, rfl, hcell⟩ := hc k hlt
   have hhit := @idxI_hit l x k hlt hall.out
   have htake : l.take (k + 1) = l.take k ++ [l.getD k 0] := by
    rw [List.take_succ_eq_append_getElem hlt]; simp [hlt]
   generalize l.getD k 0 = y at hcell hhit htake
   have HH := keep hhit
   have HT := keep htake
   clear hhit htake hc
   by_cases hxy : y = x
   ·have e1 : (x == y) = true := by simp [hxy]
    go_wp2_with fail
    go_ret
    rw [HH.out hxy]
    exact ⟨rfl, Below.refl _ _⟩
   ·have e1 : (x == y) = false := by simp; exact fun h => hxy h.symm
    go_wp2_with fail
    go_round
    case rel =>
     refine ⟨k + 1, by omega, by go_num, keep ?_⟩
     rw [HT.out]
     intro z hz
     rcases List.mem_append.mp hz with hz | hz
     ·exact hall.out z hz
     ·simp at hz; rw [hz]; exact hxy
    case measure => simp [intOf]; omega
  ·have e : l.take k = l := List.take_of_length_le (by omega)
   have hn := @idxI_none l x (by have := hall.out; rw [e] at this; exact this)
   have HN := keep hn
   clear hn e
   go_wp2_with fail
   go_ret
   rw [HN.out]
   exact ⟨rfl, Below.refl _ _⟩
set_option maxHeartbeats 1000000 in
theorem contains_any (v : Value) (l : List Int) (x : Int) (w : World) (hv : Ints w v l) (hlen : (l.length : Int) ≤ 70368744177664) :
  Calls Tryz.prog 100 #[v, .int .i64 x] w fun e w' => e = .returned (.bool (l.contains x)) ∧ Below w.heap.size w w' := by
 have hi := sindex_any v l x w hv hlen
 have hd : decide (0 ≤ idxI l x) = l.contains x := by
  unfold idxI; split <;> rename_i h <;> rw [Bool.eq_iff_iff] <;> simp at h ⊢ <;> simp [h]
 generalize idxI l x = I at *
 have Hi := keep hi
 have HD := keep hd
 obtain ⟨a, cap, rfl, _⟩ := ints_form hv
 clear hi hv hd
 go_enter Tryz.func100, Tryz.ntmps100
 go_wp2_with fail
 refine Hi.out.mono ?_
 rintro e w1 ⟨rfl, hb⟩
 go_wp2_with fail
 go_ret
 rw [← HD.out]
 exact ⟨rfl, hb⟩
end Go.Proofs.YtmhepfehcakmjaaGreat
namespace Go.Proofs.YtmhepfehcakmjaaGreat
open Go.RowKit
structure Vw where
 m : Int
 next : Int
 active : List Int
 own : Int
 running : List Int
 clog : Pg
def vwV (v : Vw) (av rv iv : Value) : Value := .agg #[.int .i64 v.m, .int .i64 v.next, av, .int .i64 v.own, rv, .int .i64 v.clog.lsn, .int .i64 v.clog.kind, .int .i64 v.clog.level, .int .i64 v.clog.right, .string (str v.clog.high), iv]
def vwCells (v : Vw) (av rv iv : Value) : List Value := [.int .i64 v.m, .int .i64 v.next, av, .int .i64 v.own, rv, .int .i64 v.clog.lsn, .int .i64 v.clog.kind, .int .i64 v.clog.level, .int .i64 v.clog.right, .string (str v.clog.high), iv]
structure VwIn (w : World) (v : Vw) (av rv iv : Value) : Prop where
 act : Ints w av v.active
 run : Ints w rv v.running
 items : Items w iv v.clog.items
 actl : (v.active.length : Int) ≤ 70368744177664
 runl : (v.running.length : Int) ≤ 70368744177664
 itemsl : (v.clog.items.length : Int) ≤ 70368744177664
 texts : ∀ x ∈ v.clog.items, (x.length : Int) ≤ 9223372036854775807
theorem VwIn.fits {w w' : World} {v : Vw} {av rv iv : Value} (h : VwIn w v av rv iv) (k : Below w.heap.size w w') : VwIn w' v av rv iv :=
 ⟨h.act.fits k, h.run.fits k, Row.fits h.items k, h.actl, h.runl, h.itemsl, h.texts⟩
def statusS (v : Vw) (x : Int) : Nat := if v.running.contains x then 1 else (getS v.m v.clog x).1
theorem getS_err {m : Int} {p : Pg} {x : Int} (h : (getS m p x).2 ≠ 0) : (getS m p x).1 = 0 := by
 unfold getS at *
 split at h
 ·split at h
  ·exact absurd rfl h
  ·rename_i h1 h2; simp [h1, h2]
 ·rename_i h1; simp [h1]
set_option maxRecDepth 100000 in
set_option maxHeartbeats 1000000 in
theorem status_any (v : Vw) (av rv iv : Value) (x : Int) (w : World) (hv : VwIn w v av rv iv) :
  Calls Tryz.prog 73 #[vwV v av rv iv, .int .i64 x] w fun e w' => e = .returned (.int .u8 (statusS v x)) ∧ Below w.heap.size w w' := by
 obtain ⟨w0, hw0⟩ : ∃ w0, w0 = w.alloc (.cells (vwCells v av rv iv).toArray 65) := ⟨_, rfl⟩
 have hg0 : Grow w w0 := by subst hw0; exact (Grow.refl w).alloc _
 have hB0 : Blk w0 w.heap.size 65 (vwCells v av rv iv) := by subst hw0; exact Blk.new w _ _
 have hc := contains_any rv v.running x w0 (hv.run.fits hg0) hv.runl
 have hit := hv.items
 have hd : statusS v x = if v.running.contains x then 1 else (getS v.m v.clog x).1 := rfl
 obtain ⟨iva, ivc, rfl⟩ := items_form hv.items
 obtain ⟨rva, rvc, rfl, _⟩ := ints_form hv.run
 obtain ⟨ava, avc, rfl, _⟩ := ints_form hv.act
 have ht := hv.texts
 have HV := keep hit
 have HT := keep ht
 have HD := keep hd
 have Hc := keep hc
 clear hv hit ht hd hc
 unfold vwV vwCells at *
 have c0 := hB0.cell 0 (by simp)
 have c1 := hB0.cell 1 (by simp)
 have c2 := hB0.cell 2 (by simp)
 have c3 := hB0.cell 3 (by simp)
 have c4 := hB0.cell 4 (by simp)
 have c5 := hB0.cell 5 (by simp)
 have c6 := hB0.cell 6 (by simp)
 have c7 := hB0.cell 7 (by simp)
 have c8 := hB0.cell 8 (by simp)
 have c9 := hB0.cell 9 (by simp)
 have c10 := hB0.cell 10 (by simp)
 go_enter Tryz.func73, Tryz.ntmps73
 go_wp2_with fail
 rw [← hw0]
 refine Hc.out.mono ?_
 rintro e w1 ⟨rfl, hb1⟩
 have hg1 := Grow.trans hg0 hb1
 have hB1 := hB0.fits hb1
 clear hw0 c0 c1 c2 c3 c4 c5 c6 c7 c8 c9 c10 hB0 hb1 hg0
 cases hx : v.running.contains x with
 | true =>
  rw [hx] at HD
  go_wp2_with fail
  go_ret
  have := HD.out
  simp at this
  rw [this]
  exact ⟨rfl, hg1⟩
 | false =>
  rw [hx] at HD
  have c0 := hB1.cell 0 (by simp)
  have c1 := hB1.cell 1 (by simp)
  have c2 := hB1.cell 2 (by simp)
  have c3 := hB1.cell 3 (by simp)
  have c4 := hB1.cell 4 (by simp)
  have c5 := hB1.cell 5 (by simp)
  have c6 := hB1.cell 6 (by simp)
  have c7 := hB1.cell 7 (by simp)
  have c8 := hB1.cell 8 (by simp)
  have c9 := hB1.cell 9 (by simp)
  have c10 := hB1.cell 10 (by simp)
  go_wp2_with fail
  refine (get_any v.m v.clog _ x w1 (Row.fits HV.out hg1) HT.out).mono ?_
  rintro e w2 ⟨rfl, hb2⟩
  have hg2 := Grow.trans hg1 hb2
  have he := @getS_err v.m v.clog x
  have hd2 : statusS v x = (getS v.m v.clog x).1 := by have := HD.out; simpa using this
  generalize getS v.m v.clog x = G at *
  have HD2 := keep hd2
  clear c0 c1 c2 c3 c4 c5 c6 c7 c8 c9 c10 hd2 HD
  by_cases h0 : G.2 = 0
  ·have h0' : (G.2 != 0) = false := by simpa using h0
   clear he
   go_wp2_with fail
   go_ret
   rw [HD2.out]
   exact ⟨rfl, hg2⟩
  ·have h0' : (G.2 != 0) = true := by simpa using h0
   have hz := he h0
   have HZ := keep hz
   clear he hz
   go_wp2_with fail
   go_ret
   rw [HD2.out, HZ.out]
   exact ⟨rfl, hg2⟩
theorem vwres {w : World} {b t : Nat} {v0 v1 v2 v3 v4 v5 v6 v7 v8 v9 v10 : Value} (h : Blk w b t [v0, v1, v2, v3, v4, v5, v6, v7, v8, v9, v10]) :
  w.cell? ⟨b, 0, none⟩ = some v0 ∧ w.cell? ⟨b, 1, none⟩ = some v1 ∧ w.cell? ⟨b, 2, none⟩ = some v2 ∧ w.cell? ⟨b, 3, none⟩ = some v3 ∧ w.cell? ⟨b, 4, none⟩ = some v4 ∧ w.cell? ⟨b, 5, none⟩ = some v5 ∧
  w.cell? ⟨b, 6, none⟩ = some v6 ∧ w.cell? ⟨b, 7, none⟩ = some v7 ∧ w.cell? ⟨b, 8, none⟩ = some v8 ∧ w.cell? ⟨b, 9, none⟩ = some v9 ∧ w.cell? ⟨b, 10, none⟩ = some v10 :=
 ⟨h.cell 0 (by simp), h.cell 1 (by simp), h.cell 2 (by simp), h.cell 3 (by simp), h.cell 4 (by simp), h.cell 5 (by simp), h.cell 6 (by simp), h.cell 7 (by simp), h.cell 8 (by simp), h.cell 9 (by simp), h.cell 10 (by simp)⟩
theorem tures {w : World} {b t : Nat} {v0 v1 v2 v3 v4 : Value} (h : Blk w b t [v0, v1, v2, v3, v4]) :
  w.cell? ⟨b, 0, none⟩ = some v0 ∧ w.cell? ⟨b, 1, none⟩ = some v1 ∧ w.cell? ⟨b, 2, none⟩ = some v2 ∧ w.cell? ⟨b, 3, none⟩ = some v3 ∧ w.cell? ⟨b, 4, none⟩ = some v4 :=
 ⟨h.cell 0 (by simp), h.cell 1 (by simp), h.cell 2 (by simp), h.cell 3 (by simp), h.cell 4 (by simp)⟩
def tuCells (t : Tup) : List Value := [.int .i64 t.xmin, .int .i64 t.xmax, .bool t.frozen, .string (str t.key), .string (str t.val)]
end Go.Proofs.YtmhepfehcakmjaaGreat
namespace Go.Proofs.YtmhepfehcakmjaaGreat
open Go.RowKit
def offB (v : Vw) (t : Tup) : Bool := t.xmax != 0 && statusS v t.xmax == 3
theorem i64_ne0 (n : Nat) : ((n : Int) != 0) = (n != 0) := by rw [Bool.eq_iff_iff]; simp
theorem u8_eq (n k : Nat) : ((n : Int) == (k : Int)) = (n == k) := by rw [Bool.eq_iff_iff]; simp; omega
set_option maxRecDepth 100000 in
set_option maxHeartbeats 1000000 in
theorem off_any (v : Vw) (av rv iv : Value) (t : Tup) (w : World) (hv : VwIn w v av rv iv) :
  Calls Tryz.prog 43 #[vwV v av rv iv, tupV t] w fun e w' => e = .returned (.bool (offB v t)) ∧ Below w.heap.size w w' := by
 obtain ⟨w1, hw1⟩ : ∃ w1, w1 = (w.alloc (.cells (vwCells v av rv iv).toArray 65)).alloc (.cells (tuCells t).toArray 51) := ⟨_, rfl⟩
 have hg1 : Grow w w1 := by subst hw1; exact ((Grow.refl w).alloc _).alloc _
 have hB1 : Blk w1 w.heap.size 65 (vwCells v av rv iv) := by subst hw1; exact (Blk.new w _ _).alloc _
 have hT1 : Blk w1 (w.heap.size + 1) 51 (tuCells t) := by
  have := Blk.new (w.alloc (.cells (vwCells v av rv iv).toArray 65)) 51 (tuCells t)
  have e : (w.alloc (.cells (vwCells v av rv iv).toArray 65)).heap.size = w.heap.size + 1 := by simp
  rw [e] at this
  subst hw1; exact this
 have hst := status_any v av rv iv t.xmax w1 (hv.fits hg1)
 have hd : offB v t = ((t.xmax : Int) != 0 && (statusS v t.xmax : Int) == 3) := by
  unfold offB; rw [i64_ne0, show (3 : Int) = ((3 : Nat) : Int) from rfl, u8_eq]
 generalize statusS v t.xmax = S at *
 have Hst := keep hst
 have HD := keep hd
 clear hst hd hv
 unfold vwV vwCells tuCells at *
 obtain ⟨c0, c1, c2, c3, c4, c5, c6, c7, c8, c9, c10⟩ := vwres hB1
 obtain ⟨d0, d1, d2, d3, d4⟩ := tures hT1
 unfold tupV
 go_enter Tryz.func43, Tryz.ntmps43
 cases hx : ((t.xmax : Int) != 0) with
 | false =>
  rw [hx] at HD
  go_wp2_with fail
  go_ret
  rw [HD.out, Bool.false_and]
  exact ⟨rfl, by rw [← hw1]; exact hg1⟩
 | true =>
  rw [hx] at HD
  go_wp2_with fail
  rw [← hw1]
  refine Hst.out.mono ?_
  rintro e w2 ⟨rfl, hb2⟩
  go_wp2_with fail
  go_ret
  rw [HD.out, Bool.true_and]
  exact ⟨rfl, Grow.trans hg1 hb2⟩
def oldB (v : Vw) (t : Tup) (h : Int) : Bool := !t.frozen && beforeB v.m t.xmin h && statusS v t.xmin == 2
set_option maxRecDepth 100000 in
set_option maxHeartbeats 1000000 in
theorem old_any (v : Vw) (av rv iv : Value) (t : Tup) (h : Int) (w : World) (hv : VwIn w v av rv iv) :
  Calls Tryz.prog 42 #[vwV v av rv iv, tupV t, .int .i64 h] w fun e w' => e = .returned (.bool (oldB v t h)) ∧ Below w.heap.size w w' := by
 obtain ⟨w1, hw1⟩ : ∃ w1, w1 = (w.alloc (.cells (vwCells v av rv iv).toArray 65)).alloc (.cells (tuCells t).toArray 51) := ⟨_, rfl⟩
 have hg1 : Grow w w1 := by subst hw1; exact ((Grow.refl w).alloc _).alloc _
 have hB1 : Blk w1 w.heap.size 65 (vwCells v av rv iv) := by subst hw1; exact (Blk.new w _ _).alloc _
 have hT1 : Blk w1 (w.heap.size + 1) 51 (tuCells t) := by
  have := Blk.new (w.alloc (.cells (vwCells v av rv iv).toArray 65)) 51 (tuCells t)
  have e : (w.alloc (.cells (vwCells v av rv iv).toArray 65)).heap.size = w.heap.size + 1 := by simp
  rw [e] at this
  subst hw1; exact this
 have hd : oldB v t h = (!t.frozen && beforeB v.m t.xmin h && ((statusS v t.xmin : Int) == 2)) := by
  unfold oldB; rw [show (2 : Int) = ((2 : Nat) : Int) from rfl, u8_eq]
 have Hv := keep (hv.fits hg1)
 have HD := keep hd
 clear hd hv
 unfold vwV vwCells tuCells at *
 obtain ⟨c0, c1, c2, c3, c4, c5, c6, c7, c8, c9, c10⟩ := vwres hB1
 obtain ⟨d0, d1, d2, d3, d4⟩ := tures hT1
 unfold tupV
 go_enter Tryz.func42, Tryz.ntmps42
 cases hf : t.frozen with
 | true =>
  rw [hf] at HD d2 hw1
  go_wp2_with fail
  go_ret
  rw [HD.out]
  exact ⟨rfl, by rw [← hw1]; exact hg1⟩
 | false =>
  rw [hf] at HD d2 hw1 hT1
  go_wp2_with fail
  rw [← hw1]
  refine (before_any v.m t.xmin h w1).mono ?_
  rintro e w2 ⟨rfl, hb2⟩
  have hg2 := Grow.trans hg1 hb2
  have hB2 := hB1.fits hb2
  have hT2 := hT1.fits hb2
  have hst := status_any v av rv iv t.xmin w2 (Hv.out.fits hb2)
  clear c0 c1 c2 c3 c4 c5 c6 c7 c8 c9 c10 d0 d1 d2 d3 d4 hw1 hB1 hT1 hg1 hb2
  generalize statusS v t.xmin = S at *
  have Hst := keep hst
  unfold vwV at hst
  have Hst := keep hst
  clear hst
  obtain ⟨c0, c1, c2, c3, c4, c5, c6, c7, c8, c9, c10⟩ := vwres hB2
  obtain ⟨d0, d1, d2, d3, d4⟩ := tures hT2
  cases hb : beforeB v.m t.xmin h with
  | false =>
   rw [hb] at HD
   go_wp2_with fail
   go_ret
   rw [HD.out]
   exact ⟨rfl, hg2⟩
  | true =>
   rw [hb] at HD
   go_wp2_with fail
   refine Hst.out.mono ?_
   rintro e w3 ⟨rfl, hb3⟩
   go_wp2_with fail
   go_ret
   rw [HD.out]
   exact ⟨rfl, Grow.trans hg2 hb3⟩
def goneB (v : Vw) (t : Tup) (h : Int) : Bool := (!t.frozen && statusS v t.xmin == 3) || (t.xmax != 0 && beforeB v.m t.xmax h && statusS v t.xmax == 2)
set_option maxRecDepth 100000 in
set_option maxHeartbeats 1000000 in
theorem gone_any (v : Vw) (av rv iv : Value) (t : Tup) (h : Int) (w : World) (hv : VwIn w v av rv iv) :
  Calls Tryz.prog 41 #[vwV v av rv iv, tupV t, .int .i64 h] w fun e w' => e = .returned (.bool (goneB v t h)) ∧ Below w.heap.size w w' := by
 obtain ⟨w1, hw1⟩ : ∃ w1, w1 = (w.alloc (.cells (vwCells v av rv iv).toArray 65)).alloc (.cells (tuCells t).toArray 51) := ⟨_, rfl⟩
 have hg1 : Grow w w1 := by subst hw1; exact ((Grow.refl w).alloc _).alloc _
 have hB1 : Blk w1 w.heap.size 65 (vwCells v av rv iv) := by subst hw1; exact (Blk.new w _ _).alloc _
 have hT1 : Blk w1 (w.heap.size + 1) 51 (tuCells t) := by
  have := Blk.new (w.alloc (.cells (vwCells v av rv iv).toArray 65)) 51 (tuCells t)
  have e : (w.alloc (.cells (vwCells v av rv iv).toArray 65)).heap.size = w.heap.size + 1 := by simp
  rw [e] at this
  subst hw1; exact this
 have hd : goneB v t h = ((!t.frozen && ((statusS v t.xmin : Int) == 3)) || ((t.xmax : Int) != 0 && beforeB v.m t.xmax h && ((statusS v t.xmax : Int) == 2))) := by
  unfold goneB; rw [i64_ne0, show (2 : Int) = ((2 : Nat) : Int) from rfl, u8_eq, show (3 : Int) = ((3 : Nat) : Int) from rfl, u8_eq]
 have Hv := keep (hv.fits hg1)
 have HD := keep hd
 clear hd hv
 unfold vwV vwCells tuCells at *
 obtain ⟨c0, c1, c2, c3, c4, c5, c6, c7, c8, c9, c10⟩ := vwres hB1
 obtain ⟨d0, d1, d2, d3, d4⟩ := tures hT1
 unfold tupV
 go_enter Tryz.func41, Tryz.ntmps41
 have Hv1 := Hv
 cases hf : t.frozen with
 | true =>
  rw [hf] at HD d2 hw1
  cases hx : ((t.xmax : Int) != 0) with
  | false =>
   rw [hx] at HD
   go_wp2_with fail
   go_ret
   rw [HD.out]
   exact ⟨by simp, by rw [← hw1]; exact hg1⟩
  | true =>
   rw [hx] at HD
   go_wp2_with fail
   rw [← hw1]
   refine (before_any v.m t.xmax h w1).mono ?_
   rintro e v2 ⟨rfl, hb2⟩
   have hgB := Grow.trans hg1 hb2
   have hBB := hB1.fits hb2
   have hTB := hT1.fits hb2
   have hst := status_any v av rv iv t.xmax v2 (Hv1.out.fits hb2)
   clear c0 c1 c2 c3 c4 c5 c6 c7 c8 c9 c10 d0 d1 d2 d3 d4
   generalize statusS v t.xmax = S at *
   unfold vwV at hst
   have Hst := keep hst
   clear hst
   obtain ⟨c0, c1, c2, c3, c4, c5, c6, c7, c8, c9, c10⟩ := vwres hBB
   obtain ⟨d0, d1, d2, d3, d4⟩ := tures hTB
   cases hb : beforeB v.m t.xmax h with
   | false =>
    rw [hb] at HD
    go_wp2_with fail
    go_ret
    rw [HD.out]
    exact ⟨by simp, hgB⟩
   | true =>
    rw [hb] at HD
    go_wp2_with fail
    refine Hst.out.mono ?_
    rintro e w3 ⟨rfl, hb3⟩
    go_wp2_with fail
    go_ret
    rw [HD.out]
    exact ⟨by simp, Grow.trans hgB hb3⟩
 | false =>
  rw [hf] at HD d2 hw1 hT1
  have hst := status_any v av rv iv t.xmin w1 Hv.out
  generalize statusS v t.xmin = S1 at *
  unfold vwV at hst
  have Hst := keep hst
  clear hst
  go_wp2_with fail
  rw [← hw1]
  refine Hst.out.mono ?_
  rintro e w2 ⟨rfl, hb2'⟩
  have hg2 := Grow.trans hg1 hb2'
  have hB2 := hB1.fits hb2'
  have hT2 := hT1.fits hb2'
  have Hv2 := keep (Hv.out.fits hb2')
  clear c0 c1 c2 c3 c4 c5 c6 c7 c8 c9 c10 d0 d1 d2 d3 d4 hw1 hB1 hT1 hg1 hb2' Hst
  obtain ⟨c0, c1, c2, c3, c4, c5, c6, c7, c8, c9, c10⟩ := vwres hB2
  obtain ⟨d0, d1, d2, d3, d4⟩ := tures hT2
  cases hs : ((S1 : Int) == 3) with
  | true =>
   rw [hs] at HD
   go_wp2_with fail
   go_ret
   rw [HD.out]
   exact ⟨by simp, hg2⟩
  | false =>
   rw [hs] at HD
   cases hx : ((t.xmax : Int) != 0) with
   | false =>
    rw [hx] at HD
    go_wp2_with fail
    go_ret
    rw [HD.out]
    exact ⟨by simp, hg2⟩
   | true =>
    rw [hx] at HD
    go_wp2_with fail
    refine (before_any v.m t.xmax h w2).mono ?_
    rintro e v2 ⟨rfl, hb2⟩
    have hgB := Grow.trans hg2 hb2
    have hBB := hB2.fits hb2
    have hTB := hT2.fits hb2
    have hst := status_any v av rv iv t.xmax v2 (Hv2.out.fits hb2)
    clear c0 c1 c2 c3 c4 c5 c6 c7 c8 c9 c10 d0 d1 d2 d3 d4
    generalize statusS v t.xmax = S at *
    unfold vwV at hst
    have Hst := keep hst
    clear hst
    obtain ⟨c0, c1, c2, c3, c4, c5, c6, c7, c8, c9, c10⟩ := vwres hBB
    obtain ⟨d0, d1, d2, d3, d4⟩ := tures hTB
    cases hb : beforeB v.m t.xmax h with
    | false =>
     rw [hb] at HD
     go_wp2_with fail
     go_ret
     rw [HD.out]
     exact ⟨by simp, hgB⟩
    | true =>
     rw [hb] at HD
     go_wp2_with fail
     refine Hst.out.mono ?_
     rintro e w3 ⟨rfl, hb3⟩
     go_wp2_with fail
     go_ret
     rw [HD.out]
     exact ⟨by simp, Grow.trans hgB hb3⟩
end Go.Proofs.YtmhepfehcakmjaaGreat
namespace Go.Proofs.YtmhepfehcakmjaaGreat
open Go.RowKit
def stateS (l : List UInt8) : Nat := if l.isEmpty then 1 else if (decS l).isSome then 3 else if (buriedS l).isSome then 2 else 0
set_option maxRecDepth 100000 in
set_option maxHeartbeats 1000000 in
theorem state_any (s : ByteArray) (w : World) (hs : (s.size : Int) ≤ 9223372036854775807) : Calls Tryz.prog 16 #[.string s] w fun e w' => e = .returned (.int .u8 (stateS s.data.toList)) ∧ Below w.heap.size w w' := by
 have hd := tdecode_any s w hs
 have hS : stateS s.data.toList = if s.data.toList.isEmpty then 1 else if (decS s.data.toList).isSome then 3 else if (buriedS s.data.toList).isSome then 2 else 0 := rfl
 have he : s.toList.isEmpty = s.data.toList.isEmpty := by
  have := str_list s.data.toList
  rw [str_of] at this
  rw [this]
 unfold DecPost at hd
 have hbur : ∀ u, Calls Tryz.prog 35 #[.string s] u (BurPost s.data.toList u) := fun u => buried_any s u hs
 unfold BurPost at hbur
 generalize (decS s.data.toList).getD noTup = T at *
 generalize (decS s.data.toList).isSome = D at *
 generalize (buriedS s.data.toList).getD [] = K at *
 generalize (buriedS s.data.toList).isSome = B at *
 generalize s.data.toList.isEmpty = Z at *
 have HS := keep hS
 have Hd := keep hd
 have Hbur := keep hbur
 clear hS hd hbur
 go_enter Tryz.func16, Tryz.ntmps16
 go_wp2_with fail
 refine (free_any w).mono ?_
 rintro e w' ⟨rfl, rfl⟩
 cases Z with
 | true =>
  go_wp2_with fail
  go_ret
  rw [HS.out]
  exact ⟨rfl, Below.refl _ _⟩
 | false =>
  go_wp2_with fail
  refine Hd.out.mono ?_
  rintro e w1 ⟨rfl, hb1⟩
  cases D with
  | true =>
   unfold tupV
   go_wp2_with fail
   go_ret
   rw [HS.out]
   exact ⟨rfl, Grow.alloc hb1 _⟩
  | false =>
   have hg1 : Grow w (w1.alloc (.cells (tuCells T).toArray 51)) := Grow.alloc hb1 _
   have hB := Hbur.out (w1.alloc (.cells (tuCells T).toArray 51))
   unfold tuCells at hg1 hB
   have HB := keep hB
   clear hB
   unfold tupV
   go_wp2_with fail
   refine HB.out.mono ?_
   rintro e w2 ⟨rfl, hb2⟩
   have hg2 := Grow.trans hg1 hb2
   clear HB Hbur hb2 hg1
   cases B with
   | true =>
    go_wp2_with fail
    go_ret
    rw [HS.out]
    exact ⟨rfl, hg2⟩
   | false =>
    go_wp2_with fail
    go_ret
    rw [HS.out]
    exact ⟨rfl, hg2⟩
def keyS (l : List UInt8) : List UInt8 × Bool := if (decS l).isSome then (((decS l).getD noTup).key, true) else ((buriedS l).getD [], (buriedS l).isSome)
set_option maxRecDepth 100000 in
set_option maxHeartbeats 1000000 in
theorem key_any (s : ByteArray) (w : World) (hs : (s.size : Int) ≤ 9223372036854775807) : Calls Tryz.prog 15 #[.string s] w fun e w' => e = .returned (.tuple #[.string (str (keyS s.data.toList).1), .bool (keyS s.data.toList).2]) ∧ Below w.heap.size w w' := by
 have hd := tdecode_any s w hs
 have hS : keyS s.data.toList = if (decS s.data.toList).isSome then (((decS s.data.toList).getD noTup).key, true) else ((buriedS s.data.toList).getD [], (buriedS s.data.toList).isSome) := rfl
 unfold DecPost at hd
 have hbur : ∀ u, Calls Tryz.prog 35 #[.string s] u (BurPost s.data.toList u) := fun u => buried_any s u hs
 unfold BurPost at hbur
 generalize (decS s.data.toList).getD noTup = T at *
 generalize (decS s.data.toList).isSome = D at *
 generalize (buriedS s.data.toList).getD [] = K at *
 generalize (buriedS s.data.toList).isSome = B at *
 have HS := keep hS
 have Hd := keep hd
 have Hbur := keep hbur
 clear hS hd hbur
 go_enter Tryz.func15, Tryz.ntmps15
 go_wp2_with fail
 refine Hd.out.mono ?_
 rintro e w1 ⟨rfl, hb1⟩
 have hg1 : Grow w (w1.alloc (.cells (tuCells T).toArray 51)) := Grow.alloc hb1 _
 have hT1 : Blk (w1.alloc (.cells (tuCells T).toArray 51)) w1.heap.size 51 (tuCells T) := Blk.new _ _ _
 have hB := Hbur.out (w1.alloc (.cells (tuCells T).toArray 51))
 unfold tuCells at hg1 hB hT1
 have HB := keep hB
 clear hB
 cases D with
 | true =>
  obtain ⟨d0, d1, d2, d3, d4⟩ := tures hT1
  unfold tupV
  go_wp2_with fail
  go_ret2
  rw [HS.out]
  exact ⟨rfl, hg1⟩
 | false =>
  unfold tupV
  go_wp2_with fail
  refine HB.out.mono ?_
  rintro e w2 ⟨rfl, hb2⟩
  have hg2 := Grow.trans hg1 hb2
  clear HB Hbur hb2 hg1
  go_wp2_with fail
  go_ret2
  rw [HS.out]
  exact ⟨rfl, hg2⟩
end Go.Proofs.YtmhepfehcakmjaaGreat
namespace Go.Proofs.YtmhepfehcakmjaaGreat.Vac
open Go.RowKit
structure Wk where
 fr : List Int
 off : List Int
 gone : List (List UInt8 × Int × Int)
def gCells (l : List (List UInt8 × Int × Int)) : List Value := l.flatMap fun x => [.string (str x.1), .int .i64 x.2.1, .int .i64 x.2.2]
theorem iCells_append (a b : List Int) : iCells (a ++ b) = iCells a ++ iCells b := by simp [iCells]
def stepW (v : Vw) (h pg : Int) (a : Wk) (j : Nat) (l : List UInt8) : Wk :=
 if stateS l = 2 then { a with gone := a.gone ++ [((keyS l).1, pg, (j : Int))] }
 else if stateS l = 3 then
  if goneB v ((decS l).getD noTup) h then { a with gone := a.gone ++ [(((decS l).getD noTup).key, pg, (j : Int))] }
  else { a with fr := if oldB v ((decS l).getD noTup) h then a.fr ++ [(j : Int)] else a.fr, off := if offB v ((decS l).getD noTup) then a.off ++ [(j : Int)] else a.off }
 else a
def sortK (v : Vw) (h pg : Int) (items : List (List UInt8)) : Nat → Wk
 | 0 => ⟨[], [], []⟩
 | k + 1 => stepW v h pg (sortK v h pg items k) k (items.getD k [])
def sortS (v : Vw) (h pg : Int) (p : Pg) : Wk := if p.kind = 2 then sortK v h pg p.items p.items.length else ⟨[], [], []⟩
theorem sortK_len (v : Vw) (h pg : Int) (items : List (List UInt8)) (k : Nat) :
  (sortK v h pg items k).fr.length ≤ k ∧ (sortK v h pg items k).off.length ≤ k ∧ (sortK v h pg items k).gone.length ≤ k := by
 induction k with
 | zero => exact ⟨Nat.le_refl _, Nat.le_refl _, Nat.le_refl _⟩
 | succ k ih =>
  rw [sortK]
  generalize sortK v h pg items k = a at *
  obtain ⟨h1, h2, h3⟩ := ih
  unfold stepW
  split
  ·simp; omega
  ·split
   ·split
    ·simp; omega
    ·refine ⟨?_, ?_, by simp; omega⟩
     ·cases oldB v ((decS (items.getD k [])).getD noTup) h <;> simp <;> omega
     ·cases offB v ((decS (items.getD k [])).getD noTup) <;> simp <;> omega
   ·omega
structure WkAt (w : World) (b : Nat) (k : Wk) (fv ov gv : Value) : Prop where
 blk : Blk w b 72 [fv, ov, gv]
 fr : w.ownsRow (b + 1) 3 1 fv k.fr.length (iCells k.fr)
 off : w.ownsRow (b + 1) 3 1 ov k.off.length (iCells k.off)
 gone : w.ownsRow (b + 1) 102 3 gv k.gone.length (gCells k.gone)
 ne : fv.ownBlock = none ∨ fv.ownBlock ≠ ov.ownBlock
theorem grow_grown {w w' : World} (h : Grow w w') (row : Option Nat) : w.grownBy w' row := ⟨h.os, h.tape, h.output, h.size, fun k hk _ => h.block k hk⟩
theorem owns_fits {w w' : World} {b e s n : Nat} {v : Value} {xs : List Value} (h : w.ownsRow b e s v n xs) (k : Grow w w') : w'.ownsRow b e s v n xs :=
 h.kept (grow_grown k none) (by cases v.ownBlock <;> simp)
theorem own_ne {w : World} {b b' e e' s s' n n' : Nat} {v v' : Value} {xs xs' : List Value} (h : w.ownsRow b e s v n xs) (h' : w.ownsRow b' e' s' v' n' xs') (he : e ≠ e') : v.ownBlock = none ∨ v.ownBlock ≠ v'.ownBlock := by
 rcases h.2 with ⟨rfl, _⟩ | ⟨g, cap, cur, rfl, _, hg, _⟩
 ·exact .inl rfl
 ·rcases h'.2 with ⟨rfl, _⟩ | ⟨g', cap', cur', rfl, _, hg', _⟩
  ·exact .inr (by simp [Value.ownBlock])
  ·refine .inr fun e1 => ?_
   simp only [Value.ownBlock, Option.some.injEq] at e1
   subst e1
   rw [hg] at hg'
   simp at hg'
   exact he hg'.2
theorem own_set {w : World} {B e s n b o : Nat} {v u : Value} {xs : List Value} (h : w.ownsRow B e s v n xs) (hb : b < B) : (w.setCell ⟨b, o, none⟩ u).ownsRow B e s v n xs := ownsRow_setCell_below h (a := ⟨b, o, none⟩) hb u
theorem WkAt.fits {w w' : World} {b : Nat} {k : Wk} {fv ov gv : Value} (h : WkAt w b k fv ov gv) (g : Grow w w') : WkAt w' b k fv ov gv :=
 ⟨h.blk.fits g, owns_fits h.fr g, owns_fits h.off g, owns_fits h.gone g, h.ne⟩
theorem WkAt.stands {w w1 : World} {b : Nat} {k : Wk} {fv ov gv : Value} (h : WkAt w b k fv ov gv) {o : Obj} {row : Option Nat} (hg : (w.alloc o).grownBy w1 row) (hr : ∀ g, row = some g → b + 1 ≤ g) : Blk w1 b 72 [fv, ov, gv] := by
 have h1 := h.blk.alloc o
 have hl := h1.lt
 unfold Blk at *
 rw [hg.block b hl (fun e => by have := hr b e.symm; omega)]
 exact h1
theorem WkAt.pushFr {w w1 : World} {b : Nat} {k : Wk} {fv ov gv v' : Value} (h : WkAt w b k fv ov gv) {o : Obj} (hg : (w.alloc o).grownBy w1 fv.ownBlock) {x : Int} (hown : w1.ownsRow (b + 1) 3 1 v' (k.fr.length + 1) (iCells k.fr ++ [.int .i64 x]))
  (hat : v'.ownBlock = fv.ownBlock ∨ v'.ownBlock = some (w.alloc o).heap.size) : WkAt (w1.setCell ⟨b, 0, none⟩ v') b { k with fr := k.fr ++ [x] } v' ov gv := by
 have hB := h.stands hg (fun g e => (h.fr.lt g e).1)
 refine ⟨hB.set 0 v', own_set ?_ (by omega), own_set ((h.off.alloc o).kept hg ?_) (by omega), own_set ((h.gone.alloc o).kept hg (own_ne h.gone h.fr (by decide))) (by omega), ?_⟩
 ·simpa [iCells] using hown
 ·rcases h.ne with e | e
  ·rw [e]; cases ov.ownBlock <;> simp
  ·exact .inr (Ne.symm e)
 ·rcases hat with e | e
  ·rw [e]; exact h.ne
  ·refine .inr ?_
   rw [e]
   intro e2
   have := (h.off.lt _ e2.symm).2
   simp at this
   omega
theorem WkAt.pushOff {w w1 : World} {b : Nat} {k : Wk} {fv ov gv v' : Value} (h : WkAt w b k fv ov gv) {o : Obj} (hg : (w.alloc o).grownBy w1 ov.ownBlock) {x : Int} (hown : w1.ownsRow (b + 1) 3 1 v' (k.off.length + 1) (iCells k.off ++ [.int .i64 x]))
  (hat : v'.ownBlock = ov.ownBlock ∨ v'.ownBlock = some (w.alloc o).heap.size) : WkAt (w1.setCell ⟨b, 1, none⟩ v') b { k with off := k.off ++ [x] } fv v' gv := by
 have hB := h.stands hg (fun g e => (h.off.lt g e).1)
 refine ⟨hB.set 1 v', own_set ((h.fr.alloc o).kept hg h.ne) (by omega), own_set ?_ (by omega), own_set ((h.gone.alloc o).kept hg (own_ne h.gone h.off (by decide))) (by omega), ?_⟩
 ·simpa [iCells] using hown
 ·rcases hat with e | e
  ·rw [e]; exact h.ne
  ·rcases hf : fv.ownBlock with _ | g
   ·exact .inl rfl
   ·refine .inr ?_
    rw [e]
    intro e2
    have := (h.fr.lt _ hf).2
    simp at this e2
    omega
theorem WkAt.pushGone {w w1 : World} {b : Nat} {k : Wk} {fv ov gv v' : Value} (h : WkAt w b k fv ov gv) {o : Obj} (hg : (w.alloc o).grownBy w1 gv.ownBlock) {x : List UInt8 × Int × Int}
  (hown : w1.ownsRow (b + 1) 102 3 v' (k.gone.length + 1) (gCells k.gone ++ [.string (str x.1), .int .i64 x.2.1, .int .i64 x.2.2])) : WkAt (w1.setCell ⟨b, 2, none⟩ v') b { k with gone := k.gone ++ [x] } fv ov v' := by
 have hB := h.stands hg (fun g e => (h.gone.lt g e).1)
 refine ⟨hB.set 2 v', own_set ((h.fr.alloc o).kept hg (own_ne h.fr h.gone (by decide))) (by omega), own_set ((h.off.alloc o).kept hg (own_ne h.off h.gone (by decide))) (by omega), own_set ?_ (by omega), h.ne⟩
 simpa [gCells] using hown
theorem own_row {w : World} {b e s n : Nat} {v : Value} {xs : List Value} (h : w.ownsRow b e s v n xs) : RowS w e v n xs := by
 rcases h.2 with ⟨rfl, rfl⟩ | ⟨g, cap, cur, rfl, _, hg, _, _, _, ht⟩
 ·exact .inl ⟨rfl, by have := h.1; simpa using this, _, _, rfl⟩
 ·refine .inr ⟨g, 0, cap, cur, (0, 0), rfl, hg, fun j hj => ?_⟩
  rw [Nat.zero_add, ← ht, List.getElem?_take]
  have hl := h.1
  rw [if_pos (by omega)]
  simp
theorem infoInt : (Tryz.prog.info? 3).map (fun i => (i.zero, i.size, i.bytes)) = some (some (.int .i64 0), 1, 8) := by kernel_rfl
theorem infoEntry : (Tryz.prog.info? 102).map (fun i => (i.zero, i.size, i.bytes)) = some (some (.agg #[.string ⟨#[]⟩, .int .i64 0, .int .i64 0]), 3, 32) := by kernel_rfl
theorem cell_three_new (w : World) (x y z : Value) (t : TypeId) : ∀ j u, [x, y, z][j]? = some u → (w.alloc (.cells #[x, y, z] t)).cell? ((⟨w.heap.size, 0, none⟩ : Addr).add j) = some u := by
 intro j u hj
 match j, hj with
 | 0, hj => simp at hj; subst hj; simp [Addr.add]
 | 1, hj => simp at hj; subst hj; simp [Addr.add]
 | 2, hj => simp at hj; subst hj; simp [Addr.add]
end Go.Proofs.YtmhepfehcakmjaaGreat.Vac
namespace Go.Proofs.YtmhepfehcakmjaaGreat.Vac
open Go.RowKit
def SortPost (k : Wk) (w : World) (e : Ending) (w' : World) : Prop :=
 ∃ fv ov gv, e = .returned (.agg #[fv, ov, gv]) ∧ Ints w' fv k.fr ∧ Ints w' ov k.off ∧ Row w' 102 gv k.gone.length (gCells k.gone) ∧ Below w.heap.size w w'
def SortPostT (k : Wk) (w : World) (e : Ending) (w' : World) : Prop :=
 ∃ fv ov gv, e = .returned (.agg #[fv, ov, gv]) ∧ RowS w' 3 fv k.fr.length (iCells k.fr) ∧ RowS w' 3 ov k.off.length (iCells k.off) ∧ RowS w' 102 gv k.gone.length (gCells k.gone) ∧ Below w.heap.size w w'
theorem wkres {w : World} {b t : Nat} {v0 v1 v2 : Value} (h : Blk w b t [v0, v1, v2]) :
  w.cell? ⟨b, 0, none⟩ = some v0 ∧ w.cell? ⟨b, 1, none⟩ = some v1 ∧ w.cell? ⟨b, 2, none⟩ = some v2 ∧ w.frozen? ⟨b, 0, none⟩ = false ∧ w.frozen? ⟨b, 1, none⟩ = false ∧ w.frozen? ⟨b, 2, none⟩ = false :=
 ⟨h.cell 0 (by simp), h.cell 1 (by simp), h.cell 2 (by simp), h.free 0, h.free 1, h.free 2⟩
theorem wkset {w : World} {b t : Nat} {a0 a1 a2 : Value} (h : Blk w b t [a0, a1, a2]) (v0 v1 v2 : Value) :
  Blk (((w.setCell ⟨b, 0, none⟩ v0).setCell ⟨b, 1, none⟩ v1).setCell ⟨b, 2, none⟩ v2) b t [v0, v1, v2] := ((h.set 0 v0).set 1 v1).set 2 v2
theorem wkbut (w : World) (b : Nat) (v0 v1 v2 : Value) : But b w (((w.setCell ⟨b, 0, none⟩ v0).setCell ⟨b, 1, none⟩ v1).setCell ⟨b, 2, none⟩ v2) :=
 (((But.refl b w).setCell 0 v0).setCell 1 v1).setCell 2 v2
theorem round_below {b : Nat} {w1 x x3 : World} {o : Obj} {row : Option Nat} {i : Nat} {v' : Value} (hbw : Below b w1 x) (hb : b ≤ x.heap.size) (hgrow : (x.alloc o).grownBy x3 row) (hrow : ∀ g, row = some g → b + 1 ≤ g) : Below b w1 (x3.setCell ⟨b, i, none⟩ v') := by
 refine ((hbw.alloc hb o).grown hgrow (by simp; omega) ?_).setCell (Nat.le_refl _) _
 intro k e
 have := hrow k e
 omega
theorem tup_stays {x x3 : World} {b t i : Nat} {K : Wk} {fv ov gv v' : Value} {cs : List Value} {o : Obj} (h : WkAt x b K fv ov gv) (hT : Blk x t 51 cs) (hgrow : (x.alloc o).grownBy x3 fv.ownBlock) : Blk (x3.setCell ⟨b, i, none⟩ v') t 51 cs := by
 have hbt : t ≠ b := by
  intro e
  have h1 := h.blk
  subst e
  unfold Blk at h1 hT
  rw [h1] at hT
  simp at hT
 refine Blk.set_other ?_ _ hbt _
 have h2 := hT.alloc o
 have hl := h2.lt
 unfold Blk at *
 rw [hgrow.block t hl ?_]
 ·exact h2
 ·intro e
  rcases (h.fr.alloc o).2 with ⟨hn, _⟩ | ⟨g, cap, cur, hn, _, hg, _⟩
  ·rw [hn] at e; simp [Value.ownBlock] at e
  ·rw [hn] at e
   simp [Value.ownBlock] at e
   subst e
   rw [h2] at hg
   simp at hg
set_option maxRecDepth 100000 in
set_option maxHeartbeats 2000000 in
theorem sort_anyT (v : Vw) (av rv cv : Value) (h pg : Int) (p : Pg) (iv : Value) (w : World) (hv : VwIn w v av rv cv) (hi : Items w iv p.items) (hl : (p.items.length : Int) ≤ 1759218604441) (hs : ∀ x ∈ p.items, (x.length : Int) ≤ 9223372036854775807) :
  Calls Tryz.prog 20 #[vwV v av rv cv, .int .i64 h, .int .i64 pg, pgV p iv] w (SortPostT (sortS v h pg p) w) := by
 obtain ⟨w1, hw1⟩ : ∃ w1, w1 = (((w.alloc (.cells (vwCells v av rv cv).toArray 65)).alloc (.cells (pgCells p iv).toArray 24)).alloc (.cells #[.slice none 0 0, .slice none 0 0, .slice none 0 0] 72)).alloc (.cells #[.slice none 0 0, .slice none 0 0, .slice none 0 0] 72) := ⟨_, rfl⟩
 have hg1 : Grow w w1 := by subst hw1; exact ((((Grow.refl w).alloc _).alloc _).alloc _).alloc _
 have hz1 : w1.heap.size = w.heap.size + 4 := by subst hw1; simp
 have hV1 : Blk w1 w.heap.size 65 (vwCells v av rv cv) := by subst hw1; exact (((Blk.new w _ _).alloc _).alloc _).alloc _
 have hP1 : Blk w1 (w.heap.size + 1) 24 (pgCells p iv) := by
  have := ((Blk.new (w.alloc (.cells (vwCells v av rv cv).toArray 65)) 24 (pgCells p iv)).alloc (.cells #[.slice none 0 0, .slice none 0 0, .slice none 0 0] 72)).alloc (.cells #[.slice none 0 0, .slice none 0 0, .slice none 0 0] 72)
  have e : (w.alloc (.cells (vwCells v av rv cv).toArray 65)).heap.size = w.heap.size + 1 := by simp
  rw [e] at this
  subst hw1; exact this
 have hR1 : Blk w1 (w.heap.size + 2) 72 [.slice none 0 0, .slice none 0 0, .slice none 0 0] := by
  have := (Blk.new ((w.alloc (.cells (vwCells v av rv cv).toArray 65)).alloc (.cells (pgCells p iv).toArray 24)) 72 [.slice none 0 0, .slice none 0 0, .slice none 0 0]).alloc (.cells #[.slice none 0 0, .slice none 0 0, .slice none 0 0] 72)
  have e : ((w.alloc (.cells (vwCells v av rv cv).toArray 65)).alloc (.cells (pgCells p iv).toArray 24)).heap.size = w.heap.size + 2 := by simp
  rw [e] at this
  subst hw1; exact this
 have hW1 : Blk w1 (w.heap.size + 3) 72 [.slice none 0 0, .slice none 0 0, .slice none 0 0] := by
  have := Blk.new (((w.alloc (.cells (vwCells v av rv cv).toArray 65)).alloc (.cells (pgCells p iv).toArray 24)).alloc (.cells #[.slice none 0 0, .slice none 0 0, .slice none 0 0] 72)) 72 [.slice none 0 0, .slice none 0 0, .slice none 0 0]
  have e : (((w.alloc (.cells (vwCells v av rv cv).toArray 65)).alloc (.cells (pgCells p iv).toArray 24)).alloc (.cells #[.slice none 0 0, .slice none 0 0, .slice none 0 0] 72)).heap.size = w.heap.size + 3 := by simp
  rw [e] at this
  subst hw1; exact this
 have Hv := keep hv
 have Hi := keep hi
 have Hs := keep hs
 obtain ⟨iva, ivc, rfl⟩ := items_form hi
 clear hv hi hs
 unfold vwCells at hw1 hV1
 unfold pgCells at hw1 hP1
 have hw0 := w.heap.size.zero_le
 generalize hb3 : w.heap.size + 3 = b at *
 by_cases hk : p.kind = 2
 ·have hS : sortS v h pg p = sortK v h pg p.items p.items.length := by unfold sortS; rw [if_pos hk]
  have HS := keep hS
  have hk' : (p.kind != 2) = false := by simpa using hk
  have hW0 : WkAt w1 b ⟨[], [], []⟩ (.slice none 0 0) (.slice none 0 0) (.slice none 0 0) := ⟨hW1, World.ownsRow_nil _ _ _ _, World.ownsRow_nil _ _ _ _, World.ownsRow_nil _ _ _ _, .inl rfl⟩
  obtain ⟨p0, p1, p2, p3, p4, p5, _⟩ := pgres hP1
  obtain ⟨iI, hiI, hzI0, hzI1, hzI2⟩ := info_parts infoInt
  obtain ⟨iE, hiE, hzE0, hzE1, hzE2⟩ := info_parts infoEntry
  have HB3 := keep hb3
  have HLen := keep hl
  clear hS hP1 hW1 hk hb3
  unfold vwV pgV
  go_enter Tryz.func20, Tryz.ntmps20
  go_wp2_with fail
  rw [← hw1]
  clear hw1 p0 p1 p2 p3 p4 p5
  have e3 : w.heap.size + 1 + 1 + 1 = b := by have := HB3.out; omega
  have e2 : w.heap.size + 1 + 1 = w.heap.size + 2 := by omega
  rw [e3, e2]
  go_loopw [23] (fun i wr => ∃ n : Nat, n ≤ p.items.length ∧ i = .int .i64 n ∧ (∃ fv ov gv, WkAt wr b (sortK v h pg p.items n) fv ov gv) ∧ Below b w1 wr) (fun i _ => p.items.length - (intOf i).toNat)
  case atStart => exact ⟨0, Nat.zero_le _, rfl, ⟨_, _, _, hW0⟩, Below.refl _ _⟩
  case round =>
   obtain ⟨n, hn, rfl, ⟨fv, ov, gv, hW0⟩, hG0⟩ := hrel
   by_cases hlt : n < p.items.length
   ·obtain ⟨c, off, cap, e, hc⟩ := items_cells (Row.fits Hi.out (Below.trans hg1 (Below.mono hG0 (by have := HB3.out; omega)))) (by omega)
    simp only [Value.slice.injEq] at e
    obtain ⟨rfl, _, rfl⟩ := e
    have hcell := hc n hlt
    have hll := Hs.out _ (List.getElem_mem hlt)
    have hstep : sortK v h pg p.items (n + 1) = stepW v h pg (sortK v h pg p.items n) n p.items[n] := by rw [sortK]; simp [hlt]
    have hKl := sortK_len v h pg p.items n
    generalize p.items[n] = l at *
    generalize sortK v h pg p.items n = K at *
    have hst := state_any (str l) wr (by simpa using hll)
    have hky := fun u => key_any (str l) u (by simpa using hll)
    have hdc : ∀ u, Calls Tryz.prog 14 #[.string (str l)] u (DecPost l u) := fun u => tdecode_any (str l) u (by simpa using hll)
    unfold DecPost at hdc
    simp only [str_toList] at hst hky
    have hD : stateS l = 3 → (decS l).isSome = true := by
     unfold stateS; split
     ·simp
     ·split
      ·intro _; assumption
      ·split <;> simp
    have HKl : Kept (K.fr.length < 1759218604441 ∧ K.off.length < 1759218604441 ∧ K.gone.length < 1759218604441) := keep (by have := HLen.out; omega)
    unfold stepW at hstep
    generalize stateS l = S at *
    generalize (keyS l) = Y at *
    generalize (decS l).isSome = D at *
    generalize (decS l).getD noTup = T at *
    have HStep := keep hstep
    have Hst := keep hst
    have Hky := keep hky
    have Hdc := keep hdc
    have HD := keep hD
    clear hstep hst hky hdc hD hc hll hKl
    go_wp2_with fail
    refine Hst.out.mono ?_
    rintro e x1 ⟨rfl, hb1⟩
    have hW2 := hW0.fits hb1
    have hG2 := Below.trans hG0 (Below.mono hb1 (Nat.le_of_lt hW0.blk.lt))
    have hV2 := hV1.below hG2 (by have := HB3.out; omega)
    clear hcell
    by_cases h2 : S = 2
    ·subst h2
     have hs2 := HStep.out
     rw [if_pos rfl] at hs2
     have HStep := keep hs2
     clear hs2
     go_wp2_with fail
     refine (Hky.out x1).mono ?_
     rintro e x2 ⟨rfl, hb2⟩
     have hW3 := hW2.fits hb2
     have hG3 := Below.trans hG2 (Below.mono hb2 (Nat.le_of_lt hW2.blk.lt))
     have hV3 := hV1.below hG3 (by have := HB3.out; omega)
     obtain ⟨y0, y1, y2, z0, z1, z2⟩ := wkres hW3.blk
     go_wp2_with ((at_builtin; go_must (refine wpList_append_own_at _ rfl _ _ 70 rfl (b + 1) 102 iE (.agg #[.string ⟨#[]⟩, .int .i64 0, .int .i64 0]) 3 32 Tryz.underlying70 hiE hzE0 hzE1 hzE2 rfl (by decide) _ _ _ rfl (hW3.gone.alloc _) ⟨x2.heap.size, 0, none⟩ 1 1 [.string (str Y.1), .int .i64 pg, .int .i64 (n : Int)] rfl rfl (cell_three_new _ _ _ _ _) (by intro u hu; simp at hu; rcases hu with rfl | rfl | rfl <;> rfl) (by have := HKl.out; (try dsimp only at *); unfold maxLen; omega) (by have := HKl.out; (try dsimp only at *); omega) (by have := hW3.blk.lt; simp; omega) ?_); intro v' xa hown' hgrow _ hat; obtain ⟨a', cap', rfl⟩ := own_form hown'; have hSt := hW3.stands hgrow (fun g e => (hW3.gone.lt g e).1); obtain ⟨u0, u1, u2, t0, t1, t2⟩ := wkres hSt; have hWa := hW3.pushGone hgrow (x := (Y.1, pg, (n : Int))) hown'; have hGa := round_below (i := 2) (v' := .slice a' (K.gone.length + 1) cap') hG3 (Nat.le_of_lt hW3.blk.lt) hgrow (fun g e => (hW3.gone.lt g e).1); have HWa := keep hWa; have HGa := keep hGa; clear hWa hGa hSt))
     go_roundw
     case rel =>
      refine ⟨n + 1, by omega, by go_num, ?_, HGa.out⟩
      rw [HStep.out]
      exact ⟨_, _, _, HWa.out⟩
     case measure => simp [intOf]; omega
    ·by_cases h3 : S = 3
     ·subst h3
      have hd := HD.out rfl
      subst hd
      have hs3 := HStep.out
      rw [if_neg (by decide), if_pos rfl] at hs3
      have HStep := keep hs3
      clear hs3 h2
      go_wp2_with fail
      refine (Hdc.out x1).mono ?_
      rintro e x2 ⟨rfl, hb2⟩
      have hW3 := hW2.fits hb2
      have hG3 := Below.trans hG2 (Below.mono hb2 (Nat.le_of_lt hW2.blk.lt))
      have hV3 := hV1.below hG3 (by have := HB3.out; omega)
      have hT4 : Blk (x2.alloc (.cells (tuCells T).toArray 51)) x2.heap.size 51 (tuCells T) := Blk.new _ _ _
      have hga : Grow x2 (x2.alloc (.cells (tuCells T).toArray 51)) := (Grow.refl _).alloc _
      have hW4 := hW3.fits hga
      have hG4 := Below.trans hG3 (Below.mono hga (Nat.le_of_lt hW3.blk.lt))
      have hV4 := hV1.below hG4 (by have := HB3.out; omega)
      have hgo := gone_any v av rv cv T h _ (Hv.out.fits (Below.trans hg1 (Below.mono hG4 (by have := HB3.out; omega))))
      have hol := fun u hu => old_any v av rv cv T h u hu
      have hof := fun u hu => off_any v av rv cv T u hu
      unfold tuCells at hT4 hW4 hV4 hgo hG4
      generalize goneB v T h = Gb at *
      generalize oldB v T h = Ob at *
      generalize offB v T = Fb at *
      have Hgo := keep hgo
      have Hol := keep hol
      have Hof := keep hof
      clear hgo hol hof hga
      obtain ⟨c0, c1, c2, c3, c4, c5, c6, c7, c8, c9, c10⟩ := vwres hV4
      obtain ⟨d0, d1, d2, d3, d4⟩ := tures hT4
      unfold tupV
      go_wp2_with fail
      refine Hgo.out.mono ?_
      rintro e x3 ⟨rfl, hb3⟩
      have hW5 := hW4.fits hb3
      have hG5 := Below.trans hG4 (Below.mono hb3 (Nat.le_of_lt hW4.blk.lt))
      have hV5 := hV1.below hG5 (by have := HB3.out; omega)
      have hT5 := hT4.fits hb3
      clear c0 c1 c2 c3 c4 c5 c6 c7 c8 c9 c10
      clear d0 d1 d2 d3 d4
      obtain ⟨c0, c1, c2, c3, c4, c5, c6, c7, c8, c9, c10⟩ := vwres hV5
      obtain ⟨d0, d1, d2, d3, d4⟩ := tures hT5
      obtain ⟨y0, y1, y2, z0, z1, z2⟩ := wkres hW5.blk
      cases Gb with
      | true =>
       go_wp2_with ((at_builtin; go_must (refine wpList_append_own_at _ rfl _ _ 70 rfl (b + 1) 102 iE (.agg #[.string ⟨#[]⟩, .int .i64 0, .int .i64 0]) 3 32 Tryz.underlying70 hiE hzE0 hzE1 hzE2 rfl (by decide) _ _ _ rfl (hW5.gone.alloc _) ⟨x3.heap.size, 0, none⟩ 1 1 [.string (str T.key), .int .i64 pg, .int .i64 (n : Int)] rfl rfl (cell_three_new _ _ _ _ _) (by intro u hu; simp at hu; rcases hu with rfl | rfl | rfl <;> rfl) (by have := HKl.out; (try dsimp only at *); unfold maxLen; omega) (by have := HKl.out; (try dsimp only at *); omega) (by have := hW5.blk.lt; simp; omega) ?_); intro v' xa hown' hgrow _ hat; obtain ⟨a', cap', rfl⟩ := own_form hown'; have hSt := hW5.stands hgrow (fun g e => (hW5.gone.lt g e).1); obtain ⟨u0, u1, u2, t0, t1, t2⟩ := wkres hSt; have hWa := hW5.pushGone hgrow (x := (T.key, pg, (n : Int))) hown'; have hGa := round_below (i := 2) (v' := .slice a' (K.gone.length + 1) cap') hG5 (Nat.le_of_lt hW5.blk.lt) hgrow (fun g e => (hW5.gone.lt g e).1); have HWa := keep hWa; have HGa := keep hGa; clear hWa hGa hSt))
       go_roundw
       case rel =>
        refine ⟨n + 1, by omega, by go_num, ?_, HGa.out⟩
        rw [HStep.out]
        exact ⟨_, _, _, HWa.out⟩
       case measure => simp [intOf]; omega
      | false =>
       go_wp2_with fail
       refine (Hol.out x3 (Hv.out.fits (Below.trans hg1 (Below.mono hG5 (by have := HB3.out; omega))))).mono ?_
       rintro e x4 ⟨rfl, hb4⟩
       have hW7 := hW5.fits hb4
       have hG7 := Below.trans hG5 (Below.mono hb4 (Nat.le_of_lt hW5.blk.lt))
       have hV7 := hV1.below hG7 (by have := HB3.out; omega)
       have hT7 := hT5.fits hb4
       clear c0 c1 c2 c3 c4 c5 c6 c7 c8 c9 c10
       clear d0 d1 d2 d3 d4
       clear y0 y1 y2 z0 z1 z2
       obtain ⟨c0, c1, c2, c3, c4, c5, c6, c7, c8, c9, c10⟩ := vwres hV7
       obtain ⟨d0, d1, d2, d3, d4⟩ := tures hT7
       obtain ⟨y0, y1, y2, z0, z1, z2⟩ := wkres hW7.blk
       cases Ob with
       | true =>
        go_wp2_with ((at_builtin; go_must (refine wpList_append_own_at _ rfl _ _ 28 rfl (b + 1) 3 iI (.int .i64 0) 1 8 Tryz.underlying28 hiI hzI0 hzI1 hzI2 rfl (by decide) _ _ _ rfl (hW7.fr.alloc _) ⟨x4.heap.size, 0, none⟩ 1 1 [.int .i64 (n : Int)] rfl rfl (cell_one_new _ _ _) (ints_oneCell .i64 [(n : Int)]) (by have := HKl.out; (try dsimp only at *); unfold maxLen; omega) (by have := HKl.out; (try dsimp only at *); omega) (by have := hW7.blk.lt; simp; omega) ?_); intro v' xa hown' hgrow _ hat; obtain ⟨a', cap', rfl⟩ := own_form hown'; have hSt := hW7.stands hgrow (fun g e => (hW7.fr.lt g e).1); obtain ⟨u0, u1, u2, t0, t1, t2⟩ := wkres hSt; have hWa := hW7.pushFr hgrow (x := (n : Int)) hown' hat; have hGa := round_below (i := 0) (v' := .slice a' (K.fr.length + 1) cap') hG7 (Nat.le_of_lt hW7.blk.lt) hgrow (fun g e => (hW7.fr.lt g e).1); have HWa := keep hWa; have HGa := keep hGa; have hVa := hV1.below hGa (by have := HB3.out; omega); have hTa := tup_stays hW7 (i := 0) (v' := .slice a' (K.fr.length + 1) cap') hT7 hgrow; obtain ⟨a0, a1, a2, a3, a4, a5, a6, a7, a8, a9, a10⟩ := vwres hVa; obtain ⟨b0, b1, b2, b3, b4⟩ := tures hTa; clear hVa hTa; clear hWa hGa hSt))
        refine (Hof.out _ (Hv.out.fits (Below.trans hg1 (Below.mono HGa.out (by have := HB3.out; omega))))).mono ?_
        rintro e x5 ⟨rfl, hb5⟩
        have hW8 := HWa.out.fits hb5
        have hG8 := Below.trans HGa.out (Below.mono hb5 (Nat.le_of_lt HWa.out.blk.lt))
        clear HWa HGa
        clear c0 c1 c2 c3 c4 c5 c6 c7 c8 c9 c10
        clear d0 d1 d2 d3 d4
        clear y0 y1 y2 z0 z1 z2
        clear u0 u1 u2 t0 t1 t2
        obtain ⟨y0, y1, y2, z0, z1, z2⟩ := wkres hW8.blk
        cases Fb with
        | true =>
         go_wp2_with ((at_builtin; go_must (refine wpList_append_own_at _ rfl _ _ 28 rfl (b + 1) 3 iI (.int .i64 0) 1 8 Tryz.underlying28 hiI hzI0 hzI1 hzI2 rfl (by decide) _ _ _ rfl (hW8.off.alloc _) ⟨x5.heap.size, 0, none⟩ 1 1 [.int .i64 (n : Int)] rfl rfl (cell_one_new _ _ _) (ints_oneCell .i64 [(n : Int)]) (by have := HKl.out; (try dsimp only at *); unfold maxLen; omega) (by have := HKl.out; (try dsimp only at *); omega) (by have := hW8.blk.lt; simp; omega) ?_); intro v' xa hown' hgrow _ hat; obtain ⟨a', cap', rfl⟩ := own_form hown'; have hSt := hW8.stands hgrow (fun g e => (hW8.off.lt g e).1); obtain ⟨u0, u1, u2, t0, t1, t2⟩ := wkres hSt; have hWa := hW8.pushOff hgrow (x := (n : Int)) hown' hat; have hGa := round_below (i := 1) (v' := .slice a' (K.off.length + 1) cap') hG8 (Nat.le_of_lt hW8.blk.lt) hgrow (fun g e => (hW8.off.lt g e).1); have HWa := keep hWa; have HGa := keep hGa; clear hWa hGa hSt))
         go_roundw
         case rel =>
          refine ⟨n + 1, by omega, by go_num, ?_, HGa.out⟩
          rw [HStep.out]
          exact ⟨_, _, _, HWa.out⟩
         case measure => simp [intOf]; omega
        | false =>
         go_wp2_with fail
         go_roundw
         case rel =>
          refine ⟨n + 1, by omega, by go_num, ?_, hG8⟩
          rw [HStep.out]
          exact ⟨_, _, _, hW8⟩
         case measure => simp [intOf]; omega
       | false =>
        go_wp2_with fail
        refine (Hof.out x4 (Hv.out.fits (Below.trans hg1 (Below.mono hG7 (by have := HB3.out; omega))))).mono ?_
        rintro e x5 ⟨rfl, hb5⟩
        have hW8 := hW7.fits hb5
        have hG8 := Below.trans hG7 (Below.mono hb5 (Nat.le_of_lt hW7.blk.lt))
        have hV8 := hV1.below hG8 (by have := HB3.out; omega)
        clear c0 c1 c2 c3 c4 c5 c6 c7 c8 c9 c10
        clear d0 d1 d2 d3 d4
        clear y0 y1 y2 z0 z1 z2
        obtain ⟨y0, y1, y2, z0, z1, z2⟩ := wkres hW8.blk
        cases Fb with
        | true =>
         go_wp2_with ((at_builtin; go_must (refine wpList_append_own_at _ rfl _ _ 28 rfl (b + 1) 3 iI (.int .i64 0) 1 8 Tryz.underlying28 hiI hzI0 hzI1 hzI2 rfl (by decide) _ _ _ rfl (hW8.off.alloc _) ⟨x5.heap.size, 0, none⟩ 1 1 [.int .i64 (n : Int)] rfl rfl (cell_one_new _ _ _) (ints_oneCell .i64 [(n : Int)]) (by have := HKl.out; (try dsimp only at *); unfold maxLen; omega) (by have := HKl.out; (try dsimp only at *); omega) (by have := hW8.blk.lt; simp; omega) ?_); intro v' xa hown' hgrow _ hat; obtain ⟨a', cap', rfl⟩ := own_form hown'; have hSt := hW8.stands hgrow (fun g e => (hW8.off.lt g e).1); obtain ⟨u0, u1, u2, t0, t1, t2⟩ := wkres hSt; have hWa := hW8.pushOff hgrow (x := (n : Int)) hown' hat; have hGa := round_below (i := 1) (v' := .slice a' (K.off.length + 1) cap') hG8 (Nat.le_of_lt hW8.blk.lt) hgrow (fun g e => (hW8.off.lt g e).1); have HWa := keep hWa; have HGa := keep hGa; clear hWa hGa hSt))
         go_roundw
         case rel =>
          refine ⟨n + 1, by omega, by go_num, ?_, HGa.out⟩
          rw [HStep.out]
          exact ⟨_, _, _, HWa.out⟩
         case measure => simp [intOf]; omega
        | false =>
         go_wp2_with fail
         go_roundw
         case rel =>
          refine ⟨n + 1, by omega, by go_num, ?_, hG8⟩
          rw [HStep.out]
          exact ⟨_, _, _, hW8⟩
         case measure => simp [intOf]; omega
     ·have hs4 := HStep.out
      rw [if_neg h2, if_neg h3] at hs4
      have HStep := keep hs4
      have q2 : ((S : Int) == 2) = false := by simp; omega
      have q3 : ((S : Int) == 3) = false := by simp; omega
      clear hs4 h2 h3
      go_wp2_with fail
      go_roundw
      case rel =>
       refine ⟨n + 1, by omega, by go_num, ?_, hG2⟩
       rw [HStep.out]
       exact ⟨_, _, _, hW2⟩
      case measure => simp [intOf]; omega
   ·have e : n = p.items.length := by omega
    subst e
    have hR2 := hR1.below hG0 (by have := HB3.out; omega)
    have hs5 := HS.out
    generalize sortK v h pg p.items p.items.length = K at hW0 hs5
    have HS5 := keep hs5
    obtain ⟨fa, fc, rfl⟩ := own_form hW0.fr
    obtain ⟨oa, oc, rfl⟩ := own_form hW0.off
    obtain ⟨ga, gc, rfl⟩ := own_form hW0.gone
    obtain ⟨r0, r1, r2, f0, f1, f2⟩ := wkres hR2
    have Hset := keep (wkset hR2 (.slice fa K.fr.length fc) (.slice oa K.off.length oc) (.slice ga K.gone.length gc))
    have Hbut := keep (wkbut wr (w.heap.size + 2) (.slice fa K.fr.length fc) (.slice oa K.off.length oc) (.slice ga K.gone.length gc))
    obtain ⟨y0, y1, y2, z0, z1, z2⟩ := wkres hW0.blk
    have HW := keep hW0
    have HG := keep hG0
    have HR := keep hR2
    have hlast := hW0.blk.lt
    clear hW0 hG0 hR2 hR1 hV1 hs5
    go_wp2_with fail
    refine bodyPost_ret (v := .agg #[.slice fa K.fr.length fc, .slice oa K.off.length oc, .slice ga K.gone.length gc]) ?_ rfl ?_
    ·obtain ⟨s0, s1, s2, _⟩ := wkres Hset.out
     simp [results, Tryz.results20, go_sem, s0, s1, s2]
    ·rw [HS5.out]
     have hne : ∀ t, t ≠ 72 → ∀ (blk : Array Value) (f : Nat × Nat), wr.heap[w.heap.size + 2]? ≠ some (.cells blk t f) := by
      intro t ht blk f e
      have := HR.out
      unfold Blk at this
      rw [this] at e
      simp at e
      exact ht e.2.1.symm
     refine ⟨_, _, _, rfl, (RowS.but (own_row HW.out.fr) Hbut.out (hne _ (by decide))), (RowS.but (own_row HW.out.off) Hbut.out (hne _ (by decide))), (RowS.but (own_row HW.out.gone) Hbut.out (hne _ (by decide))), ?_⟩
     have hb0 := HB3.out
     exact But.below (Below.trans hg1 (Below.mono HG.out (by omega))) Hbut.out (by omega) (by omega)
 ·have hS : sortS v h pg p = ⟨[], [], []⟩ := by unfold sortS; rw [if_neg hk]
  have HS := keep hS
  have hk' : (p.kind != 2) = true := by simpa using hk
  obtain ⟨p0, p1, p2, p3, p4, p5, _⟩ := pgres hP1
  obtain ⟨r0, r1, r2, f0, f1, f2⟩ := wkres hR1
  obtain ⟨q0, q1, q2, g0, g1, g2⟩ := wkres hW1
  clear hS hV1 hP1 hR1 hW1
  subst hb3
  unfold vwV pgV
  go_enter Tryz.func20, Tryz.ntmps20
  go_wp2_with fail
  rw [← hw1]
  refine bodyPost_ret (v := .agg #[.slice none 0 0, .slice none 0 0, .slice none 0 0]) ?_ rfl ?_
  ·simp [results, Tryz.results20, go_sem, r0, r1, r2]
  ·rw [HS.out]
   exact ⟨_, _, _, rfl, RowS.nil _ _ _ _, RowS.nil _ _ _ _, RowS.nil _ _ _ _, hg1⟩
theorem sort_any (v : Vw) (av rv cv : Value) (h pg : Int) (p : Pg) (iv : Value) (w : World) (hv : VwIn w v av rv cv) (hi : Items w iv p.items) (hl : (p.items.length : Int) ≤ 1759218604441) (hs : ∀ x ∈ p.items, (x.length : Int) ≤ 9223372036854775807) :
  Calls Tryz.prog 20 #[vwV v av rv cv, .int .i64 h, .int .i64 pg, pgV p iv] w (SortPost (sortS v h pg p) w) := by
 refine (sort_anyT v av rv cv h pg p iv w hv hi hl hs).mono ?_
 rintro e w' ⟨fv, ov, gv, rfl, h1, h2, h3, hb⟩
 exact ⟨fv, ov, gv, rfl, h1.weak, h2.weak, h3.weak, hb⟩
end Go.Proofs.YtmhepfehcakmjaaGreat.Vac
namespace Go.Proofs.YtmhepfehcakmjaaGreat.Vac
open Go.RowKit
theorem take_eq_succ {a b : List Int} {k : Nat} (h : a.take k = b.take k) (ha : k < a.length) (hb : k < b.length) (hk : a.getD k 0 = b.getD k 0) : a.take (k + 1) = b.take (k + 1) := by
 rw [List.take_succ_eq_append_getElem ha, List.take_succ_eq_append_getElem hb, h]
 simp [ha, hb] at hk
 rw [hk]
set_option maxRecDepth 100000 in
set_option maxHeartbeats 1000000 in
theorem sameInts_any (av bv : Value) (a b : List Int) (w : World) (ha : Ints w av a) (hb : Ints w bv b) (hla : (a.length : Int) ≤ 70368744177664) (_hlb : (b.length : Int) ≤ 70368744177664) :
  Calls Tryz.prog 45 #[av, bv] w fun e w' => e = .returned (.bool (decide (a = b))) ∧ Below w.heap.size w w' := by
 obtain ⟨aa, ac, rfl, hca⟩ := ints_form ha
 obtain ⟨ba, bc, rfl, hcb⟩ := ints_form hb
 clear ha hb
 have HA := keep hca
 have HB := keep hcb
 clear hca hcb
 go_enter Tryz.func45, Tryz.ntmps45
 by_cases hl : a.length = b.length
 ·have hl' : ((a.length : Int) != (b.length : Int)) = false := by simp [hl]
  go_wp2_with fail
  go_loopw [5] (fun i wr => ∃ k : Nat, k ≤ a.length ∧ i = .int .i64 k ∧ Kept (a.take k = b.take k) ∧ Below w.heap.size w wr) (fun i _ => a.length - (intOf i).toNat)
  case atStart => exact ⟨0, Nat.zero_le _, rfl, keep rfl, Below.refl _ _⟩
  case round =>
   obtain ⟨k, hk, rfl, hT, hG⟩ := hrel
   by_cases hlt : k < a.length
   ·have hltb : k < b.length := by omega
    obtain ⟨c, off, rfl, hx⟩ := HA.out k hlt
    obtain ⟨d, off', rfl, hy⟩ := HB.out k hltb
    have hx1 := (hG.cell (p := ⟨c, off + k, none⟩) (World.block_lt_of_cell? w _ hx)).trans hx
    have hy1 := (hG.cell (p := ⟨d, off' + k, none⟩) (World.block_lt_of_cell? w _ hy)).trans hy
    have hi1 : (k : Int) < (a.length : Int) := by omega
    have hi2 : (k : Int) < (b.length : Int) := by omega
    have hst := take_eq_succ hT.out hlt hltb
    have hne : a.getD k 0 ≠ b.getD k 0 → decide (a = b) = false := by
     intro h; simp; intro e; rw [e] at h; exact h rfl
    generalize a.getD k 0 = x at *
    generalize b.getD k 0 = y at *
    have HS := keep hst
    have HN := keep hne
    clear hst hne hx hy
    by_cases hxy : x = y
    ·have e1 : (x != y) = false := by simp [hxy]
     go_wp2_with fail
     go_quiet (fail)
     go_wp2_with fail
     go_roundw
     case rel => exact ⟨k + 1, by omega, by go_num, keep (HS.out hxy), ⟨hG.os, hG.tape, hG.output, hG.size, hG.block⟩⟩
     case measure => simp [intOf]; omega
    ·have e1 : (x != y) = true := by simp [hxy]
     go_wp2_with fail
     go_quiet (fail)
     go_wp2_with fail
     go_ret
     rw [HN.out hxy]
     exact ⟨rfl, ⟨hG.os, hG.tape, hG.output, hG.size, hG.block⟩⟩
   ·have e : decide (a = b) = true := by
     have := hT.out
     rw [List.take_of_length_le (by omega), List.take_of_length_le (by omega)] at this
     simp [this]
    have He := keep e
    clear e
    go_wp2_with fail
    go_ret
    rw [He.out]
    exact ⟨rfl, hG⟩
 ·have hl' : ((a.length : Int) != (b.length : Int)) = true := by simp; omega
  have e : decide (a = b) = false := by simp; intro h; exact hl (by rw [h])
  have He := keep e
  clear e
  go_wp2_with fail
  go_ret
  rw [He.out]
  exact ⟨rfl, Below.refl _ _⟩
end Go.Proofs.YtmhepfehcakmjaaGreat.Vac
