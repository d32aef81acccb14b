
import Derived.Test.YtikmkimkhngihaaGreatKClog2
import Derived.Test.YtikmkimkhngihaaGreatKTup3
/- clog.open: a page whose head is right. -/
namespace Go.Proofs.YtikmkimkhngihaaGreat
open Go.RowKit

theorem below_drewN' (w : World) (n : Nat) : Below w.heap.size w (w.drewN n) := ⟨rfl, rfl, rfl, Nat.le_refl _, fun _ _ => rfl⟩

set_option maxRecDepth 100000 in
set_option maxHeartbeats 2000000 in
theorem open_rest (m : Int) (p : Pg) (iv : Value) (w : World) (hi : Items w iv p.items) (h : modB m = true) (hh : openHead m p = true) (hs : ∀ x ∈ p.items, (x.length : Int) ≤ 9223372036854775807) : Calls Tryz.prog 40 #[.int .i64 m, pgV p iv] w (OpenPost m p w) := by
  obtain ⟨hm1, hm2, hm3⟩ := modB_bd h
  have hE : openE m p = if openBody m p then 0 else 31 := by unfold openE; rw [h, hh]; simp
  simp only [openHead, Bool.and_eq_true, decide_eq_true_eq, List.isEmpty_iff] at hh
  obtain ⟨⟨⟨⟨⟨⟨h1, h2⟩, h3⟩, h4⟩, h5⟩, h6⟩, h7⟩ := hh
  obtain ⟨lsn, kind, level, right, high, items⟩ := p
  simp only at h1 h2 h3 h4 h5 h6 h7 hi hs
  subst h1 h3 h4 h5
  obtain ⟨l0, l1, rfl⟩ : ∃ l0 l1, items = [l0, l1] := by
    match items, h6 with
    | [a, b], _ => exact ⟨a, b, rfl⟩
  have hs0 := hs l0 (by simp)
  have hs1 := hs l1 (by simp)
  have h7' : (l1.length : Int) = (m + 3) / 4 := by simpa using h7
  have HE := keep hE
  clear hE h7 hs h6
  unfold pgV
  go_enter Tryz.func40, Tryz.ntmps40
  go_wp2_with fail
  refine (isModulus_any _ _).mono ?_
  rintro e w1 ⟨rfl, hb⟩
  have hB1 := (Blk.new w 30 (pgCells ⟨lsn, 1, 0, 0, [], [l0, l1]⟩ iv)).fits hb
  have hb1 : Below w.heap.size w w1 := ((Below.refl _ _).alloc (Nat.le_refl _) _).trans (hb.mono (by simp))
  have hi1 : Items w1 iv [l0, l1] := Row.fits hi hb1
  clear hb hi
  unfold pgCells at hB1
  have c0 := hB1.cell 0 (by simp)
  have c1 := hB1.cell 1 (by simp)
  have c2 := hB1.cell 2 (by simp)
  have c3 := hB1.cell 3 (by simp)
  have c4 := hB1.cell 4 (by simp)
  have c5 := hB1.cell 5 (by simp)
  simp only [List.getElem_cons_zero, List.getElem_cons_succ] at c0 c1 c2 c3 c4 c5
  obtain ⟨c, off, cap, rfl, hcell⟩ := items_cells hi1 (by simp)
  have d0 := hcell 0 (by simp)
  have d1 := hcell 1 (by simp)
  simp only [List.getElem_cons_zero, List.getElem_cons_succ, Nat.add_zero] at d0 d1
  have hc := World.block_lt_of_cell? _ _ d0
  simp only at hc
  have g2 : decide (lsn < 0) = false := by simp; omega
  have g5 : (str []).toList.isEmpty = true := by rw [str_list]; rfl
  have g7 : ((l1.length : Int) != (m + 3) / 4) = false := by simpa using h7'
  have H7 := keep h7'
  clear h7' hcell
  have hwl := hB1.lt
  go_wp2_with fail
  go_quiet ((go_at_call 39; exact Calls.quiet_of_same ((size_any m _ (by omega) hm2).mono (fun e w' ⟨a, b⟩ => ⟨a, b.symm⟩))))
  go_wp2_with fail
  refine (rdRead _ _).mono ?_
  rintro e w3 ⟨rfl, hw3⟩
  have hrd3 : Rd w3 w1.heap.size (str l0) 0 := by subst hw3; exact Blk.new (w1.drewN _) _ [_, _]
  have hb3 : Below w1.heap.size w1 w3 := by subst hw3; exact (below_drewN' w1 _).alloc (Nat.le_refl _) _
  have hB3 := hB1.fits hb3
  have hi3 : Items w3 (.slice (some ⟨c, off, none⟩) [l0, l1].length cap) [l0, l1] := Row.fits hi1 hb3
  have hs3 : w1.heap.size < w3.heap.size := Blk.lt hrd3
  clear hw3
  go_wp2_with fail
  have hN := rdNum_ok w1.heap.size (str l0) m w3 hrd3 (by unfold maxLen; simp; omega) (by omega)
  obtain ⟨X, hX⟩ : ∃ X, X = rdNumS m l0 := ⟨_, rfl⟩
  rw [str_toList, ← hX] at hN
  have HX := keep hX
  clear hX
  refine hN.mono ?_
  rintro e w4 ⟨rfl, hrd4, hbt4⟩
  clear hN
  have hB4 := hB3.but hbt4 (by omega)
  have e5 := hB4.cell 5 (by simp)
  simp only [List.getElem_cons_zero, List.getElem_cons_succ] at e5
  have d1' : w4.cell? ⟨c, off + 1, none⟩ = some (.string (str l1)) := by
    rw [hbt4.cell (by show c < _; omega) (by show c ≠ _; omega), hb3.cell (by show c < _; omega)]; exact d1
  obtain ⟨bv, w5, hcv, hbr, hb5, hform⟩ := convert_str w4 (str l1)
  obtain ⟨g, bc, C, f, rfl, hgb, hC1, hC2, hC3⟩ := hbr
  have hlen4 : 0 < l1.length := by have := H7.out; omega
  have hlast := brow_cell hC1 hC2 ((str l1).data.toList.length - 1) (by simp; omega)
  have hbr : BRow w5 w4.heap.size (.slice (some ⟨g, 0, none⟩) (str l1).data.toList.length bc) (str l1).data.toList := ⟨g, bc, C, f, rfl, hgb, hC1, hC2, hC3⟩
  simp only [str_toList] at hcv hlast hbr
  have hLv : l1.getD (l1.length - 1) 0 = l1.getLast?.getD 0 := by
    rw [List.getLast?_eq_getElem?]; simp
  rw [hLv] at hlast
  clear hform hC1 hC2 hC3 hLv
  go_wp2_with fail
  have hrd5 := Blk.fits hrd4 hb5
  refine (rdEnd _ _ _ _ hrd5).mono ?_
  rintro e w6 ⟨rfl, rfl⟩
  generalize hEv : (if X.2.2 = 0 ∧ 0 < (str X.2.1).size then (12 : Int) else X.2.2) = E
  have hE0 : E = 0 ↔ (X.2.2 = 0 ∧ X.2.1 = []) := by
    rw [← hEv]
    cases hy : X.2.1 with
    | nil => simp
    | cons a l =>
      simp
      split
      · omega
      · assumption
  have hwb : Below w.heap.size w w5 := by
    have b3 := hb1.trans (hb3.mono (by omega))
    have b4 := But.below b3 hbt4 (by omega) (by omega)
    exact b4.trans (hb5.mono (by have := hbt4.size; omega))
  have hbody : openBody m ⟨lsn, 1, 0, 0, [], [l0, l1]⟩ = (decide (E = 0) && decide (X.1 ≠ 0) && (decide (m % 4 = 0) || decide (((l1.getLast?.getD 0).toNat : Int) / 2 ^ (2 * (m % 4)).toNat = 0))) := by
    unfold openBody
    have e1 : openNum m ⟨lsn, 1, 0, 0, [], [l0, l1]⟩ = X := HX.out.symm
    rw [e1, Bool.eq_iff_iff]
    simp only [Bool.and_eq_true, decide_eq_true_eq, hE0]
    simp
  have hbase : BRow w5 w.heap.size (.slice (some ⟨g, 0, none⟩) l1.length bc) l1 := by
    obtain ⟨g', cap', C, f, a1, a2, a3⟩ := hbr
    exact ⟨g', cap', C, f, a1, by have := hbt4.size; omega, a3⟩
  have HB := keep hbody
  have HBase := keep hbase
  have hnum : openNum m ⟨lsn, 1, 0, 0, [], [l0, l1]⟩ = X := HX.out.symm
  have HNum := keep hnum
  clear hEv hE0 hbody hbase hnum hbr
  generalize hL : ((l1.getLast?.getD 0).toNat) = L at *
  clear hL e5 d1' hcv hB1 hi1 c0 c1 c2 c3 c4 c5 d0 d1 g2 g5 g7 hrd3 hB3 hi3 hrd4 hB4 hbt4 hrd5
  by_cases k1 : E = 0
  · have k1' : (E != 0) = false := by simpa using k1
    by_cases k2 : X.1 = 0
    · have k2' : (X.1 == 0) = true := by simpa using k2
      have hno : openBody m ⟨lsn, 1, 0, 0, [], [l0, l1]⟩ = false := by rw [HB.out]; simp [k2]
      have hno := keep hno
      go_wp2_with fail
      go_ret3
      refine ⟨.slice none 0 0, ?_, hwb, ?_, ⟨_, _, _, rfl⟩⟩
      · rw [HE.out, hno.out]; rfl
      · rw [HE.out, hno.out]; intro h'; cases h'
    · have k2' : (X.1 == 0) = false := by simpa using k2
      by_cases k3 : m % 4 = 0
      · have hyes : openBody m ⟨lsn, 1, 0, 0, [], [l0, l1]⟩ = true := by rw [HB.out]; simp [k1, k2, k3]
        have hyes := keep hyes
        go_wp2_with fail
        go_ret3
        refine ⟨.slice (some ⟨g, 0, none⟩) l1.length bc, ?_, hwb, fun _ => HBase.out, ⟨_, _, _, rfl⟩⟩
        rw [HE.out, hyes.out, HNum.out]; rfl
      · have k3' : m % 4 = 2 := by omega
        by_cases k4 : (L : Int) / 16 = 0
        · have hyes : openBody m ⟨lsn, 1, 0, 0, [], [l0, l1]⟩ = true := by rw [HB.out]; simp [k1, k2, k3', k4]
          have hyes := keep hyes
          have k4' : ((L : Int) / 16 != 0) = false := by simpa using k4
          go_wp2_with fail
          go_ret3
          refine ⟨.slice (some ⟨g, 0, none⟩) l1.length bc, ?_, hwb, fun _ => HBase.out, ⟨_, _, _, rfl⟩⟩
          rw [HE.out, hyes.out, HNum.out]; rfl
        · have hno : openBody m ⟨lsn, 1, 0, 0, [], [l0, l1]⟩ = false := by rw [HB.out]; simp [k3', k4]
          have hno := keep hno
          have k4' : ((L : Int) / 16 != 0) = true := by simpa using k4
          go_wp2_with fail
          go_ret3
          refine ⟨.slice none 0 0, ?_, hwb, ?_, ⟨_, _, _, rfl⟩⟩
          · rw [HE.out, hno.out]; rfl
          · rw [HE.out, hno.out]; intro h'; cases h'
  · have k1' : (E != 0) = true := by simpa using k1
    have hno : openBody m ⟨lsn, 1, 0, 0, [], [l0, l1]⟩ = false := by rw [HB.out]; simp [k1]
    have hno := keep hno
    go_wp2_with fail
    go_ret3
    refine ⟨.slice none 0 0, ?_, hwb, ?_, ⟨_, _, _, rfl⟩⟩
    · rw [HE.out, hno.out]; rfl
    · rw [HE.out, hno.out]; intro h'; cases h'

theorem open_any (m : Int) (p : Pg) (iv : Value) (w : World) (hi : Items w iv p.items) (hs : ∀ x ∈ p.items, (x.length : Int) ≤ 9223372036854775807) : Calls Tryz.prog 40 #[.int .i64 m, pgV p iv] w (OpenPost m p w) := by
  cases h : modB m with
  | false => exact open_mod m p iv w h
  | true =>
    cases hh : openHead m p with
    | false => exact open_head m p iv w hi h hh
    | true => exact open_rest m p iv w hi h hh hs

end Go.Proofs.YtikmkimkhngihaaGreat

/- clog.Get, put, made, Blank, Set. -/
namespace Go.Proofs.YtikmkimkhngihaaGreat
open Go.RowKit

theorem openE_zero {m : Int} {p : Pg} (h : openE m p = 0) : modB m = true ∧ openHead m p = true ∧ openBody m p = true := by
  unfold openE at h
  split at h
  · split at h
    · rename_i h1 h2
      rw [Bool.and_eq_true] at h2
      exact ⟨h1, h2.1, h2.2⟩
    · cases h
  · cases h
theorem openE_len {m : Int} {p : Pg} (h : openE m p = 0) : p.items.length = 2 ∧ ((p.items.getD 1 []).length : Int) = (m + 3) / 4 ∧ p.kind = 1 ∧ 0 ≤ p.lsn ∧ p.level = 0 ∧ p.right = 0 ∧ p.high = [] := by
  have := (openE_zero h).2.1
  unfold openHead at this
  simp only [Bool.and_eq_true, decide_eq_true_eq, List.isEmpty_iff] at this
  obtain ⟨⟨⟨⟨⟨⟨h1, h2⟩, h3⟩, h4⟩, h5⟩, h6⟩, h7⟩ := this
  exact ⟨h6, h7, h1, h2, h3, h4, h5⟩

/-- A status among others. -/
def statAt (l : List UInt8) (x : Int) : Nat := (l.getD ((x - 1) / 4).toNat 0).toNat / 2 ^ (2 * ((x - 1) % 4)).toNat % 4
/-- A transaction's status, and what is wrong. -/
def getS (m : Int) (p : Pg) (x : Int) : Nat × Int :=
  if openE m p = 0 then if idsB m [x] then (statAt (p.items.getD 1 []) x, 0) else (0, 1) else (0, openE m p)

theorem stat_bits (c e : Nat) (hc : c < 256) (_he : e ≤ 6) : bits BinOp.and IntKind.u8 ((c : Int) / 2 ^ e) 3 = ((c / 2 ^ e % 4 : Nat) : Int) := by
  have e1 : ((c : Int) / 2 ^ e) = ((c / 2 ^ e : Nat) : Int) := by push_cast; rfl
  have e2 : (3 : Int) = ((3 : Nat) : Int) := rfl
  have h1 : c / 2 ^ e ≤ c := Nat.div_le_self _ _
  rw [e1, e2, u8_and_nat _ _ (by omega) (by omega)]
  congr 1
  exact Nat.and_two_pow_sub_one_eq_mod _ 2

set_option maxRecDepth 100000 in
set_option maxHeartbeats 1000000 in
theorem get_any (m : Int) (p : Pg) (iv : Value) (x : Int) (w : World) (hi : Items w iv p.items) (hs : ∀ x ∈ p.items, (x.length : Int) ≤ 9223372036854775807) : Calls Tryz.prog 71 #[.int .i64 m, pgV p iv, .int .i64 x] w fun e w' =>
    e = .returned (.tuple #[.int .u8 (getS m p x).1, .int .i64 (getS m p x).2]) ∧ Below w.heap.size w w' := by
  have ho := open_any m p iv (w.alloc (.cells (pgCells p iv).toArray 30)) (hi.fits ((Below.refl _ _).alloc (Nat.le_refl _) _)) hs
  unfold pgV pgCells OpenPost at ho
  clear hs hi
  by_cases h0 : openE m p = 0
  · have hll := (openE_len h0).2.1
    have hm := (openE_zero h0).1
    obtain ⟨hm1, hm2, _⟩ := modB_bd hm
    have hG : getS m p x = if idsB m [x] then (statAt (p.items.getD 1 []) x, 0) else (0, 1) := by unfold getS; rw [if_pos h0]
    rw [h0] at ho
    generalize (openNum m p).1 = F at *
    generalize p.items.getD 1 [] = l at *
    have Ho := keep ho
    have HL := keep hll
    clear ho h0 hm hll
    unfold pgV
    go_enter Tryz.func71, Tryz.ntmps71
    cases hB : idsB m [x] with
    | false =>
      rw [hB] at hG
      have HG := keep hG
      clear hG
      go_wp2_with fail
      refine Ho.out.mono ?_
      rintro e w1 ⟨bv, rfl, hb, hbr, _⟩
      obtain ⟨g, bc, C, f, rfl, hgb, hC1, hC2, hC3⟩ := hbr (by simp)
      have hb1 : Below w.heap.size w w1 := ((Below.refl _ _).alloc (Nat.le_refl _) _).trans (hb.mono (by simp))
      clear hbr hC1 hC2 hC3 hb
      go_wp2_with fail
      refine (isID_any _ _ _).mono ?_
      rintro e w2 ⟨rfl, hb2⟩
      go_wp2_with fail
      go_ret2
      have hG' : getS m p x = (0, 1) := by simpa using HG.out
      rw [hG']
      exact ⟨rfl, hb1.trans (hb2.mono hb1.size)⟩
    | true =>
      rw [hB] at hG
      have HG := keep hG
      obtain ⟨_, hx1, hx2⟩ := idsB_one hB
      clear hG
      go_wp2_with fail
      refine Ho.out.mono ?_
      rintro e w1 ⟨bv, rfl, hb, hbr, _⟩
      obtain ⟨g, bc, C, f, rfl, hgb, hC1, hC2, hC3⟩ := hbr (by simp)
      have hb1 : Below w.heap.size w w1 := ((Below.refl _ _).alloc (Nat.le_refl _) _).trans (hb.mono (by simp))
      have hq1 : ((x - 1) / 4).toNat < l.length := by have := HL.out; omega
      have hcell : w1.cell? ⟨g, ((x - 1) / 4).toNat, none⟩ = some (.int .u8 (l.getD ((x - 1) / 4).toNat 0).toNat) := brow_cell hC1 hC2 _ hq1
      have hgl := lt_of_block hC1
      clear hbr hC1 hC2 hC3 hb
      go_wp2_with fail
      refine (isID_any _ _ _).mono ?_
      rintro e w2 ⟨rfl, hb2⟩
      have hcell2 := (hb2.cell (p := ⟨g, ((x - 1) / 4).toNat, none⟩) hgl).trans hcell
      clear hcell
      go_wp2_with fail
      refine (place_any x _ hx1 (by omega)).mono ?_
      rintro e w3 ⟨rfl, rfl⟩
      have hst : Kept (bits BinOp.and IntKind.u8 (((l.getD ((x - 1) / 4).toNat 0).toNat : Int) / 2 ^ (2 * ((x - 1) % 4)).toNat) 3 = (statAt l x : Int)) :=
        keep (stat_bits _ _ (l.getD ((x - 1) / 4).toNat 0).toNat_lt (by omega))
      have hi0 : 0 ≤ (x - 1) / 4 := by omega
      have hi1 : (x - 1) / 4 < (l.length : Int) := by have := HL.out; omega
      have hf0 : 0 ≤ 2 * ((x - 1) % 4) := by omega
      have hf1 : 2 * ((x - 1) % 4) ≤ 6 := by omega
      generalize (l.getD ((x - 1) / 4).toNat 0).toNat = cc at *
      generalize (x - 1) / 4 = q at *
      generalize 2 * ((x - 1) % 4) = far at *
      go_wp2_with fail
      go_ret2
      have hG' : getS m p x = (statAt l x, 0) := by simpa using HG.out
      rw [hG']
      refine ⟨?_, hb1.trans (hb2.mono hb1.size)⟩
      show Ending.returned (.tuple #[.int .u8 (bits BinOp.and IntKind.u8 ((cc : Int) / 2 ^ far.toNat) 3), .int .i64 0]) = _
      rw [hst.out]
  · have hG : getS m p x = (0, openE m p) := by unfold getS; rw [if_neg h0]
    rw [if_neg h0] at ho
    have h0' : (openE m p != 0) = true := by simpa using h0
    generalize openE m p = E at *
    have Ho := keep ho
    have HG := keep hG
    clear ho hG h0
    unfold pgV
    go_enter Tryz.func71, Tryz.ntmps71
    go_wp2_with fail
    refine Ho.out.mono ?_
    rintro e w1 ⟨bv, rfl, hb, _, a, n, c, rfl⟩
    have hb1 : Below w.heap.size w w1 := ((Below.refl _ _).alloc (Nat.le_refl _) _).trans (hb.mono (by simp))
    clear hb
    go_wp2_with fail
    go_ret2
    rw [HG.out]
    exact ⟨rfl, hb1⟩

/-- Statuses with another one. -/
def putS (l : List UInt8) (x : Int) (s : Nat) : List UInt8 :=
  l.set ((x - 1) / 4).toNat (UInt8.ofNat ((l.getD ((x - 1) / 4).toNat 0).toNat &&& (255 - 3 * 2 ^ (2 * ((x - 1) % 4)).toNat % 256) ||| s * 2 ^ (2 * ((x - 1) % 4)).toNat % 256))

theorem put_bits (c s e : Nat) (hc : c < 256) (_hs : s < 256) : bits BinOp.or IntKind.u8 (bits BinOp.andNot IntKind.u8 (c : Int) (((3 * 2 ^ e % 256 : Nat) : Int))) (((s * 2 ^ e % 256 : Nat) : Int)) = ((UInt8.ofNat (c &&& (255 - 3 * 2 ^ e % 256) ||| s * 2 ^ e % 256)).toNat : Int) := by
  rw [u8_andNot_nat _ _ hc (by omega)]
  have h1 : c &&& (255 - 3 * 2 ^ e % 256) < 256 := Nat.lt_of_le_of_lt Nat.and_le_left hc
  rw [u8_or_nat _ _ h1 (by omega)]
  congr 1
  rw [UInt8.toNat_ofNat']
  have h2 : (c &&& (255 - 3 * 2 ^ e % 256)) ||| s * 2 ^ e % 256 < 2 ^ 8 := Nat.or_lt_two_pow h1 (by omega)
  omega

end Go.Proofs.YtikmkimkhngihaaGreat
