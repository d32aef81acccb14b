/- clog.Get, put, made, Blank, Set. -/
import Derived.Test.YtklpbhajmnogeaaClog3
namespace Go.Proofs.Ytklpbhajmnogeaa
open Go.RowKit

theorem openE_cases (m : Int) (p : Pg) : openE m p = 0 ∨ openE m p = 31 ∨ openE m p = 1 := by
  unfold openE; split
  · split
    · exact .inl rfl
    · exact .inr (.inl rfl)
  · exact .inr (.inr rfl)
theorem openE_zero {m : Int} {p : Pg} (h : openE m p = 0) : modB m = true ∧ openHead m p = true ∧ openBody m p = true := by
  unfold openE at h
  split at h
  · split at h
    · rename_i h1 h2
      rw [Bool.and_eq_true] at h2
      exact ⟨h1, h2.1, h2.2⟩
    · cases h
  · cases h
theorem openE_len {m : Int} {p : Pg} (h : openE m p = 0) : p.items.length = 2 ∧ ((p.items.getD 1 []).length : Int) = (m + 3) / 4 ∧ p.kind = 1 ∧ 0 ≤ p.lsn ∧ p.level = 0 ∧ p.right = 0 ∧ p.high = [] := by
  have := (openE_zero h).2.1
  unfold openHead at this
  simp only [Bool.and_eq_true, decide_eq_true_eq, List.isEmpty_iff] at this
  obtain ⟨⟨⟨⟨⟨⟨h1, h2⟩, h3⟩, h4⟩, h5⟩, h6⟩, h7⟩ := this
  exact ⟨h6, h7, h1, h2, h3, h4, h5⟩

/-- A status among others. -/
def statAt (l : List UInt8) (x : Int) : Nat := (l.getD ((x - 1) / 4).toNat 0).toNat / 2 ^ (2 * ((x - 1) % 4)).toNat % 4
/-- A transaction's status, and what is wrong. -/
def getS (m : Int) (p : Pg) (x : Int) : Nat × Int :=
  if openE m p = 0 then if idsB m [x] then (statAt (p.items.getD 1 []) x, 0) else (0, 1) else (0, openE m p)

theorem stat_bits (c e : Nat) (hc : c < 256) (he : e ≤ 6) : bits BinOp.and IntKind.u8 ((c : Int) / 2 ^ e) 3 = ((c / 2 ^ e % 4 : Nat) : Int) := by
  have e1 : ((c : Int) / 2 ^ e) = ((c / 2 ^ e : Nat) : Int) := by push_cast; rfl
  have e2 : (3 : Int) = ((3 : Nat) : Int) := rfl
  have h1 : c / 2 ^ e ≤ c := Nat.div_le_self _ _
  rw [e1, e2, u8_and_nat _ _ (by omega) (by omega)]
  congr 1
  exact Nat.and_two_pow_sub_one_eq_mod _ 2

set_option maxRecDepth 100000 in
set_option maxHeartbeats 1000000 in
theorem get_any (m : Int) (p : Pg) (iv : Value) (x : Int) (w : World) (hi : Items w iv p.items) (hs : ∀ x ∈ p.items, (x.length : Int) ≤ 9223372036854775807) : Calls Try.prog 47 #[.int .i64 m, pgV p iv, .int .i64 x] w fun e w' =>
    e = .returned (.tuple #[.int .u8 (getS m p x).1, .int .i64 (getS m p x).2]) ∧ Below w.heap.size w w' := by
  have ho := open_any m p iv (w.alloc (.cells (pgCells p iv).toArray 30)) (hi.fits ((Below.refl _ _).alloc (Nat.le_refl _) _)) hs
  unfold pgV pgCells OpenPost at ho
  clear hs hi
  by_cases h0 : openE m p = 0
  · have hll := (openE_len h0).2.1
    have hm := (openE_zero h0).1
    obtain ⟨hm1, hm2, _⟩ := modB_bd hm
    have hG : getS m p x = if idsB m [x] then (statAt (p.items.getD 1 []) x, 0) else (0, 1) := by unfold getS; rw [if_pos h0]
    rw [h0] at ho
    generalize (openNum m p).1 = F at *
    generalize p.items.getD 1 [] = l at *
    have Ho := keep ho
    have HL := keep hll
    clear ho h0 hm hll
    unfold pgV
    go_enter Try.func47, Try.ntmps47
    cases hB : idsB m [x] with
    | false =>
      rw [hB] at hG
      have HG := keep hG
      clear hG
      go_wp2_with fail
      refine Ho.out.mono ?_
      rintro e w1 ⟨bv, rfl, hb, hbr, _⟩
      obtain ⟨g, bc, C, f, rfl, hgb, hC1, hC2, hC3⟩ := hbr (by simp)
      have hb1 : Below w.heap.size w w1 := ((Below.refl _ _).alloc (Nat.le_refl _) _).trans (hb.mono (by simp))
      clear hbr hC1 hC2 hC3 hb
      go_wp2_with fail
      refine (isID_any _ _ _).mono ?_
      rintro e w2 ⟨rfl, hb2⟩
      go_wp2_with fail
      go_ret2
      have hG' : getS m p x = (0, 1) := by simpa using HG.out
      rw [hG']
      exact ⟨rfl, hb1.trans (hb2.mono hb1.size)⟩
    | true =>
      rw [hB] at hG
      have HG := keep hG
      obtain ⟨_, hx1, hx2⟩ := idsB_one hB
      clear hG
      go_wp2_with fail
      refine Ho.out.mono ?_
      rintro e w1 ⟨bv, rfl, hb, hbr, _⟩
      obtain ⟨g, bc, C, f, rfl, hgb, hC1, hC2, hC3⟩ := hbr (by simp)
      have hb1 : Below w.heap.size w w1 := ((Below.refl _ _).alloc (Nat.le_refl _) _).trans (hb.mono (by simp))
      have hq1 : ((x - 1) / 4).toNat < l.length := by have := HL.out; omega
      have hcell : w1.cell? ⟨g, ((x - 1) / 4).toNat, none⟩ = some (.int .u8 (l.getD ((x - 1) / 4).toNat 0).toNat) := brow_cell hC1 hC2 _ hq1
      have hgl := lt_of_block hC1
      clear hbr hC1 hC2 hC3 hb
      go_wp2_with fail
      refine (isID_any _ _ _).mono ?_
      rintro e w2 ⟨rfl, hb2⟩
      have hcell2 := (hb2.cell (p := ⟨g, ((x - 1) / 4).toNat, none⟩) hgl).trans hcell
      clear hcell
      go_wp2_with fail
      refine (place_any x _ hx1 (by omega)).mono ?_
      rintro e w3 ⟨rfl, rfl⟩
      have hst : Kept (bits BinOp.and IntKind.u8 (((l.getD ((x - 1) / 4).toNat 0).toNat : Int) / 2 ^ (2 * ((x - 1) % 4)).toNat) 3 = (statAt l x : Int)) :=
        keep (stat_bits _ _ (l.getD ((x - 1) / 4).toNat 0).toNat_lt (by omega))
      have hi0 : 0 ≤ (x - 1) / 4 := by omega
      have hi1 : (x - 1) / 4 < (l.length : Int) := by have := HL.out; omega
      have hf0 : 0 ≤ 2 * ((x - 1) % 4) := by omega
      have hf1 : 2 * ((x - 1) % 4) ≤ 6 := by omega
      generalize (l.getD ((x - 1) / 4).toNat 0).toNat = cc at *
      generalize (x - 1) / 4 = q at *
      generalize 2 * ((x - 1) % 4) = far at *
      go_wp2_with fail
      go_ret2
      have hG' : getS m p x = (statAt l x, 0) := by simpa using HG.out
      rw [hG']
      refine ⟨?_, hb1.trans (hb2.mono hb1.size)⟩
      show Ending.returned (.tuple #[.int .u8 (bits BinOp.and IntKind.u8 ((cc : Int) / 2 ^ far.toNat) 3), .int .i64 0]) = _
      rw [hst.out]
  · have hG : getS m p x = (0, openE m p) := by unfold getS; rw [if_neg h0]
    rw [if_neg h0] at ho
    have h0' : (openE m p != 0) = true := by simpa using h0
    generalize openE m p = E at *
    have Ho := keep ho
    have HG := keep hG
    clear ho hG h0
    unfold pgV
    go_enter Try.func47, Try.ntmps47
    go_wp2_with fail
    refine Ho.out.mono ?_
    rintro e w1 ⟨bv, rfl, hb, _, a, n, c, rfl⟩
    have hb1 : Below w.heap.size w w1 := ((Below.refl _ _).alloc (Nat.le_refl _) _).trans (hb.mono (by simp))
    clear hb
    go_wp2_with fail
    go_ret2
    rw [HG.out]
    exact ⟨rfl, hb1⟩

/-- Statuses with another one. -/
def putS (l : List UInt8) (x : Int) (s : Nat) : List UInt8 :=
  l.set ((x - 1) / 4).toNat (UInt8.ofNat ((l.getD ((x - 1) / 4).toNat 0).toNat &&& (255 - 3 * 2 ^ (2 * ((x - 1) % 4)).toNat % 256) ||| s * 2 ^ (2 * ((x - 1) % 4)).toNat % 256))

theorem put_bits (c s e : Nat) (hc : c < 256) (_hs : s < 256) : bits BinOp.or IntKind.u8 (bits BinOp.andNot IntKind.u8 (c : Int) (((3 * 2 ^ e % 256 : Nat) : Int))) (((s * 2 ^ e % 256 : Nat) : Int)) = ((UInt8.ofNat (c &&& (255 - 3 * 2 ^ e % 256) ||| s * 2 ^ e % 256)).toNat : Int) := by
  rw [u8_andNot_nat _ _ hc (by omega)]
  have h1 : c &&& (255 - 3 * 2 ^ e % 256) < 256 := Nat.lt_of_le_of_lt Nat.and_le_left hc
  rw [u8_or_nat _ _ h1 (by omega)]
  congr 1
  rw [UInt8.toNat_ofNat']
  have h2 : (c &&& (255 - 3 * 2 ^ e % 256)) ||| s * 2 ^ e % 256 < 2 ^ 8 := Nat.or_lt_two_pow h1 (by omega)
  omega

end Go.Proofs.Ytklpbhajmnogeaa
