import Derived.Test.YtmhepfehcakmjaaGreatKClog2
import Derived.Test.YtmhepfehcakmjaaGreatKTup3
namespace Go.Proofs.YtmhepfehcakmjaaGreat
open Go.RowKit
theorem below_drewN' (w : World) (n : Nat) : Below w.heap.size w (w.drewN n) := ⟨rfl, rfl, rfl, Nat.le_refl _, fun _ _ => rfl⟩
set_option maxRecDepth 100000 in
set_option maxHeartbeats 2000000 in
theorem open_rest (m : Int) (p : Pg) (iv : Value) (w : World) (hi : Items w iv p.items) (h : modB m = true) (hh : openHead m p = true) (hs : ∀ x ∈ p.items, (x.length : Int) <= 9223372036854775807) : Calls Tryz.prog 65 #[.int .i64 m, pgV p iv] w (CopenPost m p w) := by
 obtain ⟨hm1, hm2, hm3⟩ := modB_bd h;have hE : openE m p = if openBody m p then 0 else 31 := by unfold openE; rw [h, hh]; simp
 simp only [openHead, Bool.and_eq_true, decide_eq_true_eq, List.isEmpty_iff] at hh;obtain ⟨⟨⟨⟨⟨⟨h1, h2⟩, h3⟩, h4⟩, h5⟩, h6⟩, h7⟩ := hh;obtain ⟨lsn, kind, level, right, high, items⟩ := p;simp only at h1 h2 h3 h4 h5 h6 h7 hi hs;subst h1 h3 h4 h5;obtain ⟨l0, l1, rfl⟩ : ∃ l0 l1, items = [l0, l1] := by
  match items, h6 with
  | [a, b], _ => exact ⟨a, b, rfl⟩
 have hs0 := hs l0 (by simp);have hs1 := hs l1 (by simp);have h7' : (l1.length : Int) = (m + 3) / 4 := by simpa using h7
 have HE := keep hE;clear hE h7 hs h6;unfold pgV;go_enter Tryz.func65, Tryz.ntmps65;go_wp2_with fail;refine (isModulus_any _ _).mono ?_;rintro e w1 ⟨rfl, hb⟩;have hB1 := (Blk.new w 24 (pgCells ⟨lsn, 1, 0, 0, [], [l0, l1]⟩ iv)).fits hb;have hb1 : Below w.heap.size w w1 := ((Below.refl _ _).alloc (Nat.le_refl _) _).trans (hb.mono (by simp));have hi1 : Items w1 iv [l0, l1] := Row.fits hi hb1;clear hb hi;unfold pgCells at hB1;have c0 := hB1.cell 0 (by simp);have c1 := hB1.cell 1 (by simp);have c2 := hB1.cell 2 (by simp);have c3 := hB1.cell 3 (by simp);have c4 := hB1.cell 4 (by simp);have c5 := hB1.cell 5 (by simp);simp only [List.getElem_cons_zero, List.getElem_cons_succ] at c0 c1 c2 c3 c4 c5;obtain ⟨c, off, cap, rfl, hcell⟩ := items_cells hi1 (by simp);have d0 := hcell 0 (by simp);have d1 := hcell 1 (by simp);simp only [List.getElem_cons_zero, List.getElem_cons_succ, Nat.add_zero] at d0 d1;have hc := World.block_lt_of_cell? _ _ d0;simp only at hc;have g2 : decide (lsn < 0) = false := by simp; omega
 have g5 : (str []).toList.isEmpty = true := by rw [str_list]; rfl
 have g7 : ((l1.length : Int) != (m + 3) / 4) = false := by simpa using h7'
 have H7 := keep h7';clear h7' hcell;have hwl := hB1.lt;go_wp2_with fail;go_quiet ((go_at_call 64; exact Calls.quiet_of_same ((csize_any m _ (by omega) hm2).mono (fun e w' ⟨a, b⟩ => ⟨a, b.symm⟩))));go_wp2_with fail;refine (rdRead _ _).mono ?_;rintro e w3 ⟨rfl, hw3⟩;have hrd3 : Rd w3 w1.heap.size (str l0) 0 := by subst hw3; exact Blk.new (w1.drewN _) _ [_, _]
 have hb3 : Below w1.heap.size w1 w3 := by subst hw3; exact (below_drewN' w1 _).alloc (Nat.le_refl _) _
 have hB3 := hB1.fits hb3;have hi3 : Items w3 (.slice (some ⟨c, off, none⟩) [l0, l1].length cap) [l0, l1] := Row.fits hi1 hb3;have hs3 : w1.heap.size < w3.heap.size := Blk.lt hrd3;clear hw3;go_wp2_with fail;have hN := rdNum_ok w1.heap.size (str l0) m w3 hrd3 (by unfold maxLen; simp; omega) (by omega);obtain ⟨X, hX⟩ : ∃ X, X = rdNumS m l0 := ⟨_, rfl⟩;rw [str_toList, <- hX] at hN;have HX := keep hX;clear hX;refine hN.mono ?_;rintro e w4 ⟨rfl, hrd4, hbt4⟩;clear hN;have hB4 := hB3.but hbt4 (by omega);have e5 := hB4.cell 5 (by simp);simp only [List.getElem_cons_zero, List.getElem_cons_succ] at e5;have d1' : w4.cell? ⟨c, off + 1, none⟩ = some (.string (str l1)) := by
  rw [hbt4.cell (by show c < _; omega) (by show c ≠ _; omega), hb3.cell (by show c < _; omega)]; exact d1
 obtain ⟨bv, w5, hcv, hbr, hb5, hform⟩ := convert_str w4 (str l1);obtain ⟨g, bc, C, f, rfl, hgb, hC1, hC2, hC3⟩ := hbr;have hlen4 : 0 < l1.length := by have := H7.out; omega
 have hlast := brow_cell hC1 hC2 ((str l1).data.toList.length - 1) (by simp; omega);have hbr : BRow w5 w4.heap.size (.slice (some ⟨g, 0, none⟩) (str l1).data.toList.length bc) (str l1).data.toList := ⟨g, bc, C, f, rfl, hgb, hC1, hC2, hC3⟩;simp only [str_toList] at hcv hlast hbr;have hLv : l1.getD (l1.length - 1) 0 = l1.getLast?.getD 0 := by
  rw [List.getLast?_eq_getElem?]; simp
 rw [hLv] at hlast;clear hform hC1 hC2 hC3 hLv;go_wp2_with fail;have hrd5 := Blk.fits hrd4 hb5;refine (rdEnd _ _ _ _ hrd5).mono ?_;rintro e w6 ⟨rfl, rfl⟩;generalize hEv : (if X.2.2 = 0 /\ 0 < (str X.2.1).size then (12 : Int) else X.2.2) = E;have hE0 : E = 0 ↔ (X.2.2 = 0 /\ X.2.1 = []) := by
  rw [<- hEv];cases hy : X.2.1 with
  | nil => simp
  | cons a l =>
   simp
   split
   ·omega
   ·assumption
 have hwb : Below w.heap.size w w5 := by
  have b3 := hb1.trans (hb3.mono (by omega));have b4 := But.below b3 hbt4 (by omega) (by omega);exact b4.trans (hb5.mono (by have := hbt4.size; omega))
 have hbody : openBody m ⟨lsn, 1, 0, 0, [], [l0, l1]⟩ = (decide (E = 0) && decide (X.1 ≠ 0) && (decide (m % 4 = 0) || decide (((l1.getLast?.getD 0).toNat : Int) / 2 ^ (2 * (m % 4)).toNat = 0))) := by
  unfold openBody;have e1 : openNum m ⟨lsn, 1, 0, 0, [], [l0, l1]⟩ = X := HX.out.symm;rw [e1, Bool.eq_iff_iff];simp only [Bool.and_eq_true, decide_eq_true_eq, hE0];simp
 have hbase : BRow w5 w.heap.size (.slice (some ⟨g, 0, none⟩) l1.length bc) l1 := by
  obtain ⟨g', cap', C, f, a1, a2, a3⟩ := hbr;exact ⟨g', cap', C, f, a1, by have := hbt4.size; omega, a3⟩
 have HB := keep hbody;have HBase := keep hbase;have hnum : openNum m ⟨lsn, 1, 0, 0, [], [l0, l1]⟩ = X := HX.out.symm;have HNum := keep hnum;clear hEv hE0 hbody hbase hnum hbr;generalize hL : ((l1.getLast?.getD 0).toNat) = L at *;clear hL e5 d1' hcv hB1 hi1 c0 c1 c2 c3 c4 c5 d0 d1 g2 g5 g7 hrd3 hB3 hi3 hrd4 hB4 hbt4 hrd5
 by_cases k1 : E = 0
 ·have k1' : (E != 0) = false := by simpa using k1
  by_cases k2 : X.1 = 0
  ·have k2' : (X.1 == 0) = true := by simpa using k2
   have hno : openBody m ⟨lsn, 1, 0, 0, [], [l0, l1]⟩ = false := by rw [HB.out]; simp [k2]
   have hno := keep hno;go_wp2_with fail;go_ret3;refine ⟨.slice none 0 0, ?_, hwb, ?_, ⟨_, _, _, rfl⟩⟩
   ·rw [HE.out, hno.out]; rfl
   ·rw [HE.out, hno.out]; intro h'; cases h'
  ·have k2' : (X.1 == 0) = false := by simpa using k2
   by_cases k3 : m % 4 = 0
   ·have hyes : openBody m ⟨lsn, 1, 0, 0, [], [l0, l1]⟩ = true := by rw [HB.out]; simp [k1, k2, k3]
    have hyes := keep hyes;go_wp2_with fail;go_ret3;refine ⟨.slice (some ⟨g, 0, none⟩) l1.length bc, ?_, hwb, fun _ => HBase.out, ⟨_, _, _, rfl⟩⟩;rw [HE.out, hyes.out, HNum.out]; rfl
   ·have k3' : m % 4 = 2 := by omega
    by_cases k4 : (L : Int) / 16 = 0
    ·have hyes : openBody m ⟨lsn, 1, 0, 0, [], [l0, l1]⟩ = true := by rw [HB.out]; simp [k1, k2, k3', k4]
     have hyes := keep hyes;have k4' : ((L : Int) / 16 != 0) = false := by simpa using k4
     go_wp2_with fail;go_ret3;refine ⟨.slice (some ⟨g, 0, none⟩) l1.length bc, ?_, hwb, fun _ => HBase.out, ⟨_, _, _, rfl⟩⟩;rw [HE.out, hyes.out, HNum.out]; rfl
    ·have hno : openBody m ⟨lsn, 1, 0, 0, [], [l0, l1]⟩ = false := by rw [HB.out]; simp [k3', k4]
     have hno := keep hno;have k4' : ((L : Int) / 16 != 0) = true := by simpa using k4
     go_wp2_with fail;go_ret3;refine ⟨.slice none 0 0, ?_, hwb, ?_, ⟨_, _, _, rfl⟩⟩
     ·rw [HE.out, hno.out]; rfl
     ·rw [HE.out, hno.out]; intro h'; cases h'
 ·have k1' : (E != 0) = true := by simpa using k1
  have hno : openBody m ⟨lsn, 1, 0, 0, [], [l0, l1]⟩ = false := by rw [HB.out]; simp [k1]
  have hno := keep hno;go_wp2_with fail;go_ret3;refine ⟨.slice none 0 0, ?_, hwb, ?_, ⟨_, _, _, rfl⟩⟩
  ·rw [HE.out, hno.out]; rfl
  ·rw [HE.out, hno.out]; intro h'; cases h'
theorem open_any (m : Int) (p : Pg) (iv : Value) (w : World) (hi : Items w iv p.items) (hs : ∀ x ∈ p.items, (x.length : Int) <= 9223372036854775807) : Calls Tryz.prog 65 #[.int .i64 m, pgV p iv] w (CopenPost m p w) := by
 cases h : modB m with
 | false => exact open_mod m p iv w h
 | true =>
  cases hh : openHead m p with
  | false => exact open_head m p iv w hi h hh
  | true => exact open_rest m p iv w hi h hh hs
theorem openE_zero {m : Int} {p : Pg} (h : openE m p = 0) : modB m = true /\ openHead m p = true /\ openBody m p = true := by
 unfold openE at h
 split at h
 ·split at h
  ·rename_i h1 h2
   rw [Bool.and_eq_true] at h2;exact ⟨h1, h2.1, h2.2⟩
  ·cases h
 ·cases h
theorem openE_len {m : Int} {p : Pg} (h : openE m p = 0) : p.items.length = 2 /\ ((p.items.getD 1 []).length : Int) = (m + 3) / 4 /\ p.kind = 1 /\ 0 <= p.lsn /\ p.level = 0 /\ p.right = 0 /\ p.high = [] := by
 have := (openE_zero h).2.1;unfold openHead at this;simp only [Bool.and_eq_true, decide_eq_true_eq, List.isEmpty_iff] at this;obtain ⟨⟨⟨⟨⟨⟨h1, h2⟩, h3⟩, h4⟩, h5⟩, h6⟩, h7⟩ := this;exact ⟨h6, h7, h1, h2, h3, h4, h5⟩
def putS (l : List UInt8) (x : Int) (s : Nat) : List UInt8 :=
 l.set ((x - 1) / 4).toNat (UInt8.ofNat ((l.getD ((x - 1) / 4).toNat 0).toNat &&& (255 - 3 * 2 ^ (2 * ((x - 1) % 4)).toNat % 256) ||| s * 2 ^ (2 * ((x - 1) % 4)).toNat % 256))
theorem put_bits (c s e : Nat) (hc : c < 256) (_hs : s < 256) : bits BinOp.or IntKind.u8 (bits BinOp.andNot IntKind.u8 (c : Int) (((3 * 2 ^ e % 256 : Nat) : Int))) (((s * 2 ^ e % 256 : Nat) : Int)) = ((UInt8.ofNat (c &&& (255 - 3 * 2 ^ e % 256) ||| s * 2 ^ e % 256)).toNat : Int) := by
 rw [u8_andNot_nat _ _ hc (by omega)];have h1 : c &&& (255 - 3 * 2 ^ e % 256) < 256 := Nat.lt_of_le_of_lt Nat.and_le_left hc;rw [u8_or_nat _ _ h1 (by omega)]
 congr 1
 rw [UInt8.toNat_ofNat'];have h2 : (c &&& (255 - 3 * 2 ^ e % 256)) ||| s * 2 ^ e % 256 < 2 ^ 8 := Nat.or_lt_two_pow h1 (by omega);omega
attribute [local go_sem] gives givesUpon_value givesUpon_skip givesUpon_enter
theorem brow_set {w : World} {base g cap : Nat} {C : Array Value} {f : Nat × Nat} {l : List UInt8} (hgb : base <= g) (h3 : w.heap[g]? = some (.cells C 5 f)) (h4 : ∀ j, j < l.length -> C[j]? = some (.int .u8 (l.getD j 0).toNat)) (h5 : l.length <= C.size)
  (h6 : C.size <= f.1 \/ f = (0, 0)) (q : Nat) (hq : q < l.length) (c : UInt8) : BRow (w.setCell ⟨g, q, none⟩ (.int .u8 c.toNat)) base (.slice (some ⟨g, 0, none⟩) l.length cap) (l.set q c) := by
 refine ⟨g, cap, C.setIfInBounds q (.int .u8 c.toNat), f, by simp, hgb, ?_, ?_, by simpa using h5, by simpa using h6⟩
 ·simp only [World.setCell, Array.getElem?_modify, if_true, h3];simp
 ·intro j hj;rw [List.length_set] at hj
  by_cases hjq : j = q
  ·subst hjq;rw [Array.getElem?_setIfInBounds_self_of_lt (by omega)];simp [hj]
  ·rw [Array.getElem?_setIfInBounds_ne (fun e => hjq e.symm), h4 j hj];simp [List.getElem?_set_ne (fun e => hjq e.symm)]
set_option maxRecDepth 100000 in
set_option maxHeartbeats 1000000 in
theorem cput_any (base : Nat) (v : Value) (l : List UInt8) (x : Int) (s : Nat) (w : World) (hb : BRow w base v l) (hx1 : 1 <= x) (hx2 : x <= 1024) (hq1 : ((x - 1) / 4).toNat < l.length) (hs : s < 256) (_hll : (l.length : Int) <= 9223372036854775807) :
  Calls Tryz.prog 66 #[v, .int .i64 x, .int .u8 s] w fun e w' => e = .returned (.tuple #[]) /\ BRow w' base v (putS l x s) /\ Below base w w' := by
 obtain ⟨g, cap, C, f, rfl, hgb, hC1, hC2, hC3, hC4⟩ := hb;have hcell : w.cell? ⟨g, ((x - 1) / 4).toNat, none⟩ = some (.int .u8 (l.getD ((x - 1) / 4).toNat 0).toNat) := brow_cell hC1 hC2 _ hq1;have hfree : w.frozen? ⟨g, ((x - 1) / 4).toNat, none⟩ = false := brow_free hC1 hC3 hC4 _ hq1;have hpb := put_bits (l.getD ((x - 1) / 4).toNat 0).toNat s (2 * ((x - 1) % 4)).toNat (l.getD ((x - 1) / 4).toNat 0).toNat_lt hs;have Hpb := keep hpb;have hi0 : 0 <= (x - 1) / 4 := by omega
 have hi1 : (x - 1) / 4 < (l.length : Int) := by omega
 have hf0 : 0 <= 2 * ((x - 1) % 4) := by omega
 have hf1 : 2 * ((x - 1) % 4) <= 6 := by omega
 have HC1 := keep hC1;have HC2 := keep hC2;have HC3 := keep hC3;have HC4 := keep hC4;clear hC1 hC2 hC3 hC4 hpb;go_enter Tryz.func66, Tryz.ntmps66;go_wp2_with fail;refine (place_any x _ hx1 hx2).mono ?_;rintro e w1 ⟨rfl, rfl⟩;go_wp2_with fail;have hcells : ∀ u, Grow w.drew u -> u.cell? ⟨g, ((x - 1) / 4).toNat, none⟩ = some (.int .u8 (l.getD ((x - 1) / 4).toNat 0).toNat) := fun u hu => (hu.cell (p := ⟨g, ((x - 1) / 4).toNat, none⟩) (lt_of_block HC1.out)).trans hcell
 have Hcells := keep hcells;clear hcells;refine wp_region_grow (by kernel_rfl) 13 (by kernel_rfl) [(13, 0), (14, 1), (15, 2), (16, 3), (17, 4), (18, 5), (19, 6), (20, 7), (21, 8), (22, 9), (23, 10), (24, 11), (25, 12)] (by kernel_rfl) [(0, true), (1, true), (2, true), (3, true), (4, true), (5, true), (6, true), (7, true), (8, true), (9, true), (10, true), (11, true), (12, true)] (by kernel_rfl) rfl rfl ?_;apply lex_eq [] [(14, 1), (15, 2), (16, 3), (17, 4), (18, 5), (19, 6), (20, 7), (21, 8), (22, 9), (23, 10), (24, 11), (25, 12)] (by kernel_rfl) (by kernel_rfl) rfl
 ·intro xs w hw hp K hK;simp only [putAll];go_simp;exact hK _ (Grow.refl _)
 apply lex_eq [] [(13, 0), (15, 2), (16, 3), (17, 4), (18, 5), (19, 6), (20, 7), (21, 8), (22, 9), (23, 10), (24, 11), (25, 12)] (by kernel_rfl) (by kernel_rfl) rfl
 ·intro xs w hw hp K hK;simp only [putAll];go_simp;exact hK _ (Grow.refl _)
 apply lex_eq [] [(13, 0), (14, 1), (16, 3), (18, 5), (19, 6), (20, 7), (21, 8), (22, 9), (23, 10), (24, 11), (25, 12)] (by kernel_rfl) (by kernel_rfl) rfl
 ·intro xs w hw hp K hK;simp only [putAll];go_simp;exact hK _ (Grow.refl _)
 apply lex_eq [] [(13, 0), (14, 1), (15, 2), (18, 5), (19, 6), (20, 7), (21, 8), (22, 9), (23, 10), (24, 11), (25, 12)] (by kernel_rfl) (by kernel_rfl) rfl
 ·intro xs w hw hp K hK;simp only [putAll];go_simp;exact hK _ (Grow.refl _)
 apply lex_eq [(2, true), (3, true)] [(13, 0), (14, 1), (15, 2), (16, 3), (19, 6), (20, 7), (21, 8), (22, 9), (23, 10), (24, 11), (25, 12)] (by kernel_rfl) (by kernel_rfl) rfl
 ·intro xs w hw hp K hK;simp only [hz] at hp;simp only [putAll];go_simp;exact hK _ (Grow.refl _)
 apply lex_eq [(4, true)] [(13, 0), (14, 1), (15, 2), (16, 3), (17, 4), (19, 6), (20, 7), (22, 9), (23, 10), (24, 11), (25, 12)] (by kernel_rfl) (by kernel_rfl) rfl
 ·intro xs w hw hp K hK;simp only [hz] at hp;simp only [putAll];have hc5 := Hcells.out w hw;go_simp;exact hK _ (Grow.refl _)
 apply lex_eq [] [(13, 0), (14, 1), (15, 2), (16, 3), (17, 4), (18, 5), (21, 8), (22, 9), (23, 10), (24, 11), (25, 12)] (by kernel_rfl) (by kernel_rfl) rfl
 ·intro xs w hw hp K hK;simp only [putAll];go_simp;exact hK _ (Grow.refl _)
 apply lex_eq [(6, true)] [(13, 0), (14, 1), (15, 2), (16, 3), (17, 4), (18, 5), (19, 6), (22, 9), (23, 10), (24, 11), (25, 12)] (by kernel_rfl) (by kernel_rfl) rfl
 ·intro xs w hw hp K hK;simp only [hz] at hp;simp only [putAll];go_simp;exact hK _ (Grow.refl _)
 apply lex_eq [(5, true), (7, true)] [(13, 0), (14, 1), (15, 2), (16, 3), (17, 4), (18, 5), (19, 6), (20, 7), (22, 9), (23, 10), (24, 11)] (by kernel_rfl) (by kernel_rfl) rfl
 ·intro xs w hw hp K hK;simp only [hz] at hp;simp only [putAll];go_simp;exact hK _ (Grow.refl _)
 apply lex_eq [] [(13, 0), (14, 1), (15, 2), (16, 3), (17, 4), (18, 5), (19, 6), (20, 7), (21, 8), (23, 10), (25, 12)] (by kernel_rfl) (by kernel_rfl) rfl
 ·intro xs w hw hp K hK;simp only [putAll];go_simp;exact hK _ (Grow.refl _)
 apply lex_eq [] [(13, 0), (14, 1), (15, 2), (16, 3), (17, 4), (18, 5), (19, 6), (20, 7), (21, 8), (22, 9), (25, 12)] (by kernel_rfl) (by kernel_rfl) rfl
 ·intro xs w hw hp K hK;simp only [putAll];go_simp;exact hK _ (Grow.refl _)
 apply lex_eq [(9, true), (10, true)] [(13, 0), (14, 1), (15, 2), (16, 3), (17, 4), (18, 5), (19, 6), (20, 7), (21, 8), (22, 9), (23, 10)] (by kernel_rfl) (by kernel_rfl) rfl
 ·intro xs w hw hp K hK;simp only [hz] at hp;simp only [putAll];go_simp;exact hK _ (Grow.refl _)
 apply lex_eq [(8, true), (11, true)] [(13, 0), (14, 1), (15, 2), (16, 3), (17, 4), (18, 5), (19, 6), (20, 7), (21, 8), (22, 9), (23, 10), (24, 11)] (by kernel_rfl) (by kernel_rfl) rfl
 ·intro xs w hw hp K hK;simp only [hz] at hp;simp only [putAll];go_simp;exact hK _ (Grow.refl _)
 intro xs w hw hp;simp only [hz] at hp;simp only [putAll, hp, List.drop_succ_cons, List.drop_zero];have hcw := Hcells.out w hw;have hfw : w.frozen? ⟨g, ((x - 1) / 4).toNat, none⟩ = false := (hw.frozen (p := ⟨g, ((x - 1) / 4).toNat, none⟩) (lt_of_block HC1.out)).trans hfree;go_wp2;go_end0;have e1 : (3 : Int) * 2 ^ (2 * ((x - 1) % 4)).toNat % 256 = ((3 * 2 ^ (2 * ((x - 1) % 4)).toNat % 256 : Nat) : Int) := by push_cast; rfl
 have e2 : (s : Int) * 2 ^ (2 * ((x - 1) % 4)).toNat % 256 = ((s * 2 ^ (2 * ((x - 1) % 4)).toNat % 256 : Nat) : Int) := by push_cast; rfl
 have e3 : l[((x - 1) / 4).toNat] = l.getD ((x - 1) / 4).toNat 0 := by simp [hq1]
 rw [e1, e2, e3, Hpb.out];refine ⟨rfl, brow_set hgb (w := w) ?_ HC2.out HC3.out HC4.out _ hq1 _, ?_⟩
 ·rw [Grow.undrew hw |>.block g (lt_of_block HC1.out)]; exact HC1.out
 ·exact ((Below.mono (Grow.undrew hw) (by have := lt_of_block HC1.out; omega)).setCell hgb _)
def madeP (n : Nat) (l : List UInt8) (lsn : Int) : Pg := { lsn := lsn, kind := 1, level := 0, right := 0, high := [], items := [sev n, l] }
set_option maxRecDepth 100000 in
set_option maxHeartbeats 1000000 in
theorem made_any (n : Nat) (v : Value) (l : List UInt8) (lsn : Int) (w_ : World) (hn : (n : Int) <= 9223372036854775807) (hcv : ∀ u, Grow w_ u -> (convert 122 9 v).run Tryz.prog u = .ok (.string (str l)) u) :
  Calls Tryz.prog 63 #[.int .i64 n, v, .int .i64 lsn] w_ fun e w' => ∃ iv, e = .returned (pgV (madeP n l lsn) iv) /\ ItemsS w' iv [sev n, l] /\ Below w_.heap.size w_ w' := by
 have Hcv := keep hcv;clear hcv;go_enter Tryz.func63, Tryz.ntmps63;go_wp2_with fail;generalize hw0 : w_.alloc (.cells #[.int .i64 0, .int .i64 0, .int .i64 0, .int .i64 0, .string ⟨#[]⟩, .slice none 0 0] 24) = w0;have hB0 : Blk w0 w_.heap.size 24 [.int .i64 0, .int .i64 0, .int .i64 0, .int .i64 0, .string ⟨#[]⟩, .slice none 0 0] := by subst hw0; exact Blk.new w_ _ _
 have hg0 : Grow w_ w0 := by subst hw0; exact (Grow.refl w_).alloc _
 have hlt0 := hB0.lt;clear hw0;refine (wrNew w0).mono ?_;rintro e w1 ⟨rfl, hW1, hb1⟩;go_wp2_with fail;have hnm := wrNum_some w0.heap.size [] [(n : Int)] w1.heap.size 0 1 #[.int .i64 n] (0, 0) (w1.alloc (.cells #[.int .i64 n] 3)) (hW1.alloc _) (by show (w1.heap.push _)[_]? = _; simp)
  (by intro j hj; simp at hj; subst hj; rfl) (by intro j hj; simp at hj; subst hj; simp; omega) (by simp)
 refine hnm.mono ?_;rintro e w3 ⟨rfl, hW3, hb3⟩;clear hnm;have hs1 := hb1.size;have hB3 : Blk w3 w_.heap.size 24 [.int .i64 0, .int .i64 0, .int .i64 0, .int .i64 0, .string ⟨#[]⟩, .slice none 0 0] := ((hB0.fits hb1).alloc _).below hb3 hlt0;have hg3 : Grow w_ w3 := Below.trans hg0 (((hb1.alloc hs1 _).trans hb3).mono hg0.size);have hsev : [] ++ sevs [(n : Int)] = sev n := by simp [sevs]
 rw [hsev] at hW3;have hWu : ∀ u, Grow w3.drew u -> Wr u w0.heap.size (sev n) := fun u hu => Wr.grow (w := w3.drew) hW3 hu
 have hCu : ∀ u, Grow w3.drew u -> (convert 122 9 v).run Tryz.prog u = .ok (.string (str l)) u := fun u hu => Hcv.out u (Grow.trans hg3 hu.undrew)
 have HW := keep hWu;have HC := keep hCu;clear hWu hCu hsev hW1 hW3;go_wp2_with fail;refine wp_region_grow (by kernel_rfl) 6 (by kernel_rfl) [(13, 0), (14, 1), (15, 2), (16, 3), (17, 4), (18, 5)] (by kernel_rfl) [(0, true), (1, true), (2, true), (3, true), (4, true), (5, true)] (by kernel_rfl) rfl rfl ?_;apply lex_eq [] [(14, 1), (15, 2), (16, 3), (17, 4), (18, 5)] (by kernel_rfl) (by kernel_rfl) rfl
 ·intro xs w hw hp K hK;simp only [putAll];go_simp;exact hK _ (Grow.refl _)
 apply lex_eq [] [(13, 0), (16, 3), (17, 4), (18, 5), (19, 6)] (by kernel_rfl) (by kernel_rfl) rfl
 ·intro xs w hw hp K hK;simp only [putAll];go_simp;exact hK _ (Grow.refl _)
 apply lex_eq [(1, true)] [(13, 0), (14, 1), (16, 3), (17, 4), (19, 6)] (by kernel_rfl) (by kernel_rfl) rfl
 ·intro xs w hw hp K hK;simp only [hz] at hp;simp only [putAll];go_simp;refine (wrBytes _ _ _ (HW.out w hw)).mono ?_; rintro e w' ⟨rfl, rfl⟩; exact ⟨_, rfl, hK _ (Grow.refl _)⟩
 apply lex_eq [] [(13, 0), (14, 1), (15, 2), (18, 5), (19, 6)] (by kernel_rfl) (by kernel_rfl) rfl
 ·intro xs w hw hp K hK;simp only [putAll];go_simp;exact hK _ (Grow.refl _)
 apply lex_eq [(3, true)] [(13, 0), (14, 1), (15, 2), (16, 3), (19, 6)] (by kernel_rfl) (by kernel_rfl) rfl
 ·intro xs w hw hp K hK;simp only [hz] at hp;simp only [putAll];have hcv := HC.out w hw;go_simp;exact hK _ (Grow.refl _)
 refine lex_says (fun v u => ∃ b, v = .slice (some ⟨b, 0, none⟩) 2 2 /\ Blk u b 9 [.string (str (sev n)), .string (str l)] /\ w3.heap.size <= b) (fun v u u' hg ⟨b, h1, h2, h3⟩ => ⟨b, h1, Blk.fits h2 hg, h3⟩) [(2, true), (4, true)] [(13, 0), (14, 1), (15, 2), (16, 3), (17, 4)] (by kernel_rfl) (by kernel_rfl) rfl ?_ ?_
 ·intro xs w hw hp K hK;simp only [hz] at hp;simp only [putAll];go_simp;exact hK _ _ ⟨_, rfl, Blk.new w _ [_, _], by simpa using hw.size⟩ ((Grow.refl w).alloc _)
 intro xs w hw hp;simp only [hz] at hp;simp only [putAll, hp, List.drop_succ_cons, List.drop_zero];obtain ⟨_, _, _, _, _, b, hp5, hBs, hbs⟩ := hp;simp only [hp5];have hB4 := hB3.fits (Grow.undrew hw);have c0 := hB4.cell 0 (by simp);have c1 := hB4.cell 1 (by simp);have c2 := hB4.cell 2 (by simp);have c3 := hB4.cell 3 (by simp);have c4 := hB4.cell 4 (by simp);have c5 := hB4.cell 5 (by simp);have f0 := hB4.free 0;have f1 := hB4.free 1;have f2 := hB4.free 2;have f3 := hB4.free 3;have f4 := hB4.free 4;have f5 := hB4.free 5;have hset := pgset hB4 (.int .i64 lsn) (.int .i64 1) (.int .i64 0) (.int .i64 0) (.string ⟨#[]⟩) (.slice (some ⟨b, 0, none⟩) 2 2);have hbut := pgbut w w_.heap.size (.int .i64 lsn) (.int .i64 1) (.int .i64 0) (.int .i64 0) (.string ⟨#[]⟩) (.slice (some ⟨b, 0, none⟩) 2 2);have Hset := keep hset;have Hbut := keep hbut;have hi : ItemsS w (.slice (some ⟨b, 0, none⟩) 2 2) [sev n, l] := RowS.blk hBs 2 2 _ 0 (by intro j hj; simp [sCells]);have Hi := keep hi;clear hset hbut hi;go_wp2;refine bodyPost_ret (v := pgV (madeP n l lsn) (.slice (some ⟨b, 0, none⟩) 2 2)) ?_ rfl ⟨_, rfl, items_but Hi.out Hbut.out hB4 (by decide), ?_⟩
 ·have r0 := Hset.out.cell 0 (by simp);have r1 := Hset.out.cell 1 (by simp);have r2 := Hset.out.cell 2 (by simp);have r3 := Hset.out.cell 3 (by simp);have r4 := Hset.out.cell 4 (by simp);have r5 := Hset.out.cell 5 (by simp);simp [results, Tryz.results63, go_sem, r0, r1, r2, r3, r4, r5, pgV, madeP]
  rfl
 ·exact But.below (Grow.trans hg3 (Grow.undrew hw)) Hbut.out (Nat.le_refl _) (by have := (Grow.undrew hw).size; have := hg3.size; omega)
end Go.Proofs.YtmhepfehcakmjaaGreat
namespace Go.Proofs.YtmhepfehcakmjaaGreat
open Go.RowKit
def noPg : Pg := { lsn := 0, kind := 0, level := 0, right := 0, high := [], items := [] }
def pg0 : List Value := [.int .i64 0, .int .i64 0, .int .i64 0, .int .i64 0, .string ⟨#[]⟩, .slice none 0 0]
def CpgPost (P : Pg) (c : Int) (w : World) (e : Ending) (w' : World) : Prop := ∃ iv, e = .returned (.tuple #[pgV P iv, .int .i64 c]) /\ ItemsS w' iv P.items /\ Below w.heap.size w w'
def setS (m : Int) (p : Pg) (x : Int) (s : Nat) : Pg × Int :=
 if openE m p = 0 then if idsB m [x] && decide (s <= 3) then (madeP (openNum m p).1.toNat (putS (p.items.getD 1 []) x s) p.lsn, 0) else (noPg, 1) else (noPg, openE m p)
set_option maxRecDepth 100000 in
set_option maxHeartbeats 1000000 in
theorem set_bad (m : Int) (p : Pg) (iv : Value) (x : Int) (s : Nat) (w : World) (hi : Items w iv p.items) (hs : ∀ x ∈ p.items, (x.length : Int) <= 9223372036854775807) (h0 : openE m p ≠ 0) :
  Calls Tryz.prog 38 #[.int .i64 m, pgV p iv, .int .i64 x, .int .u8 s] w (CpgPost noPg (openE m p) w) := by
 obtain ⟨w0, hw0⟩ : ∃ w0, w0 = (w.alloc (.cells (pgCells p iv).toArray 24)).alloc (.cells #[.int .i64 0, .int .i64 0, .int .i64 0, .int .i64 0, .string ⟨#[]⟩, .slice none 0 0] 24) := ⟨_, rfl⟩;have hg0 : Grow w w0 := by subst hw0; exact ((Grow.refl w).alloc _).alloc _
 have hBb : Blk w0 w.heap.size 24 (pgCells p iv) := by subst hw0; exact (Blk.new w _ _).alloc _
 have hB0 : Blk w0 (w.heap.size + 1) 24 pg0 := by
  have := Blk.new (w.alloc (.cells (pgCells p iv).toArray 24)) 24 pg0;have e : (w.alloc (.cells (pgCells p iv).toArray 24)).heap.size = w.heap.size + 1 := by simp
  rw [e] at this;subst hw0; exact this
 have ho := open_any m p iv w0 (hi.fits hg0) hs;unfold pgV CopenPost at ho;rw [if_neg h0] at ho;unfold pgCells at hw0 hBb;have h0' : (openE m p != 0) = true := by simpa using h0
 generalize openE m p = E at *;have Ho := keep ho;clear ho h0 hi hs;unfold pgV;go_enter Tryz.func38, Tryz.ntmps38;obtain ⟨c0, c1, c2, c3, c4, c5, f0, f1, f2, f3, f4, f5⟩ := pgres hBb;go_wp2_with fail;rw [<- hw0];refine Ho.out.mono ?_;rintro e w1 ⟨bv, rfl, hb, _, a, n, c, rfl⟩;have hg1 := Grow.trans hg0 hb;have hB1 := hB0.fits hb;clear hw0 hg0 hBb hB0 c0 c1 c2 c3 c4 c5 f0 f1 f2 f3 f4 f5 hb Ho;obtain ⟨c0, c1, c2, c3, c4, c5, f0, f1, f2, f3, f4, f5⟩ := pgres hB1;have hset := pgset hB1 (.int .i64 0) (.int .i64 0) (.int .i64 0) (.int .i64 0) (.string ⟨#[]⟩) (.slice none 0 0);have hbut := pgbut w1 (w.heap.size + 1) (.int .i64 0) (.int .i64 0) (.int .i64 0) (.int .i64 0) (.string ⟨#[]⟩) (.slice none 0 0);have Hset := keep hset;have Hbut := keep hbut;clear hset hbut;go_wp2_with fail;refine bodyPost_ret (v := .tuple #[pgV noPg (.slice none 0 0), .int .i64 E]) ?_ rfl ⟨_, rfl, RowS.nil _ _ _ _, But.below hg1 Hbut.out (by omega) (Below.size hg1)⟩;obtain ⟨r0, r1, r2, r3, r4, r5, _⟩ := pgres Hset.out;simp [results, Tryz.results38, go_sem, r0, r1, r2, r3, r4, r5, pgV, noPg]
 rfl
set_option maxRecDepth 100000 in
set_option maxHeartbeats 1000000 in
theorem set_arg (m : Int) (p : Pg) (iv : Value) (x : Int) (s : Nat) (w : World) (hi : Items w iv p.items) (hs : ∀ x ∈ p.items, (x.length : Int) <= 9223372036854775807) (h0 : openE m p = 0) (h1 : (idsB m [x] && decide (s <= 3)) = false) (hs8 : s < 256) :
  Calls Tryz.prog 38 #[.int .i64 m, pgV p iv, .int .i64 x, .int .u8 s] w (CpgPost noPg 1 w) := by
 obtain ⟨w0, hw0⟩ : ∃ w0, w0 = (w.alloc (.cells (pgCells p iv).toArray 24)).alloc (.cells #[.int .i64 0, .int .i64 0, .int .i64 0, .int .i64 0, .string ⟨#[]⟩, .slice none 0 0] 24) := ⟨_, rfl⟩;have hg0 : Grow w w0 := by subst hw0; exact ((Grow.refl w).alloc _).alloc _
 have hBb : Blk w0 w.heap.size 24 (pgCells p iv) := by subst hw0; exact (Blk.new w _ _).alloc _
 have hB0 : Blk w0 (w.heap.size + 1) 24 pg0 := by
  have := Blk.new (w.alloc (.cells (pgCells p iv).toArray 24)) 24 pg0;have e : (w.alloc (.cells (pgCells p iv).toArray 24)).heap.size = w.heap.size + 1 := by simp
  rw [e] at this;subst hw0; exact this
 have ho := open_any m p iv w0 (hi.fits hg0) hs;unfold pgV CopenPost at ho;rw [if_pos h0] at ho;unfold pgCells at hw0 hBb;rw [h0] at ho;generalize (openNum m p).1 = F at *;generalize p.items.getD 1 [] = l at *;have Ho := keep ho;clear ho h0 hi hs;unfold pgV;go_enter Tryz.func38, Tryz.ntmps38;obtain ⟨c0, c1, c2, c3, c4, c5, f0, f1, f2, f3, f4, f5⟩ := pgres hBb;go_wp2_with fail;rw [<- hw0];refine Ho.out.mono ?_;rintro e w1 ⟨bv, rfl, hb, hbr, a, n, c, rfl⟩;have hg1 := Grow.trans hg0 hb;have hB1 := hB0.fits hb;clear hw0 hg0 hBb hB0 c0 c1 c2 c3 c4 c5 f0 f1 f2 f3 f4 f5 hb Ho hbr;go_wp2_with fail;refine (isID_any _ _ _).mono ?_;rintro e w2 ⟨rfl, hb2⟩;have hg2 := Grow.trans hg1 hb2;have hB2 := hB1.fits hb2;obtain ⟨c0, c1, c2, c3, c4, c5, f0, f1, f2, f3, f4, f5⟩ := pgres hB2;have hset := pgset hB2 (.int .i64 0) (.int .i64 0) (.int .i64 0) (.int .i64 0) (.string ⟨#[]⟩) (.slice none 0 0);have hbut := pgbut w2 (w.heap.size + 1) (.int .i64 0) (.int .i64 0) (.int .i64 0) (.int .i64 0) (.string ⟨#[]⟩) (.slice none 0 0);have Hset := keep hset;have Hbut := keep hbut;clear hset hbut hB1 hg1 hb2;cases hB : idsB m [x] with
 | false =>
  go_wp2_with fail;refine bodyPost_ret (v := .tuple #[pgV noPg (.slice none 0 0), .int .i64 1]) ?_ rfl ⟨_, rfl, RowS.nil _ _ _ _, But.below hg2 Hbut.out (by omega) (Below.size hg2)⟩;obtain ⟨r0, r1, r2, r3, r4, r5, _⟩ := pgres Hset.out;simp [results, Tryz.results38, go_sem, r0, r1, r2, r3, r4, r5, pgV, noPg]
  rfl
 | true =>
  have hs3 : (3 : Int) < (s : Int) := by rw [hB] at h1; simp at h1; omega
  go_wp2_with fail;refine bodyPost_ret (v := .tuple #[pgV noPg (.slice none 0 0), .int .i64 1]) ?_ rfl ⟨_, rfl, RowS.nil _ _ _ _, But.below hg2 Hbut.out (by omega) (Below.size hg2)⟩;obtain ⟨r0, r1, r2, r3, r4, r5, _⟩ := pgres Hset.out;simp [results, Tryz.results38, go_sem, r0, r1, r2, r3, r4, r5, pgV, noPg]
  rfl
set_option maxRecDepth 100000 in
set_option maxHeartbeats 1000000 in
theorem set_ok (m : Int) (p : Pg) (iv : Value) (x : Int) (s : Nat) (w : World) (hi : Items w iv p.items) (hs : ∀ x ∈ p.items, (x.length : Int) <= 9223372036854775807) (h0 : openE m p = 0) (hB : idsB m [x] = true) (hs3 : s <= 3) :
  Calls Tryz.prog 38 #[.int .i64 m, pgV p iv, .int .i64 x, .int .u8 s] w (CpgPost (madeP (openNum m p).1.toNat (putS (p.items.getD 1 []) x s) p.lsn) 0 w) := by
 obtain ⟨_, hx1, hx2⟩ := idsB_one hB;obtain ⟨hm1, hm2, _⟩ := modB_bd (openE_zero h0).1;have hll := (openE_len h0).2.1;have hF : 0 <= (openNum m p).1 /\ (openNum m p).1 <= 1024 := by
  have hb := (openE_zero h0).2.2;unfold openBody at hb;simp only [Bool.and_eq_true, decide_eq_true_eq] at hb;have := rdNumS_facts m (p.items.getD 0 []);have h5 := (this.2.2.2.2 hb.1.1.1).1;unfold openNum;omega
 obtain ⟨fn, hfn⟩ := Int.eq_ofNat_of_zero_le hF.1;obtain ⟨w0, hw0⟩ : ∃ w0, w0 = (w.alloc (.cells (pgCells p iv).toArray 24)).alloc (.cells #[.int .i64 0, .int .i64 0, .int .i64 0, .int .i64 0, .string ⟨#[]⟩, .slice none 0 0] 24) := ⟨_, rfl⟩;have hg0 : Grow w w0 := by subst hw0; exact ((Grow.refl w).alloc _).alloc _
 have hBb : Blk w0 w.heap.size 24 (pgCells p iv) := by subst hw0; exact (Blk.new w _ _).alloc _
 have hB0 : Blk w0 (w.heap.size + 1) 24 pg0 := by
  have := Blk.new (w.alloc (.cells (pgCells p iv).toArray 24)) 24 pg0;have e : (w.alloc (.cells (pgCells p iv).toArray 24)).heap.size = w.heap.size + 1 := by simp
  rw [e] at this;subst hw0; exact this
 have ho := open_any m p iv w0 (hi.fits hg0) hs;unfold pgV CopenPost at ho;rw [if_pos h0] at ho;unfold pgCells at hw0 hBb;rw [h0] at ho;rw [hfn] at ho hF ⊢;rw [Int.toNat_natCast];generalize p.items.getD 1 [] = l at *;have hq1 : ((x - 1) / 4).toNat < l.length := by omega
 have HL := keep hll;have hl2 : (l.length : Int) <= 9223372036854775807 := by omega
 have Ho := keep ho;have HF := keep hF;clear ho h0 hi hs hfn hF hll;unfold pgV;go_enter Tryz.func38, Tryz.ntmps38;obtain ⟨c0, c1, c2, c3, c4, c5, f0, f1, f2, f3, f4, f5⟩ := pgres hBb;go_wp2_with fail;rw [<- hw0];refine Ho.out.mono ?_;rintro e w1 ⟨bv, rfl, hb, hbr, a, n, c, rfl⟩;have hg1 := Grow.trans hg0 hb;have hB1 := hB0.fits hb;have hb1 := hBb.fits hb;have hR1 := hbr trivial;clear hw0 c0 c1 c2 c3 c4 c5 f0 f1 f2 f3 f4 f5 hb Ho hbr;go_wp2_with fail;refine (isID_any _ _ _).mono ?_;rintro e w2 ⟨rfl, hb2⟩;have hg2 := Grow.trans hg1 hb2;have hB2 := hB1.fits hb2;have hbb2 := hb1.fits hb2;have hR2 := hR1.fits hb2;have hs3' : (s : Int) <= 3 := by omega
 clear hg1 hB1 hb1 hR1;go_wp2_with fail;refine (cput_any _ _ _ x s w2 hR2 hx1 (by omega) hq1 (by omega) hl2).mono ?_;rintro e w3 ⟨rfl, hR3, hb3⟩;have hz0 := hb2.size;have hz1 := hg0.size;have hl0 := hBb.lt;have hl1 := hB0.lt;have hg3 : Grow w w3 := Below.trans hg2 (hb3.mono (by omega));have hB3 := hB2.below hb3 (by omega);have hbb3 := hbb2.below hb3 (by omega);obtain ⟨c0, c1, c2, c3, c4, c5, f0, f1, f2, f3, f4, f5⟩ := pgres hbb3;clear hg2 hB2 hbb2 hb3 hb2 hR2;go_wp2_with fail;refine (made_any fn _ (putS l x s) p.lsn w3 (by have := HF.out; omega) (fun u hu => (hR3.fits hu).converts)).mono ?_;rintro e w4 ⟨iv', rfl, hit, hb4⟩;have hB4 := hB3.fits hb4;have hg4 := Grow.trans hg3 hb4;obtain ⟨iva, ivc, hivf⟩ : ∃ a c, iv' = .slice a 2 c := items_form hit.weak;subst hivf;clear c0 c1 c2 c3 c4 c5 f0 f1 f2 f3 f4 f5 hbb3 hB3 hR3;obtain ⟨c0, c1, c2, c3, c4, c5, f0, f1, f2, f3, f4, f5⟩ := pgres hB4;have hset := pgset hB4 (.int .i64 p.lsn) (.int .i64 1) (.int .i64 0) (.int .i64 0) (.string (str [])) (.slice iva 2 ivc);have hbut := pgbut w4 (w.heap.size + 1) (.int .i64 p.lsn) (.int .i64 1) (.int .i64 0) (.int .i64 0) (.string (str [])) (.slice iva 2 ivc);have Hset := keep hset;have Hbut := keep hbut;have Hit := keep hit;clear hset hbut hit;unfold pgV madeP;go_wp2_with fail;refine bodyPost_ret (v := .tuple #[pgV (madeP fn (putS l x s) p.lsn) (.slice iva 2 ivc), .int .i64 0]) ?_ rfl ?_
 ·obtain ⟨r0, r1, r2, r3, r4, r5, _⟩ := pgres Hset.out;simp [results, Tryz.results38, go_sem, r0, r1, r2, r3, r4, r5, pgV, madeP]
 ·exact ⟨_, rfl, items_but Hit.out Hbut.out hB4 (by decide), But.below hg4 Hbut.out (by omega) (Below.size hg4)⟩
theorem set_any (m : Int) (p : Pg) (iv : Value) (x : Int) (s : Nat) (w : World) (hi : Items w iv p.items) (hs : ∀ x ∈ p.items, (x.length : Int) <= 9223372036854775807) (hs8 : s < 256) :
  Calls Tryz.prog 38 #[.int .i64 m, pgV p iv, .int .i64 x, .int .u8 s] w (CpgPost (setS m p x s).1 (setS m p x s).2 w) := by
 unfold setS
 by_cases h0 : openE m p = 0
 ·rw [if_pos h0];cases h1 : (idsB m [x] && decide (s <= 3)) with
  | false => exact set_arg m p iv x s w hi hs h0 h1 hs8
  | true =>
   simp only [Bool.and_eq_true, decide_eq_true_eq] at h1;exact set_ok m p iv x s w hi hs h0 h1.1 h1.2
 ·rw [if_neg h0];exact set_bad m p iv x s w hi hs h0
end Go.Proofs.YtmhepfehcakmjaaGreat
