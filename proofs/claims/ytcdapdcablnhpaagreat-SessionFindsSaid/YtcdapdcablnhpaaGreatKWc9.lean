import Derived.Test.YtcdapdcablnhpaaGreatKOp4
import Derived.Test.YtcdapdcablnhpaaGreatKWc7
import Derived.Test.YtcdapdcablnhpaaGreatKWp1
import Derived.Test.YtcdapdcablnhpaaGreatKWc6
namespace Go.Proofs.YtcdapdcablnhpaaGreat
open Go.RowKit
theorem infoStatus : (Tryz.prog.info? 33).map (fun i => (i.zero, i.size, i.bytes)) = some (some (.int .u8 0), 1, 1) := by kernel_rfl
theorem Rr.lt' {w : World} {b : Nat} {l : List UInt8} {x : List UInt8 × Int} (h : Rr w b l x) : b < w.heap.size := by
 obtain ⟨i, _, h2, _⟩ := h;exact Blk.lt h2
set_option maxRecDepth 100000 in
set_option maxHeartbeats 1000000 in
theorem taken_head (m : Int) (p : Pg) (iv : Value) (w : World) (hi : Items w iv p.items) (h : modB m = true) (hh : openHead m p = false) : Calls Tryz.prog 193 #[.int .i64 m, pgV p iv] w (TakPost m p w) := by
 have hE : openE m p = 31 := by unfold openE; rw [h, hh]; rfl
 have HE := keep hE;have HH := keep hh;have hr := fun (u : World) => rright7_any m u
 rw [h] at hr;have HR := keep hr;clear hE hh hr;obtain ⟨hm1, hm2, _⟩ := modB_bd h;unfold pgV;go_enter Tryz.func193, Tryz.ntmps193;go_wp2_with fail;refine (HR.out _).mono ?_;rintro e w' ⟨rfl, hw'⟩;subst hw';obtain ⟨w1, hw1⟩ : ∃ w1, w1 = w.alloc (.cells (pgCells p iv).toArray 28) := ⟨_, rfl⟩;have hB1 : Blk w1 w.heap.size 28 (pgCells p iv) := by subst hw1; exact Blk.new w _ _
 have hb1 : Below w.heap.size w w1 := by subst hw1; exact (Below.refl _ _).alloc (Nat.le_refl _) _
 have hi1 : Items w1 iv p.items := Row.fits hi hb1;unfold pgCells at hw1;clear hi;unfold pgCells at hB1;have c0 := hB1.cell 0 (by simp);have c1 := hB1.cell 1 (by simp);have c2 := hB1.cell 2 (by simp);have c3 := hB1.cell 3 (by simp);have c4 := hB1.cell 4 (by simp);have c5 := hB1.cell 5 (by simp);simp only [List.getElem_cons_zero, List.getElem_cons_succ] at c0 c1 c2 c3 c4 c5;obtain ⟨iva, ivc, rfl⟩ := items_form hi1;go_upto_region 3 with fail;rw [<- hw1];clear hw1
 by_cases h1 : p.kind = 1
 rotate_left
 ·have g1 : (p.kind != 1) = true := by simpa using h1
  clear h1;go_wp2_with fail;go_ret3;exact takPost_bad HE.out (by decide) hb1
 have g1 : (p.kind != 1) = false := by simpa using h1
 by_cases h2 : ¬ p.lsn < 0
 rotate_left
 ·have g2 : p.lsn < 0 := by omega
  clear h2;go_wp2_with fail;go_ret3;exact takPost_bad HE.out (by decide) hb1
 have g2 : decide (p.lsn < 0) = false := by simpa using h2
 by_cases h3 : p.level = 0
 rotate_left
 ·have g3 : (p.level != 0) = true := by simpa using h3
  clear h3;go_wp2_with fail;go_ret3;exact takPost_bad HE.out (by decide) hb1
 have g3 : (p.level != 0) = false := by simpa using h3
 by_cases h4 : p.right = 0
 rotate_left
 ·have g4 : (p.right != 0) = true := by simpa using h4
  clear h4;go_wp2_with fail;go_ret3;exact takPost_bad HE.out (by decide) hb1
 have g4 : (p.right != 0) = false := by simpa using h4
 by_cases h5 : p.high = []
 rotate_left
 ·have g5 : (str p.high).toList.isEmpty = false := by rw [str_list]; simpa using h5
  clear h5;go_wp2_with fail;go_ret3;exact takPost_bad HE.out (by decide) hb1
 have g5 : (str p.high).toList.isEmpty = true := by rw [str_list, h5]; rfl
 have H5 := keep h5;clear h5
 by_cases h6 : p.items.length = 2
 rotate_left
 ·have g6 : (((p.items.length : Nat) : Int) != 2) = true := by rw [bne_iff_ne]; omega
  clear h6;go_wp2_with fail;go_ret3;exact takPost_bad HE.out (by decide) hb1
 have g6 : (((p.items.length : Nat) : Int) != 2) = false := by rw [h6]; rfl
 obtain ⟨l0, l1, hl⟩ : ∃ l0 l1, p.items = [l0, l1] := by
  match hp : p.items, h6 with
  | [a, b], _ => exact ⟨a, b, rfl⟩
 obtain ⟨c, off, cap, hiv, hcell⟩ := items_cells hi1 (by omega);have d1 := hcell 1 (by omega);simp only [hl, List.getElem_cons_zero, List.getElem_cons_succ] at d1;have h7 : ¬ (l1.length : Int) = (m + 3) / 4 := by
  intro h7;have hh := HH.out;unfold openHead at hh;rw [H5.out, hl, decide_eq_true h1, decide_eq_true (show 0 <= p.lsn by omega), decide_eq_true h3, decide_eq_true h4] at hh;have e : (([l0, l1] : List (List UInt8)).getD 1 []) = l1 := rfl;rw [e, decide_eq_true h7] at hh;simp at hh
 have e7 : (m + 3).tdiv 4 = (m + 3) / 4 := Int.tdiv_eq_ediv_of_nonneg (by omega);have g7 : ((l1.length : Int) != (m + 3) / 4) = true := by simpa using h7
 simp only [Value.slice.injEq] at hiv;obtain ⟨rfl, _, rfl⟩ := hiv;clear hcell hl HH h7;go_wp2_with fail;go_ret3;exact takPost_bad HE.out (by decide) hb1
set_option maxRecDepth 100000 in
set_option maxHeartbeats 4000000 in
theorem taken_rest (m : Int) (p : Pg) (iv : Value) (w : World) (hi : Items w iv p.items) (h : modB m = true) (hh : openHead m p = true) (hs : ∀ x ∈ p.items, (x.length : Int) <= 4611686018427387904) : Calls Tryz.prog 193 #[.int .i64 m, pgV p iv] w (TakPost m p w) := by
 obtain ⟨hm1, hm2, hm3⟩ := modB_bd h;have hE : openE m p = if openBody m p then 0 else 31 := by unfold openE; rw [h, hh]; simp
 simp only [openHead, Bool.and_eq_true, decide_eq_true_eq, List.isEmpty_iff] at hh;obtain ⟨⟨⟨⟨⟨⟨h1, h2⟩, h3⟩, h4⟩, h5⟩, h6⟩, h7⟩ := hh;obtain ⟨lsn, kind, level, right, high, items⟩ := p;simp only at h1 h2 h3 h4 h5 h6 h7 hi hs;subst h1 h3 h4 h5;obtain ⟨l0, l1, rfl⟩ : ∃ l0 l1, items = [l0, l1] := by
  match items, h6 with
  | [a, b], _ => exact ⟨a, b, rfl⟩
 have hs0 := hs l0 (by simp);have h7' : (l1.length : Int) = (m + 3) / 4 := by simpa using h7
 obtain ⟨M, rfl⟩ := Int.eq_ofNat_of_zero_le (show 0 <= m by omega);have hpad := pad_eq M l1 h h7';have HE := keep hE;have hr := fun (u : World) => rright7_any (M : Int) u
 rw [h] at hr;have HR := keep hr;clear hE h7 hs h6 hr;unfold pgV;go_enter Tryz.func193, Tryz.ntmps193;go_wp2_with fail;refine (HR.out _).mono ?_;rintro e w' ⟨rfl, hw'⟩;subst hw';obtain ⟨w1, hw1⟩ : ∃ w1, w1 = w.alloc (.cells (pgCells ⟨lsn, 1, 0, 0, [], [l0, l1]⟩ iv).toArray 28) := ⟨_, rfl⟩;have hB1 : Blk w1 w.heap.size 28 (pgCells ⟨lsn, 1, 0, 0, [], [l0, l1]⟩ iv) := by subst hw1; exact Blk.new w _ _
 have hb1 : Below w.heap.size w w1 := by subst hw1; exact (Below.refl _ _).alloc (Nat.le_refl _) _
 have hi1 : Items w1 iv [l0, l1] := Row.fits hi hb1;unfold pgCells at hw1;clear hi;unfold pgCells at hB1;have c0 := hB1.cell 0 (by simp);have c1 := hB1.cell 1 (by simp);have c2 := hB1.cell 2 (by simp);have c3 := hB1.cell 3 (by simp);have c4 := hB1.cell 4 (by simp);have c5 := hB1.cell 5 (by simp);simp only [List.getElem_cons_zero, List.getElem_cons_succ] at c0 c1 c2 c3 c4 c5;obtain ⟨c, off, cap, rfl, hcell⟩ := items_cells hi1 (by simp);have d0 := hcell 0 (by simp);have d1 := hcell 1 (by simp);simp only [List.getElem_cons_zero, List.getElem_cons_succ, Nat.add_zero] at d0 d1;have hc := World.block_lt_of_cell? _ _ d0;simp only at hc;have g2 : decide (lsn < 0) = false := by simp; omega
 have g5 : (str []).toList.isEmpty = true := by rw [str_list]; rfl
 have g7 : ((l1.length : Int) != ((M : Int) + 3) / 4) = false := by simpa using h7'
 have e7 : ((M : Int) + 3).tdiv 4 = ((M : Int) + 3) / 4 := Int.tdiv_eq_ediv_of_nonneg (by omega);have H7 := keep h7';clear h7' hcell;have hwl := hB1.lt;replace hw1 : w1 = w.alloc (.cells #[.int .i64 lsn, .int .i64 1, .int .i64 0, .int .i64 0, .string (str []), .slice (some ⟨c, off, none⟩) 2 cap] 28) := hw1;replace c5 : w1.cell? ⟨w.heap.size, 5, none⟩ = some (.slice (some ⟨c, off, none⟩) 2 cap) := c5;go_upto_region 3 with fail;rw [<- hw1];clear hw1;go_upto_region 6 with fail;obtain ⟨w2, hw2⟩ : ∃ w2, w2 = w1.alloc (.cells #[.string (str l0), .int .i64 0, .int .i64 0] 223) := ⟨_, rfl⟩;have hD2 : Rr w2 w1.heap.size l0 (l0, 0) := by subst hw2; exact ⟨0, by omega, Blk.new w1 _ [_, _, _], fun _ => rfl⟩
 have hg2 : Grow w1 w2 := by subst hw2; exact (Grow.refl w1).alloc _
 rw [<- hw2];clear hw2;have hN := fun (u : World) (b : Nat) (h : Rr u b l0 (l0, 0)) => rrnum_any b l0 (M : Int) (l0, 0) u h hs0 (by omega)
 have hx : rdNum2 (M : Int) (l0, 0) = rdNumS (M : Int) l0 := rfl;rw [hx] at hN;have hEn := fun (u : World) (b : Nat) (h : Rr u b l0 (rdNumS (M : Int) l0).2) => rrend_any b l0 (rdNumS (M : Int) l0).2 u h
 have hbody : openBody (M : Int) ⟨lsn, 1, 0, 0, [], [l0, l1]⟩ = (decide (endE (rdNumS (M : Int) l0).2 = 0) && decide ((rdNumS (M : Int) l0).1 ≠ 0) && (decide ((M : Int) % 4 = 0) || decide (((l1.getLast?.getD 0).toNat : Int) / 2 ^ (2 * ((M : Int) % 4)).toNat = 0))) := by
  unfold openBody;have e1 : openNum (M : Int) ⟨lsn, 1, 0, 0, [], [l0, l1]⟩ = rdNumS (M : Int) l0 := rfl;rw [e1, Bool.eq_iff_iff];have e2 : endE (rdNumS (M : Int) l0).2 = 0 ↔ (rdNumS (M : Int) l0).2.2 = 0 /\ (rdNumS (M : Int) l0).2.1 = [] := ⟨endE_zero, fun h => endE_of h.1 h.2⟩;simp only [Bool.and_eq_true, decide_eq_true_eq, e2, Bool.or_eq_true]
  rfl
 have hnum : openNum (M : Int) ⟨lsn, 1, 0, 0, [], [l0, l1]⟩ = rdNumS (M : Int) l0 := rfl;have hpos := (rdNumS_facts (M : Int) l0).1;generalize endE (rdNumS (M : Int) l0).2 = EE at *;generalize rdNumS (M : Int) l0 = X at *;have hyes : EE = 0 -> X.1 ≠ 0 -> (∀ j, M <= j -> j < 4 * l1.length -> statN l1 j = 0) -> openE (M : Int) ⟨lsn, 1, 0, 0, [], [l0, l1]⟩ = 0 := by
  intro a1 a2 a3;have b := hpad.1 a3;rw [HE.out, hbody, decide_eq_true a1, decide_eq_true a2, <- Bool.decide_or, decide_eq_true b]; rfl
 have hno1 : EE ≠ 0 -> openE (M : Int) ⟨lsn, 1, 0, 0, [], [l0, l1]⟩ = 31 := by
  intro a1;rw [HE.out, hbody, decide_eq_false a1]; rfl
 have hno2 : X.1 = 0 -> openE (M : Int) ⟨lsn, 1, 0, 0, [], [l0, l1]⟩ = 31 := by
  intro a1;rw [HE.out, hbody, a1]; simp
 have hno3 : ∀ j, M <= j -> j < 4 * l1.length -> statN l1 j ≠ 0 -> openE (M : Int) ⟨lsn, 1, 0, 0, [], [l0, l1]⟩ = 31 := by
  intro j a1 a2 a3;have b : ¬ ((M : Int) % 4 = 0 \/ ((l1.getLast?.getD 0).toNat : Int) / 2 ^ (2 * ((M : Int) % 4)).toNat = 0) := fun h => a3 (hpad.2 h j a1 a2)
  rw [HE.out, hbody, <- Bool.decide_or, decide_eq_false b]; simp
 have HN := keep hN;have HEn := keep hEn;have HNum := keep hnum;have HY := keep hyes;have HO1 := keep hno1;have HO2 := keep hno2;have HO3 := keep hno3;clear hN hEn hbody hnum hx hpad hyes hno1 hno2 hno3 HE;go_wp2_with fail;refine (HN.out _ _ hD2).mono ?_;rintro x w3 ⟨rfl, hD3, hbt3⟩;have hE3 := (Blk.fits hB1 hg2).but hbt3 (by omega);have d3 : w3.cell? ⟨c, off + 1, none⟩ = some (.string (str l1)) := by
  rw [hbt3.cell (by have := hg2.size; show c < _; omega) (by show c ≠ _; omega), hg2.cell (by show c < _; omega)]; exact d1
 have hg3 : Grow w w3 := But.below (Grow.trans hb1 hg2) hbt3 (by omega) (by have := hg2.size; omega);have hz3 : w1.heap.size < w3.heap.size := Nat.lt_of_lt_of_le (by have := hg2.size; have := hD2.lt'; omega) hbt3.size;clear hD2 hbt3 hg2 hB1 c0 c1 c2 c3 c4 c5 d0 d1 hi1;go_wp2_with fail;refine (HEn.out _ _ hD3).mono ?_;rintro x w4 ⟨rfl, hb4⟩;have hg4 := Grow.trans hg3 hb4
 have HC := keep (show ∀ u, Grow w4 u -> u.cell? ⟨w.heap.size, 5, none⟩ = some (.slice (some ⟨c, off, none⟩) 2 cap) /\ u.cell? ⟨c, off + 1, none⟩ = some (.string (str l1)) from by
  intro u hu;have hu3 := Grow.trans hb4 hu;refine ⟨(Blk.fits hE3 hu3).cell 5 (by simp), ?_⟩
  rw [hu3.cell (by show c < _; omega)]; exact d3)
 clear hD3 hE3 d3 hg3 hb4
 by_cases hEE : EE = 0
 rotate_left
 ·have k1 : (EE != 0) = true := by simpa using hEE
  have HOO := keep (HO1.out hEE);go_wp2_with fail;go_ret3;exact takPost_bad HOO.out (by decide) hg4
 subst hEE
 by_cases hX : X.1 = 0
 ·have HOO := keep (HO2.out hX);have hX' : X.1 < 1 := by omega
  go_wp2_with fail;go_ret3;exact takPost_bad HOO.out (by decide) hg4
 have HYY := keep (HY.out rfl hX);have hX' : ¬ X.1 < 1 := by omega
 clear HO1 HO2 HY;obtain ⟨i0, hi, hz0, hz1, hz2⟩ := info_parts infoStatus;have HG4 := keep hg4;obtain ⟨wo, rfl⟩ : ∃ wo : World, wo = w4 := ⟨_, rfl⟩;go_wp2_with fail;have hlen : l1.length <= 300 := by have := H7.out; omega
 have hML : M <= 4 * l1.length := by have := H7.out; omega
 clear hm3 h;go_loopw [9, 10] (fun x i wr => ∃ (k N : Nat) (a : Option Addr) (cp : Nat), k <= 4 * l1.length /\ Kept (N = min k M) /\ x = .slice a N cp /\ i = .int .i64 k /\ Kept (wr.ownsRow wo.heap.size 33 1 (.slice a N cp) N (sts l1 N)) /\ Kept (Below wo.heap.size wo wr) /\ Kept (∀ j, M <= j -> j < k -> statN l1 j = 0)) (fun _ i _ => 4 * l1.length - (intOf i).toNat)
 case atStart => exact ⟨0, 0, none, 0, Nat.zero_le _, keep (by omega), rfl, rfl, keep (World.ownsRow_nil _ _ _ _), keep (Grow.refl _), keep (fun j _ h => by omega)⟩
 case round =>
  obtain ⟨k, N, a, cp, hk, HNk, rfl, rfl, HO, HG, HZ⟩ := hrel;obtain ⟨e5, d1⟩ := HC.out wr HG.out
  by_cases hlt : k < 4 * l1.length
  ·have hq : k / 4 < (str l1).size := by rw [str_size]; omega
   have hidx : ((str l1)[k / 4]'hq).toNat = (l1.getD (k / 4) 0).toNat := by
    rw [List.getD_eq_getElem?_getD, List.getElem?_eq_getElem (by rw [str_size] at hq; exact hq)]
    rfl
   have hst : statN l1 k = (l1.getD (k / 4) 0).toNat / 4 ^ (k % 4) % 4 := rfl;have hC := (l1.getD (k / 4) 0).toNat_lt;have et : (k : Int).tdiv 4 = ((k / 4 : Nat) : Int) := by rw [Int.tdiv_eq_ediv_of_nonneg (by omega)]; rfl
   have em : (k : Int).tmod 4 = ((k % 4 : Nat) : Int) := by rw [Int.tmod_eq_emod_of_nonneg (by omega)]; rfl
   generalize (l1.getD (k / 4) 0).toNat = C at *;have HST := keep hst;clear hst;go_wp2_with fail;go_loop [11, 12] (fun n i => ∃ q : Nat, q <= k % 4 /\ n = .int .i64 ((C / 4 ^ q : Nat) : Int) /\ i = .int .i64 q) (fun _ i => k % 4 - (intOf i).toNat)
   case atStart => exact ⟨0, Nat.zero_le _, by simp, rfl⟩
   case round =>
    obtain ⟨q, hq1, rfl, rfl⟩ := hrel;have hD : C / 4 ^ q < 256 := Nat.lt_of_le_of_lt (Nat.div_le_self _ _) hC
    by_cases hq2 : q < k % 4
    ·have hdd : C / 4 ^ q / 4 = C / 4 ^ (q + 1) := by rw [Nat.div_div_eq_div_mul, <- Nat.pow_succ]
     generalize C / 4 ^ q = D at *;have hDt : (D : Int).tdiv 4 = ((D / 4 : Nat) : Int) := by rw [Int.tdiv_eq_ediv_of_nonneg (by omega)]; rfl
     have HDD := keep hdd;clear hdd;go_wp2_with fail;go_round
     case rel => exact ⟨q + 1, by omega, by rw [<- HDD.out]; go_num, by go_num⟩
     case measure => simp [intOf]; omega
    ·have hqe : q = k % 4 := by omega
     have hS : statN l1 k = C / 4 ^ q % 4 := by rw [hqe]; exact HST.out
     generalize C / 4 ^ q = D at *;have hDm : (D : Int).tmod 4 = ((D % 4 : Nat) : Int) := by rw [Int.tmod_eq_emod_of_nonneg (by omega)]; rfl
     have hsz := HG.out.size;have ho := HO.out;have HS := keep hS;clear hqe hS HST
     by_cases hM : k < M
     ·have hN : N = k := by have := HNk.out; omega
      subst hN;go_wp2_with ((at_builtin; go_must (refine wpList_append_own _ rfl _ _ 242 rfl wo.heap.size 33 i0 (.int .u8 0) 1 1 Tryz.underlying242 hi hz0 hz1 hz2 rfl (by decide) _ _ _ rfl (ho.alloc _) ⟨wr.heap.size, 0, none⟩ 1 1 [.int .u8 ((D % 4 : Nat) : Int)] rfl rfl (cell_one_new _ _ _) (ints_oneCell .u8 [((D % 4 : Nat) : Int)]) (by unfold maxLen; omega) (by omega) (by simp; omega) ?_); intro v' w1' hown' hgrow _; obtain ⟨a', cap', rfl⟩ := own_form hown'));have hG2 := own_grown hsz HG.out ho hgrow;have HO2 := keep hown';have HG2 := keep hG2;clear hown' hgrow hG2 ho;go_roundw
      case rel => exact ⟨N + 1, N + 1, a', cap', by omega, keep (by omega), rfl, by go_num, keep (by rw [sts_succ, HS.out]; exact HO2.out), HG2, keep (fun j h1 h2 => by omega)⟩
      case measure => simp [intOf]; omega
     ·have hN : N = M := by have := HNk.out; omega
      by_cases hs0 : D % 4 = 0
      ·have hDz : ((D % 4 : Nat) : Int) = 0 := by omega
       go_wp2_with fail;go_roundw
       case rel =>
        refine ⟨k + 1, N, a, cp, by omega, keep (by have := HNk.out; omega), rfl, by go_num, HO, HG, keep ?_⟩;intro j h1 h2
        by_cases hjk : j < k
        ·exact HZ.out j h1 hjk
        ·have : j = k := by omega
         rw [this, HS.out]; exact hs0
       case measure => simp [intOf]; omega
      ·have hDz : (((D % 4 : Nat) : Int) != 0) = true := by simp; omega
       have HOO := keep (HO3.out k (by omega) hlt (by rw [HS.out]; exact hs0));go_wp2_with fail;go_ret3;exact takPost_bad HOO.out (by decide) (Grow.trans HG4.out HG.out)
  ·have hke : k = 4 * l1.length := by omega
   have hN : N = M := by have := HNk.out; omega
   have HOO := keep (HYY.out (fun j h1 h2 => HZ.out j h1 (by omega)));have HRW := keep (own_rowO HO.out).weak;subst hN;go_wp2_with fail;go_ret3;refine ⟨.slice a N cp, ?_, Grow.trans HG4.out HG.out, fun _ => ?_, ⟨_, _, _, rfl⟩⟩
   ·rw [HOO.out, if_pos rfl, HNum.out]; rfl
   ·rw [Int.toNat_natCast];exact HRW.out
theorem taken_any (m : Int) (p : Pg) (iv : Value) (w : World) (hi : Items w iv p.items) (hs : ∀ x ∈ p.items, (x.length : Int) <= 4611686018427387904) : Calls Tryz.prog 193 #[.int .i64 m, pgV p iv] w (TakPost m p w) := by
 cases h : modB m with
 | false => exact taken_mod m p iv w h
 | true =>
  cases hh : openHead m p with
  | false => exact taken_head m p iv w hi h hh
  | true => exact taken_rest m p iv w hi h hh hs
theorem statAt_N (l : List UInt8) (x : Int) (h : 1 <= x) : statAt l x = statN l (x - 1).toNat := by
 obtain ⟨j, hj⟩ := Int.eq_ofNat_of_zero_le (show 0 <= x - 1 by omega);unfold statAt statN;rw [hj];have e1 : ((j : Int) / 4).toNat = j / 4 := by omega
 have e2 : (2 * ((j : Int) % 4)).toNat = 2 * (j % 4) := by omega
 rw [e1, e2, Int.toNat_natCast, Nat.pow_mul]
set_option maxRecDepth 100000 in
set_option maxHeartbeats 1000000 in
theorem rget_any (m : Int) (p : Pg) (iv : Value) (x : Int) (w : World) (hi : Items w iv p.items) (hs : ∀ x ∈ p.items, (x.length : Int) <= 4611686018427387904) : Calls Tryz.prog 140 #[.int .i64 m, pgV p iv, .int .i64 x] w fun e w' =>
  e = .returned (.tuple #[.int .u8 (getS m p x).1, .int .i64 (getS m p x).2]) /\ Below w.heap.size w w' := by
 obtain ⟨w0, hw0⟩ : ∃ w0, w0 = w.alloc (.cells (pgCells p iv).toArray 28) := ⟨_, rfl⟩;have hg0 : Grow w w0 := by subst hw0; exact (Grow.refl w).alloc _
 have hB0 : Blk w0 w.heap.size 28 (pgCells p iv) := by subst hw0; exact Blk.new w _ _
 have ho := taken_any m p iv w0 (hi.fits hg0) hs;have hd : getS m p x = if openE m p = 0 then if idsB m [x] then (statAt (p.items.getD 1 []) x, 0) else (0, 1) else (0, openE m p) := rfl
 have hz := fun h => (openE_zero (m := m) (p := p) h).1
 have hat := fun (h1 : 1 <= x) => statAt_N (p.items.getD 1 []) x h1
 unfold TakPost pgV at ho;unfold pgCells at *;generalize (openNum m p).1 = F at *;generalize p.items.getD 1 [] = l at *;generalize openE m p = E at *;generalize getS m p x = G at *;have HD := keep hd;have Ho := keep ho;have HZ := keep hz;have HAt := keep hat;clear hd ho hz hat hs hi;have c0 := hB0.cell 0 (by simp);have c1 := hB0.cell 1 (by simp);have c2 := hB0.cell 2 (by simp);have c3 := hB0.cell 3 (by simp);have c4 := hB0.cell 4 (by simp);have c5 := hB0.cell 5 (by simp);simp only [List.getElem_cons_zero, List.getElem_cons_succ] at c0 c1 c2 c3 c4 c5;unfold pgV;go_enter Tryz.func140, Tryz.ntmps140;go_upto_region 1 with fail;rw [<- hw0];clear hw0;go_wp2_with fail;refine Ho.out.mono ?_;rintro e w1 ⟨bv, rfl, hb1, hrow, a, n, cp, rfl⟩;have hg1 := Grow.trans hg0 hb1;have HRow := keep hrow;clear hrow Ho hB0 hb1 hg0 c0 c1 c2 c3 c4 c5
 by_cases h0 : E = 0
 rotate_left
 ·have k0 : (E != 0) = true := by simpa using h0
  have hG : G = (0, E) := by rw [HD.out, if_neg h0]
  have HG := keep hG;clear hG;clear HD HRow;go_wp2_with fail;go_ret2;rw [HG.out];exact ⟨rfl, hg1⟩
 have hm := HZ.out h0;have hrow := HRow.out h0;subst h0;obtain ⟨hm1, hm2, _⟩ := modB_bd hm;have hid : idsB m [x] = idB m x := by rw [idsB_one', hm, Bool.true_and]
 by_cases hx1 : x < 1
 ·have hG : G = (0, 1) := by
   rw [HD.out, if_pos rfl, hid];have : idB m x = false := by unfold idB; rw [decide_eq_false (by omega)]; rfl
   rw [this]; rfl
  have HG := keep hG;clear hG;clear HD HRow hrow hid;go_wp2_with fail;go_ret2;rw [HG.out];exact ⟨rfl, hg1⟩
 by_cases hx2 : m < x
 ·have hG : G = (0, 1) := by
   rw [HD.out, if_pos rfl, hid];have : idB m x = false := by unfold idB; rw [decide_eq_false (show ¬ x <= m by omega), Bool.and_false]
   rw [this]; rfl
  have HG := keep hG;clear hG;clear HD HRow hrow hid;go_wp2_with fail;go_ret2;rw [HG.out];exact ⟨rfl, hg1⟩
 have hG : G = (statAt l x, 0) := by
  rw [HD.out, if_pos rfl, hid];have : idB m x = true := by unfold idB; rw [decide_eq_true (show 1 <= x by omega), decide_eq_true (show x <= m by omega)]; rfl
  rw [this]; rfl
 have hA := HAt.out (by omega);rw [hA] at hG;have HG := keep hG;clear hG;obtain ⟨X, hX⟩ := Int.eq_ofNat_of_zero_le (show 0 <= x - 1 by omega);have hXm : X < m.toNat := by omega
 rcases hrow with ⟨h1, _⟩ | ⟨c, off, cap, hv, hc⟩
 ·omega
 simp only [Value.slice.injEq] at hv;obtain ⟨rfl, rfl, rfl⟩ := hv;have hcell := hc X (by simpa using hXm);have hcell' : w1.cell? ⟨c, off + X, none⟩ = some (.int .u8 (statN l X)) := by rw [hcell]; simp [sts]
 have hwx : x - 1 = (X : Int) := hX;clear HD HRow hid hA hcell hc HAt HZ;go_wp2_with fail;go_ret2;rw [HG.out, hX, Int.toNat_natCast];exact ⟨rfl, hg1⟩
set_option maxRecDepth 100000 in
set_option maxHeartbeats 1000000 in
theorem rstatus_any (v : Vw) (av rv iv : Value) (x : Int) (w : World) (hv : VwIn w v av rv iv) (h62 : ∀ x ∈ v.clog.items, (x.length : Int) <= 4611686018427387904) :
  Calls Tryz.prog 87 #[vwV v av rv iv, .int .i64 x] w fun e w' => e = .returned (.int .u8 (statusS v x)) /\ Below w.heap.size w w' := by
 obtain ⟨w0, hw0⟩ : ∃ w0, w0 = w.alloc (.cells (vwCells v av rv iv).toArray 40) := ⟨_, rfl⟩;have hg0 : Grow w w0 := by subst hw0; exact (Grow.refl w).alloc _
 have hB0 : Blk w0 w.heap.size 40 (vwCells v av rv iv) := by subst hw0; exact Blk.new w _ _
 have hc := rin_any rv v.running x w0 (hv.run.fits hg0) hv.runl;have hit := hv.items;have hd : statusS v x = if v.running.contains x then 1 else (getS v.m v.clog x).1 := rfl
 obtain ⟨iva, ivc, rfl⟩ := items_form hv.items;obtain ⟨rva, rvc, rfl, _⟩ := ints_form hv.run;obtain ⟨ava, avc, rfl, _⟩ := ints_form hv.act;have ht := h62;have HV := keep hit;have HT := keep ht;have HD := keep hd;have Hc := keep hc;clear hv hit ht hd hc;unfold vwV vwCells at *;have c0 := hB0.cell 0 (by simp);have c1 := hB0.cell 1 (by simp);have c2 := hB0.cell 2 (by simp);have c3 := hB0.cell 3 (by simp);have c4 := hB0.cell 4 (by simp);have c5 := hB0.cell 5 (by simp);have c6 := hB0.cell 6 (by simp);have c7 := hB0.cell 7 (by simp);have c8 := hB0.cell 8 (by simp);have c9 := hB0.cell 9 (by simp);have c10 := hB0.cell 10 (by simp);go_enter Tryz.func87, Tryz.ntmps87;go_wp2_with fail;rw [<- hw0];refine Hc.out.mono ?_;rintro e w1 ⟨rfl, hb1⟩;have hg1 := Grow.trans hg0 hb1;have hB1 := hB0.fits hb1;clear hw0 c0 c1 c2 c3 c4 c5 c6 c7 c8 c9 c10 hB0 hb1 hg0;cases hx : v.running.contains x with
 | true =>
  rw [hx] at HD;go_wp2_with fail;go_ret;have := HD.out;simp at this;rw [this];exact ⟨rfl, hg1⟩
 | false =>
  rw [hx] at HD;have c0 := hB1.cell 0 (by simp);have c1 := hB1.cell 1 (by simp);have c2 := hB1.cell 2 (by simp);have c3 := hB1.cell 3 (by simp);have c4 := hB1.cell 4 (by simp);have c5 := hB1.cell 5 (by simp);have c6 := hB1.cell 6 (by simp);have c7 := hB1.cell 7 (by simp);have c8 := hB1.cell 8 (by simp);have c9 := hB1.cell 9 (by simp);have c10 := hB1.cell 10 (by simp);go_wp2_with fail;refine (rget_any v.m v.clog _ x w1 (Row.fits HV.out hg1) HT.out).mono ?_;rintro e w2 ⟨rfl, hb2⟩;have hg2 := Grow.trans hg1 hb2;have he := @getS_err v.m v.clog x;have hd2 : statusS v x = (getS v.m v.clog x).1 := by have := HD.out; simpa using this
  generalize getS v.m v.clog x = G at *;have HD2 := keep hd2;clear c0 c1 c2 c3 c4 c5 c6 c7 c8 c9 c10 hd2 HD
  by_cases h0 : G.2 = 0
  ·have h0' : (G.2 != 0) = false := by simpa using h0
   clear he;go_wp2_with fail;go_ret;rw [HD2.out];exact ⟨rfl, hg2⟩
  ·have h0' : (G.2 != 0) = true := by simpa using h0
   have hz := he h0;have HZ := keep hz;clear he hz;go_wp2_with fail;go_ret;rw [HD2.out, HZ.out];exact ⟨rfl, hg2⟩
end Go.Proofs.YtcdapdcablnhpaaGreat
