import Derived.Test.YtmhepfehcakmjaaGreatProg
import Derived.Test.YtmhepfehcakmjaaGreatKInv1
namespace Go.Proofs.YtmhepfehcakmjaaGreat
open Go.RowKit
def modB (m : Int) : Bool := decide (16 ≤ m) && decide (m ≤ 1024) && decide (m % 2 = 0)
theorem i64_and1 (m : Int) (h0 : 0 ≤ m) (h1 : m ≤ 1024) : bits .and .i64 m 1 = m % 2 := by
 have := bits_mask .i64 63 (by decide) wraps_i64 1 (by decide) m h0 (by omega)
 simpa using this
set_option maxHeartbeats 400000 in
theorem modulus_any (m : Int) (w : World) : Calls Tryz.prog 134 #[.int .i64 m] w fun e w' => e = .returned (.bool (modB m)) ∧ w = w' := by
 go_enter Tryz.func134, Tryz.ntmps134
 by_cases h1 : 16 ≤ m
 ·by_cases h2 : m ≤ 1024
  ·have ha := i64_and1 m (by omega) h2
   go_wp2
   go_ret
   refine ⟨?_, rfl⟩
   simp [modB, h1, h2]
   rfl
  ·go_wp2
   go_ret
   refine ⟨?_, rfl⟩
   have hB : modB m = false := by
    have : ¬ m ≤ 1024 := by omega
    simp [modB, this]
   rw [hB]
   rfl
 ·go_wp2
  go_ret
  refine ⟨?_, rfl⟩
  have hB : modB m = false := by
   have : ¬ 16 ≤ m := by omega
   simp [modB, this]
  rw [hB]
  rfl
def idsB (m : Int) (l : List Int) : Bool := l.all (fun x => decide (1 ≤ x) && decide (x ≤ m)) && modB m
set_option maxHeartbeats 1000000 in
theorem ids_any (m : Int) (ns : List Int) (c off cap : Nat) (w : World) (hc : ∀ j, j < ns.length → w.cell? ⟨c, off + j, none⟩ = some (.int .i64 (ns.getD j 0))) (hlen : (ns.length : Int) ≤ 70368744177664) :
  Calls Tryz.prog 121 #[.int .i64 m, .slice (some ⟨c, off, none⟩) ns.length cap] w fun e w' => e = .returned (.bool (idsB m ns)) ∧ w = w' := by
 go_enter Tryz.func121, Tryz.ntmps121
 go_wp2_with fail
 go_loop [9] (fun i => ∃ k : Nat, k ≤ ns.length ∧ i = .int .i64 k ∧ Kept ((ns.take k).all (fun x => decide (1 ≤ x) && decide (x ≤ m)) = true)) (fun i => ns.length - (intOf i).toNat)
 case atStart => exact ⟨0, Nat.zero_le _, rfl, keep rfl⟩
 case round =>
  obtain ⟨k, hk, rfl, hall⟩ := hrel
  by_cases hlt : k < ns.length
  ·have hcell := hc k hlt
   have hdrop : ns.drop k = ns.getD k 0 :: ns.drop (k + 1) := by
    rw [List.drop_eq_getElem_cons hlt]; simp [hlt]
   have htake : ns.take (k + 1) = ns.take k ++ [ns.getD k 0] := by
    rw [List.take_succ_eq_append_getElem hlt]; simp [hlt]
   obtain ⟨x, hx⟩ : ∃ x, x = ns.getD k 0 := ⟨_, rfl⟩
   rw [← hx] at hcell hdrop htake
   have HD := keep hdrop
   have HT := keep htake
   clear hdrop htake hc hx
   by_cases h1 : 1 ≤ x ∧ x ≤ m
   ·obtain ⟨h1, h2⟩ := h1
    go_wp2_with fail
    go_round
    case rel =>
     refine ⟨k + 1, by omega, by go_num, keep ?_⟩
     rw [HT.out, List.all_append, hall.out]
     simp [h1, h2]
    case measure => simp [intOf]; omega
   ·have hbad : idsB m ns = false := by
     unfold idsB
     have : ns.all (fun x => decide (1 ≤ x) && decide (x ≤ m)) = false := by
      rw [← List.take_append_drop k ns, HD.out, List.all_append, List.all_cons]
      have : (decide (1 ≤ x) && decide (x ≤ m)) = false := by
       rcases Int.lt_or_le x 1 with h | h
       ·simp; omega
       ·have : ¬ x ≤ m := fun h' => h1 ⟨h, h'⟩
        simp [this]
      simp [this]
     rw [this]; rfl
    have HB := keep hbad
    clear hbad
    have hor : x < 1 ∨ m < x := by omega
    rcases hor with h2 | h2
    all_goals
     go_wp2_with fail
     all_goals
      go_ret
      rw [HB.out]
      exact ⟨rfl, rfl⟩
  ·have e : ns.take k = ns := List.take_of_length_le (by omega)
   have hgood : idsB m ns = modB m := by
    unfold idsB
    have := hall.out
    rw [e] at this
    rw [this]; rfl
   have HG := keep hgood
   clear hgood e
   go_wp2_with (go_at_call 134; refine (modulus_any _ _).mono ?_; rintro e w' ⟨rfl, rfl⟩)
   go_ret
   rw [HG.out]
   exact ⟨rfl, rfl⟩
theorem ring_eq (m n : Int) (h : 0 < m) : (n.tmod m + m) % m = n % m := by
 have h1 := Int.emod_nonneg n (show m ≠ 0 by omega)
 have h2 := Int.emod_lt_of_pos n h
 have key : n.tmod m + m = n % m + m ∨ n.tmod m + m = n % m := by
  rw [Int.tmod_eq_emod]
  split
  ·left; omega
  ·right; omega
 rcases key with e | e
 ·rw [e, Int.add_emod_right, Int.emod_emod_of_dvd _ (Int.dvd_refl m)]
 ·rw [e, Int.emod_emod_of_dvd _ (Int.dvd_refl m)]
theorem tmod_bd (m n : Int) (h : 0 < m) : -m < n.tmod m ∧ n.tmod m < m := ⟨Int.lt_tmod_of_pos n h, Int.tmod_lt_of_pos n h⟩
theorem modB_bd {m : Int} (h : modB m = true) : 16 ≤ m ∧ m ≤ 1024 ∧ m % 2 = 0 := by
 simp only [modB, Bool.and_eq_true, decide_eq_true_eq] at h
 exact ⟨h.1.1, h.1.2, h.2⟩
set_option maxHeartbeats 400000 in
theorem ring_any (m n : Int) (w : World) (h : modB m = true) : Calls Tryz.prog 122 #[.int .i64 m, .int .i64 n] w fun e w' => e = .returned (.int .i64 (n % m)) ∧ w = w' := by
 obtain ⟨h1, h2, _⟩ := modB_bd h
 have h0 : ¬ m = 0 := by omega
 have hbd := tmod_bd m n (by omega)
 have hw : wrap64 (n.tmod m) = n.tmod m := by unfold wrap64; omega
 have hr := ring_eq m n (by omega)
 have hp := Int.emod_nonneg n h0
 have hq := Int.emod_lt_of_pos n (show 0 < m by omega)
 have Hr := keep hr
 obtain ⟨hb1, hb2⟩ := hbd
 clear hr h hp hq
 go_enter Tryz.func122, Tryz.ntmps122
 go_wp2_with fail
 go_ret
 refine ⟨?_, rfl⟩
 show Ending.returned (Value.int IntKind.i64 ((n.tmod m + m) % m)) = _
 rw [Hr.out]
def addS (m x n : Int) : Int := if idsB m [x] then (x - 1 + n) % m + 1 else 0
def gapS (m a b : Int) : Int := if idsB m [a, b] then (b - a) % m else 0
def beforeB (m a b : Int) : Bool := decide (0 < gapS m a b) && decide (gapS m a b < m / 2)
theorem idsB_one {m x : Int} (h : idsB m [x] = true) : modB m = true ∧ 1 ≤ x ∧ x ≤ m := by
 simp only [idsB, List.all_cons, List.all_nil, Bool.and_true, Bool.and_eq_true, decide_eq_true_eq] at h
 exact ⟨h.2, h.1.1, h.1.2⟩
theorem idsB_two {m a b : Int} (h : idsB m [a, b] = true) : modB m = true ∧ 1 ≤ a ∧ a ≤ m ∧ 1 ≤ b ∧ b ≤ m := by
 simp only [idsB, List.all_cons, List.all_nil, Bool.and_true, Bool.and_eq_true, decide_eq_true_eq] at h
 exact ⟨h.2, h.1.1.1, h.1.1.2, h.1.2.1, h.1.2.2⟩
set_option maxHeartbeats 400000 in
theorem add_any (m x n : Int) (w : World) : Calls Tryz.prog 98 #[.int .i64 m, .int .i64 x, .int .i64 n] w fun e w' => e = .returned (.int .i64 (addS m x n)) ∧ Below w.heap.size w w' := by
 have hids := ids_any m [x] w.heap.size 0 1 (w.alloc (.cells #[.int .i64 x] 3)) (by intro j hj; simp at hj; subst hj; simp) (by simp)
 have Hids := keep hids
 clear hids
 go_enter Tryz.func98, Tryz.ntmps98
 go_wp2_with fail
 refine Hids.out.mono ?_
 rintro e w' ⟨rfl, rfl⟩
 cases hB : idsB m [x] with
 | false =>
  have hS : addS m x n = 0 := by unfold addS; rw [hB]; rfl
  have HS := keep hS
  clear hS
  go_wp2_with fail
  go_ret
  rw [HS.out]
  exact ⟨rfl, (Below.refl _ _).alloc (Nat.le_refl _) _⟩
 | true =>
  obtain ⟨hm, hx1, hx2⟩ := idsB_one hB
  obtain ⟨hm1, hm2, _⟩ := modB_bd hm
  have hS : addS m x n = (x - 1 + n) % m + 1 := by unfold addS; rw [hB]; rfl
  have HS := keep hS
  have hp := Int.emod_nonneg n (show m ≠ 0 by omega)
  have hq := Int.emod_lt_of_pos n (show 0 < m by omega)
  have hp2 := Int.emod_nonneg (x - 1 + n) (show m ≠ 0 by omega)
  have hq2 := Int.emod_lt_of_pos (x - 1 + n) (show 0 < m by omega)
  have HM := keep hm
  clear hS hm hB
  go_wp2_with fail
  refine (ring_any _ _ _ HM.out).mono ?_
  rintro e w' ⟨rfl, rfl⟩
  go_wp2_with fail
  refine (ring_any _ _ _ HM.out).mono ?_
  rintro e w' ⟨rfl, rfl⟩
  go_wp2_with fail
  go_ret
  rw [HS.out]
  exact ⟨rfl, (Below.refl _ _).alloc (Nat.le_refl _) _⟩
set_option maxHeartbeats 400000 in
theorem gap_any (m a b : Int) (w : World) : Calls Tryz.prog 102 #[.int .i64 m, .int .i64 a, .int .i64 b] w fun e w' => e = .returned (.int .i64 (gapS m a b)) ∧ Below w.heap.size w w' := by
 have hids := ids_any m [a, b] w.heap.size 0 2 (w.alloc (.cells #[.int .i64 a, .int .i64 b] 3)) (by intro j hj; simp at hj; match j, hj with | 0, _ => simp | 1, _ => simp) (by simp)
 have Hids := keep hids
 clear hids
 go_enter Tryz.func102, Tryz.ntmps102
 go_wp2_with fail
 refine Hids.out.mono ?_
 rintro e w' ⟨rfl, rfl⟩
 cases hB : idsB m [a, b] with
 | false =>
  have hS : gapS m a b = 0 := by unfold gapS; rw [hB]; rfl
  have HS := keep hS
  clear hS
  go_wp2_with fail
  go_ret
  rw [HS.out]
  exact ⟨rfl, (Below.refl _ _).alloc (Nat.le_refl _) _⟩
 | true =>
  obtain ⟨hm, ha1, ha2, hb1, hb2⟩ := idsB_two hB
  obtain ⟨hm1, hm2, _⟩ := modB_bd hm
  have hS : gapS m a b = (b - a) % m := by unfold gapS; rw [hB]; rfl
  have HS := keep hS
  have HM := keep hm
  clear hS hm hB
  go_wp2_with fail
  refine (ring_any _ _ _ HM.out).mono ?_
  rintro e w' ⟨rfl, rfl⟩
  go_wp2_with fail
  go_ret
  rw [HS.out]
  exact ⟨rfl, (Below.refl _ _).alloc (Nat.le_refl _) _⟩
theorem gapS_bd (m a b : Int) : 0 ≤ gapS m a b ∧ (0 < gapS m a b → 16 ≤ m ∧ m ≤ 1024) := by
 unfold gapS
 split
 ·rename_i hB
  obtain ⟨hm, ha1, ha2, hb1, hb2⟩ := idsB_two hB
  obtain ⟨hm1, hm2, _⟩ := modB_bd hm
  exact ⟨Int.emod_nonneg _ (by omega), fun _ => ⟨hm1, hm2⟩⟩
 ·exact ⟨Int.le_refl _, fun h => absurd h (by omega)⟩
set_option maxHeartbeats 400000 in
theorem before_any (m a b : Int) (w : World) : Calls Tryz.prog 74 #[.int .i64 m, .int .i64 a, .int .i64 b] w fun e w' => e = .returned (.bool (beforeB m a b)) ∧ Below w.heap.size w w' := by
 have hbd := gapS_bd m a b
 have HB : Kept (beforeB m a b = (decide (0 < gapS m a b) && decide (gapS m a b < m / 2))) := keep rfl
 go_enter Tryz.func74, Tryz.ntmps74
 go_wp2_with fail
 refine (gap_any _ _ _ _).mono ?_
 rintro e w' ⟨rfl, hb⟩
 generalize gapS m a b = g at *
 obtain ⟨hb0, hb1⟩ := hbd
 by_cases h0 : 0 < g
 ·obtain ⟨hm1, hm2⟩ := hb1 h0
  clear hb1
  go_wp2_with fail
  go_ret
  rw [HB.out]
  refine ⟨?_, hb⟩
  simp [h0]
 ·clear hb1
  go_wp2_with fail
  go_ret
  rw [HB.out]
  refine ⟨?_, hb⟩
  have h0' : decide (0 < g) = false := by simp; omega
  rw [h0']
  rfl
theorem addS_mod (m : Int) : addS m 1 0 = if modB m then 1 else 0 := by
 unfold addS
 cases h : modB m with
 | true =>
  obtain ⟨h1, h2, _⟩ := modB_bd h
  have : idsB m [1] = true := by unfold idsB; rw [h]; simp; omega
  rw [this]; simp
 | false =>
  have : idsB m [1] = false := by unfold idsB; rw [h]; simp
  rw [this]; rfl
theorem addS_id (m x : Int) : addS m x 0 = if idsB m [x] then x else 0 := by
 unfold addS
 cases h : idsB m [x] with
 | true =>
  obtain ⟨h1, h2, h3⟩ := idsB_one h
  simp only [if_true, Int.add_zero]
  rw [Int.emod_eq_of_lt (by omega) (by omega)]; omega
 | false => rfl
end Go.Proofs.YtmhepfehcakmjaaGreat
namespace Go.Proofs.YtmhepfehcakmjaaGreat
open Go.RowKit
set_option maxHeartbeats 400000 in
theorem csize_any (m : Int) (w : World) (h0 : 0 ≤ m) (h1 : m ≤ 1024) : Calls Tryz.prog 64 #[.int .i64 m] w fun e w' => e = .returned (.int .i64 ((m + 3) / 4)) ∧ w = w' := by
 go_enter Tryz.func64, Tryz.ntmps64
 go_wp2
 go_ret
 refine ⟨?_, rfl⟩
 show Ending.returned (Value.int IntKind.i64 ((m + 4 - 1) / 4)) = _
 rw [show m + 4 - 1 = m + 3 from by omega]
set_option maxHeartbeats 400000 in
theorem isModulus_any (m : Int) (w : World) : Calls Tryz.prog 61 #[.int .i64 m] w fun e w' => e = .returned (.bool (modB m)) ∧ Below w.heap.size w w' := by
 have hS := addS_mod m
 go_enter Tryz.func61, Tryz.ntmps61
 go_wp2_with fail
 refine (add_any _ _ _ _).mono ?_
 rintro e w' ⟨rfl, hb⟩
 cases hm : modB m with
 | true =>
  rw [hm] at hS
  have HM := keep hm
  clear hm
  go_wp2_with fail
  go_ret
  rw [HM.out]
  exact ⟨rfl, hb⟩
 | false =>
  rw [hm] at hS
  have HM := keep hm
  clear hm
  go_wp2_with fail
  go_ret
  rw [HM.out]
  exact ⟨rfl, hb⟩
set_option maxHeartbeats 400000 in
theorem isID_any (m x : Int) (w : World) : Calls Tryz.prog 62 #[.int .i64 m, .int .i64 x] w fun e w' => e = .returned (.bool (idsB m [x])) ∧ Below w.heap.size w w' := by
 have hS := addS_id m x
 go_enter Tryz.func62, Tryz.ntmps62
 go_wp2_with fail
 refine (add_any _ _ _ _).mono ?_
 rintro e w' ⟨rfl, hb⟩
 cases hm : idsB m [x] with
 | true =>
  obtain ⟨_, h1, _⟩ := idsB_one hm
  rw [hm] at hS
  have hS' : addS m x 0 = x := by simpa using hS
  have hx : (x != 0) = true := by rw [bne_iff_ne]; omega
  have HM := keep hm
  clear hS hm
  go_wp2_with fail
  go_ret
  rw [HM.out]
  exact ⟨rfl, hb⟩
 | false =>
  rw [hm] at hS
  have hS' : addS m x 0 = 0 := by simpa using hS
  have HM := keep hm
  clear hS hm
  by_cases hx : x = 0
  ·subst hx
   go_wp2_with fail
   go_ret
   rw [HM.out]
   exact ⟨rfl, hb⟩
  ·have hx' : ((0 : Int) == x) = false := by rw [beq_eq_false_iff_ne]; omega
   go_wp2_with fail
   go_ret
   rw [HM.out]
   exact ⟨rfl, hb⟩
set_option maxHeartbeats 400000 in
theorem place_any (x : Int) (w : World) (h0 : 1 ≤ x) (h1 : x ≤ 1024) : Calls Tryz.prog 99 #[.int .i64 x] w fun e w' => e = .returned (.tuple #[.int .i64 ((x - 1) / 4), .int .i64 (2 * ((x - 1) % 4))]) ∧ w = w' := by
 go_enter Tryz.func99, Tryz.ntmps99
 go_wp2
 go_ret2
 exact ⟨rfl, rfl⟩
end Go.Proofs.YtmhepfehcakmjaaGreat
