
import Derived.Test.YtikmkimkhngihaaGreatKClog8
/- Rows of ints; what slices says of them. -/
namespace Go.Proofs.YtikmkimkhngihaaGreat
open Go.RowKit

/-- The first place of an int. -/
def idxI (l : List Int) (x : Int) : Int := if l.contains x then (l.idxOf x : Int) else -1

theorem idxI_hit {l : List Int} {x : Int} {k : Nat} (hk : k < l.length) (h1 : ∀ y ∈ l.take k, y ≠ x) (h2 : l.getD k 0 = x) : idxI l x = k := by
  have hg : l[k] = x := by simpa [hk] using h2
  have hmem : l.contains x = true := by
    rw [List.contains_iff_mem]; exact hg ▸ List.getElem_mem hk
  unfold idxI
  rw [if_pos hmem]
  have e : l = l.take k ++ x :: l.drop (k + 1) := by
    rw [← hg, ← List.drop_eq_getElem_cons hk, List.take_append_drop]
  have : x ∉ l.take k := fun hm => h1 x hm rfl
  rw [e, List.idxOf_append, if_neg this]
  simp; omega
theorem idxI_none {l : List Int} {x : Int} (h1 : ∀ y ∈ l, y ≠ x) : idxI l x = -1 := by
  unfold idxI
  rw [if_neg]
  intro h
  rw [List.contains_iff_mem] at h
  exact h1 x h rfl

set_option maxHeartbeats 1000000 in
theorem index_any (v : Value) (l : List Int) (x : Int) (w : World) (hv : Ints w v l) (hlen : (l.length : Int) ≤ 70368744177664) :
    Calls Tryz.prog 94 #[v, .int .i64 x] w fun e w' => e = .returned (.int .i64 (idxI l x)) ∧ Below w.heap.size w w' := by
  obtain ⟨a, cap, rfl, hc⟩ := ints_form hv
  clear hv
  go_enter Tryz.func94, Tryz.ntmps94
  go_wp2_with fail
  go_loop [8] (fun i => ∃ k : Nat, k ≤ l.length ∧ i = .int .i64 k ∧ Kept (∀ y ∈ l.take k, y ≠ x)) (fun i => l.length - (intOf i).toNat)
  case atStart => exact ⟨0, Nat.zero_le _, rfl, keep (by simp)⟩
  case round =>
    obtain ⟨k, hk, rfl, hall⟩ := hrel
    by_cases hlt : k < l.length
    · obtain ⟨c, off, rfl, hcell⟩ := hc k hlt
      have hhit := @idxI_hit l x k hlt hall.out
      have htake : l.take (k + 1) = l.take k ++ [l.getD k 0] := by
        rw [List.take_succ_eq_append_getElem hlt]; simp [hlt]
      generalize l.getD k 0 = y at hcell hhit htake
      have HH := keep hhit
      have HT := keep htake
      clear hhit htake hc
      by_cases hxy : y = x
      · have e1 : (x == y) = true := by simp [hxy]
        go_wp2_with fail
        go_ret
        rw [HH.out hxy]
        exact ⟨rfl, Below.refl _ _⟩
      · have e1 : (x == y) = false := by simp; exact fun h => hxy h.symm
        go_wp2_with fail
        go_round
        case rel =>
          refine ⟨k + 1, by omega, by go_num, keep ?_⟩
          rw [HT.out]
          intro z hz
          rcases List.mem_append.mp hz with hz | hz
          · exact hall.out z hz
          · simp at hz; rw [hz]; exact hxy
        case measure => simp [intOf]; omega
    · have e : l.take k = l := List.take_of_length_le (by omega)
      have hn := @idxI_none l x (by have := hall.out; rw [e] at this; exact this)
      have HN := keep hn
      clear hn e
      go_wp2_with fail
      go_ret
      rw [HN.out]
      exact ⟨rfl, Below.refl _ _⟩

set_option maxHeartbeats 1000000 in
theorem contains_any (v : Value) (l : List Int) (x : Int) (w : World) (hv : Ints w v l) (hlen : (l.length : Int) ≤ 70368744177664) :
    Calls Tryz.prog 70 #[v, .int .i64 x] w fun e w' => e = .returned (.bool (l.contains x)) ∧ Below w.heap.size w w' := by
  have hi := index_any v l x w hv hlen
  have hd : decide (0 ≤ idxI l x) = l.contains x := by
    unfold idxI; split <;> rename_i h <;> rw [Bool.eq_iff_iff] <;> simp at h ⊢ <;> simp [h]
  generalize idxI l x = I at *
  have Hi := keep hi
  have HD := keep hd
  obtain ⟨a, cap, rfl, _⟩ := ints_form hv
  clear hi hv hd
  go_enter Tryz.func70, Tryz.ntmps70
  go_wp2_with fail
  refine Hi.out.mono ?_
  rintro e w1 ⟨rfl, hb⟩
  go_wp2_with fail
  go_ret
  rw [← HD.out]
  exact ⟨rfl, hb⟩

end Go.Proofs.YtikmkimkhngihaaGreat

/- The document's ring of ids (Right, id, Add, Gap, Before) and its search of a row of numbers. -/
namespace Go.Proofs.YtikmkimkhngihaaGreat
open Go.RowKit

theorem tmod2 (m : Int) (h : 0 ≤ m) : m.tmod 2 = m % 2 := Int.tmod_eq_emod_of_nonneg h
theorem rright7_any (m : Int) (w : World) : Calls Tryz.prog 97 #[.int .i64 m] w fun e w' => e = .returned (.bool (modB m)) ∧ w = w' := by
  have hM : modB m = (decide (16 ≤ m) && decide (m ≤ 1024) && decide (m % 2 = 0)) := rfl
  have HM := keep hM
  clear hM
  by_cases h1 : 16 ≤ m
  · have e2 := tmod2 m (by omega)
    by_cases h2 : m ≤ 1024
    · by_cases h3 : m % 2 = 0
      · rw [h3] at e2
        go_enter Tryz.func97, Tryz.ntmps97
        go_wp2_with fail
        go_ret
        rw [HM.out]
        exact ⟨by simp [h1, h2, h3], rfl⟩
      · have h4 : m % 2 = 1 := by omega
        rw [h4] at e2
        go_enter Tryz.func97, Tryz.ntmps97
        go_wp2_with fail
        go_ret
        rw [HM.out]
        exact ⟨by simp [h1, h2, h4], rfl⟩
    · go_enter Tryz.func97, Tryz.ntmps97
      go_wp2_with fail
      go_ret
      rw [HM.out]
      exact ⟨by simp [h1]; omega, rfl⟩
  · go_enter Tryz.func97, Tryz.ntmps97
    go_wp2_with fail
    go_ret
    rw [HM.out]
    exact ⟨by simp; omega, rfl⟩
def idB (m x : Int) : Bool := decide (1 ≤ x) && decide (x ≤ m)
theorem rid_any (m x : Int) (w : World) : Calls Tryz.prog 98 #[.int .i64 m, .int .i64 x] w fun e w' => e = .returned (.bool (idB m x)) ∧ w = w' := by
  go_enter Tryz.func98, Tryz.ntmps98
  by_cases h1 : 1 ≤ x
  · by_cases h2 : x ≤ m
    · go_wp2_with fail
      go_ret
      exact ⟨by simp [idB, h1, h2], rfl⟩
    · go_wp2_with fail
      go_ret
      exact ⟨by simp [idB, h1, h2], rfl⟩
  · go_wp2_with fail
    go_ret
    exact ⟨by simp [idB]; omega, rfl⟩
theorem idsB_one' (m x : Int) : idsB m [x] = (modB m && idB m x) := by
  unfold idsB idB; simp [Bool.and_comm]
theorem idsB_two' (m a b : Int) : idsB m [a, b] = (modB m && (idB m a && idB m b)) := by
  unfold idsB idB; simp [Bool.and_comm]

set_option maxHeartbeats 1000000 in
theorem radd_any (m x n : Int) (w : World) (hn0 : 0 ≤ n) (_hn1 : n ≤ 4611686018427387904) : Calls Tryz.prog 99 #[.int .i64 m, .int .i64 x, .int .i64 n] w fun e w' => e = .returned (.int .i64 (addS m x n)) ∧ w = w' := by
  have hS : addS m x n = if modB m && idB m x then (x - 1 + n) % m + 1 else 0 := by unfold addS; rw [idsB_one']
  have hr := fun (u : World) => rright7_any m u
  have hi := fun (u : World) => rid_any m x u
  have hb := @modB_bd m
  have hib : idB m x = true → 1 ≤ x ∧ x ≤ m := by
    intro h; simpa [idB] using h
  generalize modB m = M at *
  generalize idB m x = I at *
  generalize addS m x n = S at *
  have HS := keep hS
  have HR := keep hr
  have HI := keep hi
  clear hS hr hi
  go_enter Tryz.func99, Tryz.ntmps99
  cases M with
  | false =>
    go_wp2_with (go_at_call 97; refine (HR.out _).mono ?_; rintro e w' ⟨rfl, rfl⟩)
    go_ret
    rw [HS.out]
    exact ⟨rfl, rfl⟩
  | true =>
    cases I with
    | false =>
      go_wp2_with (first | (go_at_call 97; refine (HR.out _).mono ?_; rintro e w' ⟨rfl, rfl⟩) | (go_at_call 98; refine (HI.out _).mono ?_; rintro e w' ⟨rfl, rfl⟩))
      go_ret
      rw [HS.out]
      exact ⟨rfl, rfl⟩
    | true =>
      obtain ⟨hm1, hm2, _⟩ := hb rfl
      obtain ⟨hx1, hx2⟩ := hib rfl
      have e1 : n.tmod m = n % m := Int.tmod_eq_emod_of_nonneg hn0
      have hp := Int.emod_nonneg n (show m ≠ 0 by omega)
      have hq := Int.emod_lt_of_pos n (show 0 < m by omega)
      have e2 : (x - 1 + n % m).tmod m = (x - 1 + n) % m := by rw [Int.tmod_eq_emod_of_nonneg (by omega), Int.add_emod_emod]
      have hp2 := Int.emod_nonneg (x - 1 + n) (show m ≠ 0 by omega)
      have hq2 := Int.emod_lt_of_pos (x - 1 + n) (show 0 < m by omega)
      have hm0 : ¬ m = 0 := by omega
      have hS' : S = (x - 1 + n) % m + 1 := HS.out
      have HS' := keep hS'
      clear hb hib HS hS'
      generalize n % m = k at *
      generalize (x - 1 + n) % m = j at *
      go_wp2_with (first | (go_at_call 97; refine (HR.out _).mono ?_; rintro e w' ⟨rfl, rfl⟩) | (go_at_call 98; refine (HI.out _).mono ?_; rintro e w' ⟨rfl, rfl⟩))
      go_ret
      rw [HS'.out]
      exact ⟨rfl, rfl⟩

theorem add_hits {m a b k : Int} (hB : idsB m [a, b] = true) (h0 : 0 ≤ k) (h1 : k ≤ (b - a) % m) : addS m a k = b ↔ k = (b - a) % m := by
  obtain ⟨hm, ha1, ha2, hb1, hb2⟩ := idsB_two hB
  obtain ⟨hm1, hm2, _⟩ := modB_bd hm
  have hA : addS m a k = (a - 1 + k) % m + 1 := by
    unfold addS
    rw [if_pos (by rw [idsB_one', hm]; simp [idB]; omega)]
  rw [hA]
  by_cases hab : a ≤ b
  · have e1 : (b - a) % m = b - a := Int.emod_eq_of_lt (by omega) (by omega)
    rw [e1] at h1 ⊢
    rw [Int.emod_eq_of_lt (by omega) (by omega)]
    omega
  · have e1 : (b - a) % m = b - a + m := by
      rw [← Int.add_emod_right, Int.emod_eq_of_lt (by omega) (by omega)]
    rw [e1] at h1 ⊢
    by_cases hlt : a - 1 + k < m
    · rw [Int.emod_eq_of_lt (by omega) hlt]
      omega
    · have e2 : (a - 1 + k) % m = a - 1 + k - m := by
        rw [← Int.sub_emod_right, Int.emod_eq_of_lt (by omega) (by omega)]
      rw [e2]
      omega

set_option maxHeartbeats 1000000 in
theorem rgap_any (m a b : Int) (w : World) : Calls Tryz.prog 80 #[.int .i64 m, .int .i64 a, .int .i64 b] w fun e w' => e = .returned (.int .i64 (gapS m a b)) ∧ Below w.heap.size w w' := by
  have hr := fun (u : World) => rright7_any m u
  have hi := fun (u : World) => rid_any m a u
  have hj := fun (u : World) => rid_any m b u
  have hS : gapS m a b = if modB m && (idB m a && idB m b) then (b - a) % m else 0 := by unfold gapS; rw [idsB_two']
  have hadd := fun (u : World) (k : Int) (h0 : 0 ≤ k) (h1 : k ≤ 1024) => radd_any m a k u h0 (by omega)
  have hhit := fun k (h : (modB m && (idB m a && idB m b)) = true) => @add_hits m a b k (by rw [idsB_two']; exact h)
  have hb := @modB_bd m
  generalize modB m = M at *
  generalize idB m a = I at *
  generalize idB m b = J at *
  generalize gapS m a b = S at *
  have HS := keep hS
  have HR := keep hr
  have HI := keep hi
  have HJ := keep hj
  have HA := keep hadd
  have HH := keep hhit
  clear hS hr hi hj hadd hhit
  go_enter Tryz.func80, Tryz.ntmps80
  cases M with
  | false =>
    go_wp2_with fail
    refine (HR.out _).mono ?_
    rintro e w' ⟨rfl, rfl⟩
    go_wp2_with fail
    go_ret
    rw [HS.out]
    exact ⟨rfl, Below.refl _ _⟩
  | true =>
    go_wp2_with fail
    refine (HR.out _).mono ?_
    rintro e w' ⟨rfl, rfl⟩
    go_wp2_with fail
    refine (HI.out _).mono ?_
    rintro e w' ⟨rfl, rfl⟩
    cases I with
    | false =>
      go_wp2_with fail
      go_ret
      rw [HS.out]
      exact ⟨rfl, Below.refl _ _⟩
    | true =>
      go_wp2_with fail
      refine (HJ.out _).mono ?_
      rintro e w' ⟨rfl, rfl⟩
      cases J with
      | false =>
        go_wp2_with fail
        go_ret
        rw [HS.out]
        exact ⟨rfl, Below.refl _ _⟩
      | true =>
        obtain ⟨hm1, hm2, _⟩ := hb (by trivial)
        have hS' : S = (b - a) % m := HS.out
        have hp := Int.emod_nonneg (b - a) (show m ≠ 0 by omega)
        have hq := Int.emod_lt_of_pos (b - a) (show 0 < m by omega)
        have hH := fun k => HH.out k rfl
        rw [← hS'] at hp hq
        rw [← hS'] at hH
        have HH' := keep hH
        clear hb hS' HS HH hH HR HI HJ
        go_wp2_with fail
        go_loop [7] (fun n => ∃ k : Int, n = .int .i64 k ∧ 0 ≤ k ∧ k ≤ S) (fun n => (S - intOf n).toNat)
        case atStart => exact ⟨0, rfl, by omega, by omega⟩
        case round =>
          obtain ⟨k, rfl, hk0, hk1⟩ := hrel
          have hh := HH'.out k hk0 hk1
          have hc := HA.out w k hk0 (by omega)
          generalize addS m a k = A at *
          have HC := keep hc
          clear hc
          by_cases hA : k = S
          · have e1 : (A != b) = false := by simp [hh.2 hA]
            subst hA
            clear hh
            go_wp2_with fail
            refine HC.out.mono ?_
            rintro e w' ⟨rfl, rfl⟩
            go_wp2_with fail
            go_ret
            exact ⟨rfl, Below.refl _ _⟩
          · have e1 : (A != b) = true := by simp; exact fun h => hA (hh.1 h)
            clear hh
            go_wp2_with fail
            refine HC.out.mono ?_
            rintro e w' ⟨rfl, rfl⟩
            go_wp2_with fail
            go_round
            case rel => exact ⟨k + 1, by go_num, by omega, by omega⟩
            case measure => simp [intOf]; omega

set_option maxHeartbeats 400000 in
theorem rbefore_any (m a b : Int) (w : World) : Calls Tryz.prog 61 #[.int .i64 m, .int .i64 a, .int .i64 b] w fun e w' => e = .returned (.bool (beforeB m a b)) ∧ Below w.heap.size w w' := by
  have hbd := gapS_bd m a b
  have HB : Kept (beforeB m a b = (decide (0 < gapS m a b) && decide (gapS m a b < m / 2))) := keep rfl
  go_enter Tryz.func61, Tryz.ntmps61
  go_wp2_with fail
  refine (rgap_any _ _ _ _).mono ?_
  rintro e w' ⟨rfl, hb⟩
  generalize gapS m a b = g at *
  obtain ⟨hb0, hb1⟩ := hbd
  by_cases h0 : 0 < g
  · obtain ⟨hm1, hm2⟩ := hb1 h0
    clear hb1
    have e1 : m.tdiv 2 = m / 2 := Int.tdiv_eq_ediv_of_nonneg (by omega)
    by_cases h3 : g < m / 2
    · go_wp2_with fail
      go_ret
      rw [HB.out]
      refine ⟨?_, hb⟩
      simp [h0, h3]
      omega
    · go_wp2_with fail
      go_ret
      rw [HB.out]
      refine ⟨?_, hb⟩
      simp [h0]
      omega
  · clear hb1
    go_wp2_with fail
    go_ret
    rw [HB.out]
    refine ⟨?_, hb⟩
    have h0' : decide (0 < g) = false := by simp; omega
    rw [h0']
    rfl

theorem rin_any (v : Value) (l : List Int) (x : Int) (w : World) (hv : Ints w v l) (hlen : (l.length : Int) ≤ 70368744177664) :
    Calls Tryz.prog 78 #[v, .int .i64 x] w fun e w' => e = .returned (.bool (l.contains x)) ∧ Below w.heap.size w w' := by
  obtain ⟨a, cap, rfl, hc⟩ := ints_form hv
  clear hv
  go_enter Tryz.func78, Tryz.ntmps78
  go_wp2_with fail
  go_loop [5] (fun i => ∃ k : Nat, k ≤ l.length ∧ i = .int .i64 k ∧ Kept (∀ y ∈ l.take k, y ≠ x)) (fun i => l.length - (intOf i).toNat)
  case atStart => exact ⟨0, Nat.zero_le _, rfl, keep (by simp)⟩
  case round =>
    obtain ⟨k, hk, rfl, hall⟩ := hrel
    by_cases hlt : k < l.length
    · obtain ⟨c, off, rfl, hcell⟩ := hc k hlt
      have htake : l.take (k + 1) = l.take k ++ [l.getD k 0] := by
        rw [List.take_succ_eq_append_getElem hlt]; simp [hlt]
      have hmem : l.getD k 0 ∈ l := by
        simp only [List.getD_eq_getElem?_getD, List.getElem?_eq_getElem hlt, Option.getD_some]; exact List.getElem_mem hlt
      generalize l.getD k 0 = y at hcell htake hmem
      have HT := keep htake
      have HM := keep hmem
      clear htake hc hmem
      by_cases hxy : y = x
      · have e1 : (y == x) = true := by simp [hxy]
        go_wp2_with fail
        go_ret
        have hm := HM.out
        rw [hxy] at hm
        exact ⟨by simp [hm], Below.refl _ _⟩
      · have e1 : (y == x) = false := by simp [hxy]
        go_wp2_with fail
        go_round
        case rel =>
          refine ⟨k + 1, by omega, by go_num, keep ?_⟩
          rw [HT.out]
          intro z hz
          rcases List.mem_append.mp hz with hz | hz
          · exact hall.out z hz
          · simp at hz; rw [hz]; exact hxy
        case measure => simp [intOf]; omega
    · have e : l.take k = l := List.take_of_length_le (by omega)
      have hn : ¬ x ∈ l := by
        have h := hall.out
        rw [e] at h
        exact fun hm => h x hm rfl
      have HN := keep hn
      clear hn e
      go_wp2_with fail
      go_ret
      exact ⟨by simp [HN.out], Below.refl _ _⟩

end Go.Proofs.YtikmkimkhngihaaGreat
