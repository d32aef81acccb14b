import Derived.Test.YtmhepfehcakmjaaGreatKShl
import Derived.Test.YtmhepfehcakmjaaGreatKQVr3
namespace Go.Proofs.YtmhepfehcakmjaaGreat.Vac
open Go.RowKit
open Go.Sort (Holds putRow putRow_self holds_ahead)
theorem grow_ahead (w : World) (n : Nat) : Grow w (Go.Sort.ahead w n) := ⟨rfl, rfl, rfl, Nat.le_refl _, fun _ _ => rfl⟩
theorem grow_grow' (w : World) (os : Array Obj) : Grow w (Go.Sort.grow w os) := ⟨rfl, rfl, rfl, by simp [Go.Sort.grow], fun k hk => by
 simp only [Go.Sort.grow]
 rw [Array.getElem?_append_left hk]⟩
theorem getD_list (S : List Int) (j : Nat) (hj : j < S.length) : S.toArray[j]! = S[j] := by
 rw [getElem!_pos S.toArray j (by simpa using hj)]
 simp
theorem holds_own {B : Nat} {w : World} {v : Value} {S : List Int} (h : OwnI B w v S) (hne : S ≠ []) :
  ∃ g cap, v = .slice (some ⟨g, 0, none⟩) S.length cap ∧ g < w.heap.size ∧ Holds (Value.int .i64) w g 0 S.toArray ∧ S.length ≤ cap := by
 obtain ⟨h1, h2⟩ := h
 rcases h2 with ⟨rfl, h3⟩ | ⟨g, cap, cur, rfl, _, hg, hcap, _, hsz, ht⟩
 ·exact absurd (List.eq_nil_of_length_eq_zero h3) hne
 ·refine ⟨g, cap, rfl, lt_of_block hg, ?_, hcap⟩
  intro j hj
  have hj' : j < S.length := by simpa using hj
  have e : cur[j]? = some (.int .i64 S[j]) := by
   have e1 : (cur.toList.take (S.length * 1))[j]? = (iCells S)[j]? := by rw [ht]
   rw [List.getElem?_take, if_pos (by omega)] at e1
   rw [Array.getElem?_toList] at e1
   rw [e1]
   simp [iCells, hj']
  refine ⟨?_, ?_⟩
  ·rw [getD_list S j hj', Nat.zero_add]
   simp [World.cell?, hg, e]
  ·simp [World.frozen?, hg]
theorem sorts_any (S : List Int) (hasc : S.Pairwise (· < ·)) (hne : S ≠ []) (v : Value) (B : Nat) (w : World) (h : OwnI B w v S) (hl : (S.length : Int) < 4611686018427387904) :
  Calls Tryz.prog 29 #[v] w fun e w' => e = .returned (.tuple #[]) ∧ Grow w w' := by
 obtain ⟨g, cap, rfl, hg, hH, _⟩ := holds_own h hne
 refine (Tryz.slices_Sort_int g 0 cap S w hH hg (by omega)).mono ?_
 rintro e w' ⟨rfl, n, os, rfl⟩
 refine ⟨rfl, ?_⟩
 have es : (S.mergeSort fun x y => decide (x ≤ y)) = S := List.mergeSort_of_pairwise (hasc.imp (fun h => by simp; omega))
 rw [es, putRow_self _ _ _ _ _ (holds_ahead _ _ _ _ _ _ hH)]
 exact Grow.trans (grow_ahead w n) (grow_grow' _ os)
theorem compact_asc (S : List Int) (hasc : S.Pairwise (· < ·)) : Lib.compact S = S := by
 refine Lib.compact_all S ?_
 intro j hj
 by_cases h0 : j = 0
 ·subst h0; simp [Lib.keeps]
 ·refine Lib.keeps_pos ?_
  rw [getD_list S j hj, getD_list S (j - 1) (by omega)]
  have := List.pairwise_iff_getElem.1 hasc (j - 1) j (by omega) hj (by omega)
  omega
theorem compacts_any (S : List Int) (hasc : S.Pairwise (· < ·)) (hne : S ≠ []) (v : Value) (B : Nat) (w : World) (h : OwnI B w v S) (hl : (S.length : Int) < 4611686018427387904) :
  Calls Tryz.prog 30 #[v] w fun e w' => e = .returned v ∧ Grow w w' := by
 obtain ⟨g, cap, rfl, hg, hH, hcap⟩ := holds_own h hne
 refine (Tryz.slices_Compact_int g 0 cap S w hH (by omega) hcap).mono ?_
 rintro e w' ⟨rfl, n, rfl⟩
 rw [compact_asc S hasc, Nat.sub_self, List.replicate_zero, List.append_nil, putRow_self _ _ _ _ _ (holds_ahead _ _ _ _ _ _ hH)]
 exact ⟨rfl, grow_ahead w n⟩
theorem clones_any (S : List Int) (v : Value) (w : World) (h : Ints w v S) (hl : (S.length : Int) ≤ 8796093022208) :
  Calls Tryz.prog 44 #[v] w fun e w' => ∃ v', e = .returned v' ∧ RowS w' 3 v' S.length (iCells S) ∧ Below w.heap.size w w' := by
 rcases h with ⟨h1, _, a, cap, rfl⟩ | ⟨c, off, cap, rfl, hc⟩
 ·have hS : S = [] := List.eq_nil_of_length_eq_zero h1
  subst hS
  cases a with
  | none =>
   refine (Tryz.slices_Clone_int_nil 0 cap w).mono ?_
   rintro e w' ⟨rfl, rfl⟩
   exact ⟨_, rfl, RowS.nil _ _ _ _, Below.refl _ _⟩
  | some a =>
   refine (Tryz.slices_Clone_int_zero a cap w).mono ?_
   rintro e w' ⟨v', rfl, ho, _, hb⟩
   exact ⟨v', rfl, own_row ho, hb⟩
 ·refine (Tryz.slices_Clone_int c off S.length cap S w (Nat.le_refl _) (by omega) ?_).mono ?_
  ·intro j hj
   rw [hc j (by simpa [iCells] using hj)]
   simp [iCells, hj]
  ·rintro e w' ⟨v', rfl, ho, _, hb⟩
   rw [List.take_length] at ho
   exact ⟨v', rfl, own_row ho, hb⟩
end Go.Proofs.YtmhepfehcakmjaaGreat.Vac
