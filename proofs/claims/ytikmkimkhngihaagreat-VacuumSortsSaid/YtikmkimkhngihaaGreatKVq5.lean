
import Derived.Test.YtikmkimkhngihaaGreatKVc1
import Derived.Test.YtikmkimkhngihaaGreatKVq3
/- What was read by sevens is what is laid; the document's text. -/
namespace Go.Proofs.YtikmkimkhngihaaGreat
open Go.RowKit

theorem byte_of (c : UInt8) : UInt8.ofNat c.toNat = c := by simp
theorem numGo_inv (most : Int) (f k : Nat) (acc n : Int) (l r : List UInt8) (h : numGo most f k acc l = (n, r, 0)) :
    ∃ m : Nat, n = acc + (m * 2 ^ (7 * k) : Nat) ∧ (0 < m ∨ k = 0) ∧ ∀ g, f ≤ g → l = sevF g m ++ r := by
  induction f generalizing k acc l with
  | zero => simp [numGo] at h
  | succ f ih =>
    cases l with
    | nil => simp [numGo] at h
    | cons c l =>
      rw [numGo] at h
      have hc := c.toNat_lt
      split at h
      · simp at h
      · rename_i h1
        split at h
        · rename_i h2
          obtain ⟨m, h3, h4, h5⟩ := ih (k + 1) _ l h
          have hm : 0 < m := by rcases h4 with h4 | h4 <;> omega
          have e2 : 2 ^ (7 * (k + 1)) = 128 * 2 ^ (7 * k) := by rw [Nat.mul_add, Nat.pow_add]; omega
          refine ⟨c.toNat % 128 + 128 * m, ?_, .inl (by omega), fun g hg => ?_⟩
          · rw [h3, e2, Int.add_assoc, ← Int.natCast_add]
            congr 2
            rw [Nat.add_mul, ← Nat.mul_assoc, Nat.mul_comm m 128]
          · obtain ⟨g, rfl⟩ : ∃ g', g = g' + 1 := ⟨g - 1, by omega⟩
            rw [sevF, if_neg (by omega), show (c.toNat % 128 + 128 * m) % 128 + 128 = c.toNat by omega, show (c.toNat % 128 + 128 * m) / 128 = m by omega, byte_of, List.cons_append, ← h5 g (by omega)]
        · rename_i h2
          split at h
          · simp at h
          · simp only [Prod.mk.injEq] at h
            obtain ⟨h3, h4, _⟩ := h
            refine ⟨c.toNat, ?_, by omega, fun g hg => ?_⟩
            · rw [← h3, Nat.mod_eq_of_lt (by omega)]
            · obtain ⟨g, rfl⟩ : ∃ g', g = g' + 1 := ⟨g - 1, by omega⟩
              rw [sevF, if_pos (by omega), byte_of, h4]
              rfl
theorem rdNumS_inv (most : Int) (l : List UInt8) (h : (rdNumS most l).2.2 = 0) : l = sev (rdNumS most l).1.toNat ++ (rdNumS most l).2.1 := by
  have h1 : rdNumS most l = ((rdNumS most l).1, (rdNumS most l).2.1, 0) := by rw [← h]
  generalize (rdNumS most l).1 = n at *
  generalize (rdNumS most l).2.1 = r at *
  unfold rdNumS at h1
  obtain ⟨m, h2, _, h3⟩ := numGo_inv most 9 0 0 n l r h1
  have h4 : n = m := by rw [h2]; simp
  rw [h4]
  exact h3 10 (by omega)
theorem rdTextS_inv (most : Int) (l : List UInt8) (h : (rdTextS most l).2.2 = 0) : l = txt (rdTextS most l).1 ++ (rdTextS most l).2.1 := by
  have hf := rdNumS_facts most l
  unfold rdTextS at h ⊢
  by_cases h1 : (rdNumS most l).2.2 = 0
  · rw [if_pos h1] at h ⊢
    have h3 := rdNumS_inv most l h1
    by_cases h2 : ((rdNumS most l).2.1.length : Int) < (rdNumS most l).1
    · rw [if_pos h2] at h
      simp at h
    · rw [if_neg h2]
      dsimp only
      have hl : ((rdNumS most l).2.1.take (rdNumS most l).1.toNat).length = (rdNumS most l).1.toNat := by rw [List.length_take]; omega
      rw [txt, hl, List.append_assoc, List.take_append_drop]
      exact h3
  · rw [if_neg h1] at h
    exact absurd h h1
theorem endE_zero {x : List UInt8 × Int} (h : endE x = 0) : x.2 = 0 ∧ x.1 = [] := by
  unfold endE at h
  split at h
  · cases h
  · rename_i h1
    refine ⟨h, ?_⟩
    rcases Nat.eq_zero_or_pos x.1.length with h2 | h2
    · exact List.length_eq_zero_iff.1 h2
    · exact absurd ⟨h, h2⟩ h1
theorem rtext_any (s : List UInt8) (w_ : World) (hl : s.length ≤ 1000000) :
    Calls Tryz.prog 77 #[.string (str s)] w_ fun x w' => x = .returned (.string (str (txt s))) ∧ Below w_.heap.size w_ w' := by
  have hn := fun (u : World) (v : Value) (h : IntsS u v [(s.length : Int)]) => rnum_any [(s.length : Int)] v u h.weak (by simp; omega) (by simp)
  have he : txt s = sevs [(s.length : Int)] ++ s := by simp [txt, sevs]
  have hlt : ¬ 9223372036854775807 < (sevs [(s.length : Int)]).length + s.length := by
    have := sevs_length [(s.length : Int)]
    simp only [List.length_cons, List.length_nil] at this
    omega
  have HE := keep he
  have HN := keep hn
  clear he hn
  go_enter Tryz.func77, Tryz.ntmps77
  go_wp2_with fail
  refine (HN.out _ _ (one_ints _ _)).mono ?_
  rintro x w1 ⟨rfl, hb1⟩
  go_wp2_with fail
  go_ret
  rw [HE.out, str_app]
  exact ⟨rfl, Grow.trans ((Grow.refl _).alloc _) hb1⟩
end Go.Proofs.YtikmkimkhngihaaGreat
