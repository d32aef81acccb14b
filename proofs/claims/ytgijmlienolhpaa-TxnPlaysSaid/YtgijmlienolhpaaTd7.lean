
/- Those that have begun, put in their places one by one: the same list. No program is named. -/
import Derived.Test.YtgijmlienolhpaaTx5
import Derived.Test.YtgijmlienolhpaaTx2
namespace Go.Proofs.Ytgijmlienolhpaa

def posB (xid : Int) : List (Int × Int) → Nat
  | [] => 0
  | b :: r => if b.1 < xid then posB xid r + 1 else 0
def insB (x : Int × Int) (B : List (Int × Int)) : List (Int × Int) := B.take (posB x.1 B) ++ x :: B.drop (posB x.1 B)
theorem posB_le (xid : Int) (B : List (Int × Int)) : posB xid B ≤ B.length := by
  induction B with
  | nil => exact Nat.le_refl _
  | cons b r ih => rw [posB]; split <;> simp; exact ih
theorem posB_of (xid : Int) (B : List (Int × Int)) (k : Nat) (hk : k ≤ B.length) (hlt : ∀ j (h : j < B.length), j < k → B[j].1 < xid) : (k = B.length → posB xid B = k) ∧ ∀ h : k < B.length, ¬ B[k].1 < xid → posB xid B = k := by
  induction B generalizing k with
  | nil => exact ⟨fun h => by subst h; rfl, fun h => by simp at h⟩
  | cons x r ih =>
    cases k with
    | zero =>
      refine ⟨fun h => by simp at h, fun _ h => ?_⟩
      rw [posB, if_neg (show ¬ x.1 < xid from h)]
    | succ k =>
      have h0 : x.1 < xid := hlt 0 (by simp) (by omega)
      obtain ⟨i1, i2⟩ := ih k (by simpa using hk) (fun j hj hjk => hlt (j + 1) (by simpa using hj) (by omega))
      rw [posB, if_pos h0]
      exact ⟨fun h => by rw [i1 (by simpa using h)], fun h1 h2 => by rw [i2 (by simpa using h1) h2]⟩
theorem insB_cons (x b : Int × Int) (r : List (Int × Int)) : insB x (b :: r) = if b.1 < x.1 then b :: insB x r else x :: b :: r := by
  unfold insB
  rw [posB]
  split <;> simp
theorem insB_perm (x : Int × Int) (B : List (Int × Int)) : (insB x B).Perm (x :: B) := by
  unfold insB
  have := List.perm_middle (a := x) (l₁ := B.take (posB x.1 B)) (l₂ := B.drop (posB x.1 B))
  rwa [List.take_append_drop] at this
theorem insB_up {x : Int × Int} {B : List (Int × Int)} (h : B.Pairwise fun a b => a.1 < b.1) (hn : ∀ b ∈ B, b.1 ≠ x.1) : (insB x B).Pairwise fun a b => a.1 < b.1 := by
  induction B with
  | nil => simp [insB, posB]
  | cons b r ih =>
    rw [List.pairwise_cons] at h
    rw [insB_cons]
    split
    · rename_i hlt
      rw [List.pairwise_cons]
      refine ⟨fun y hy => ?_, ih h.2 fun c hc => hn c (List.mem_cons_of_mem _ hc)⟩
      rcases List.mem_cons.1 ((insB_perm x r).mem_iff.1 hy) with rfl | hy
      · exact hlt
      · exact h.1 y hy
    · rename_i hlt
      have hb := hn b (List.mem_cons_self ..)
      rw [List.pairwise_cons, List.pairwise_cons]
      refine ⟨fun y hy => ?_, h⟩
      rcases List.mem_cons.1 hy with rfl | hy
      · omega
      · have := h.1 y hy; omega
def stepB (B : List (Int × Int)) (x : Int × Tn) : List (Int × Int) := if x.2.xid = 0 then B else insB (x.2.xid, x.2.last) B
def bD (S : St) : List (Int × Int) := S.foldl stepB []
theorem bD_go (S : St) : ∀ (B : List (Int × Int)), (B.Pairwise fun a b => a.1 < b.1) → (∀ b ∈ B, ∀ c ∈ begs S, b.1 ≠ c.1) → ((begs S).Pairwise fun a b => a.1 ≠ b.1) →
    (S.foldl stepB B).Perm (B ++ begs S) ∧ (S.foldl stepB B).Pairwise fun a b => a.1 < b.1 := by
  induction S with
  | nil => intro B h1 _ _; exact ⟨by simp [begs], h1⟩
  | cons x r ih =>
    intro B h1 h2 h3
    by_cases hx : x.2.xid = 0
    · have e : begs (x :: r) = begs r := by simp [begs, hx]
      rw [e] at h2 h3 ⊢
      rw [List.foldl_cons, show stepB B x = B by simp [stepB, hx]]
      exact ih B h1 h2 h3
    · have e : begs (x :: r) = (x.2.xid, x.2.last) :: begs r := by simp [begs, hx]
      rw [e] at h2 h3 ⊢
      rw [List.pairwise_cons] at h3
      rw [List.foldl_cons, show stepB B x = insB (x.2.xid, x.2.last) B by simp [stepB, hx]]
      have hp := insB_perm (x.2.xid, x.2.last) B
      obtain ⟨i1, i2⟩ := ih (insB (x.2.xid, x.2.last) B) (insB_up h1 fun b hb => h2 b hb _ (List.mem_cons_self ..)) (fun b hb c hc => by
        rcases List.mem_cons.1 (hp.mem_iff.1 hb) with rfl | hb
        · exact h3.1 c hc
        · exact h2 b hb c (List.mem_cons_of_mem _ hc)) h3.2
      exact ⟨i1.trans ((hp.append_right _).trans List.perm_middle.symm), i2⟩
theorem bD_is {K : Nat} {S : St} (h : Fit K S) : bD S = begunT S := by
  obtain ⟨h1, h2⟩ := bD_go S [] List.Pairwise.nil (by simp) (begs_apart h.ids)
  exact perm_up (fun b : Int × Int => b.1) ((show (bD S).Perm ([] ++ begs S) from h1).trans (begunT_perm S).symm) h2 (begunT_up h)
theorem insB_len (x : Int × Int) (B : List (Int × Int)) : (insB x B).length = B.length + 1 := by rw [(insB_perm x B).length_eq]; simp
theorem bD_len (S : St) : (bD S).length ≤ S.length := by
  unfold bD
  suffices h : ∀ B : List (Int × Int), (S.foldl stepB B).length ≤ B.length + S.length by simpa using h []
  induction S with
  | nil => intro B; simp
  | cons x r ih =>
    intro B
    rw [List.foldl_cons]
    have h1 := ih (stepB B x)
    have h2 : (stepB B x).length ≤ B.length + 1 := by
      unfold stepB
      split
      · omega
      · rw [insB_len]; exact Nat.le_refl _
    simp only [List.length_cons]
    omega
theorem bD_step (S : St) (k : Nat) (hk : k < S.length) : bD (S.take (k + 1)) = stepB (bD (S.take k)) S[k] := by
  unfold bD
  rw [List.take_succ_eq_append_getElem hk, List.foldl_append]
  rfl

end Go.Proofs.Ytgijmlienolhpaa
