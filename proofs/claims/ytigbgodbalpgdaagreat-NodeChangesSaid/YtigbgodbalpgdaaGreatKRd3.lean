import Derived.Test.YtigbgodbalpgdaaGreatKRp1
import Derived.Test.YtigbgodbalpgdaaGreatKEqe
/- The document's answers: Compare. -/
namespace Go.Proofs.YtigbgodbalpgdaaGreat
open Go.RowKit

attribute [local simp] eql_entry
attribute [local go_sem] guard_entry

theorem bless_cb : ∀ a b : List UInt8, Op.bytesLess a b = decide (Lib.compareBytes a b = -1)
  | [], [] => by simp [Op.bytesLess, Lib.compareBytes]
  | _ :: _, [] => by simp [Op.bytesLess, Lib.compareBytes]
  | [], _ :: _ => by simp [Op.bytesLess, Lib.compareBytes]
  | a :: x, b :: y => by
    rw [Op.bytesLess, bless_cb x y, Lib.compareBytes]
    by_cases h1 : a < b
    · simp [h1]
    · by_cases h2 : b < a
      · have h3 : ¬ a = b := by rintro rfl; exact h1 h2
        simp [h1, h2, h3]
      · have h3 : a = b := UInt8.le_antisymm (UInt8.not_lt.1 h2) (UInt8.not_lt.1 h1)
        simp [h3]
theorem cmp_two {a b : En} (h : sameE a b = false) : cmpE a b = if Op.bytesLess a.1 b.1 = true ∨ a.1 = b.1 ∧ (a.2.1 < b.2.1 ∨ a.2.1 = b.2.1 ∧ a.2.2 < b.2.2) then -1 else 1 := by
  have h1 := cmpE_lt (a := a) (b := b)
  have hb : (Op.bytesLess a.1 b.1 = true) ↔ Lib.compareBytes a.1 b.1 = -1 := by rw [bless_cb, decide_eq_true_eq]
  split
  · rename_i h2
    exact h1.2 (h2.imp hb.1 id)
  · rename_i h2
    have h3 : cmpE a b ≠ -1 := fun h4 => h2 ((h1.1 h4).imp hb.2 id)
    have h5 : cmpE a b ≠ 0 := fun h4 => of_decide_eq_false h (cmpE_eq.1 h4)
    rcases cmpE_three a b with h6 | h6 | h6
    · exact absurd h6 h3
    · exact absurd h6 h5
    · exact h6

set_option maxRecDepth 100000 in
set_option maxHeartbeats 1000000 in
theorem rcompare_any (a b : En) (w_ : World) : Calls Tryz.prog 23 #[enV a, enV b] w_ fun x w' => x = .returned (.int .i64 (cmpE a b)) ∧ Below w_.heap.size w_ w' := by
  obtain ⟨k, p, s⟩ := a
  obtain ⟨k2, p2, s2⟩ := b
  obtain ⟨w0, hw0⟩ : ∃ w0, w0 = (w_.alloc (.cells #[.string (str k), .int .i64 p, .int .i64 s] 26)).alloc (.cells #[.string (str k2), .int .i64 p2, .int .i64 s2] 26) := ⟨_, rfl⟩
  have hg0 : Grow w_ w0 := by subst hw0; exact ((Grow.refl w_).alloc _).alloc _
  have hA : Blk w0 w_.heap.size 26 [.string (str k), .int .i64 p, .int .i64 s] := by subst hw0; exact (Blk.new w_ _ [_, _, _]).alloc _
  have hB : Blk w0 (w_.heap.size + 1) 26 [.string (str k2), .int .i64 p2, .int .i64 s2] := by
    have := Blk.new (w_.alloc (.cells #[.string (str k), .int .i64 p, .int .i64 s] 26)) 26 [.string (str k2), .int .i64 p2, .int .i64 s2]
    have e1 : (w_.alloc (.cells #[.string (str k), .int .i64 p, .int .i64 s] 26)).heap.size = w_.heap.size + 1 := by simp
    rw [e1] at this
    subst hw0
    exact this
  obtain ⟨c0, c1, c2, _⟩ := enres hA
  obtain ⟨d0, d1, d2, _⟩ := enres hB
  unfold enV
  go_enter Tryz.func23, Tryz.ntmps23
  go_upto_region 1 with fail
  rw [← hw0]
  clear hw0
  cases hS : sameE (k, p, s) (k2, p2, s2) with
  | true =>
    go_wp2_with fail
    go_ret
    have h1 : (k, p, s) = (k2, p2, s2) := of_decide_eq_true hS
    refine ⟨?_, hg0⟩
    rw [h1, cmpE_self]
    rfl
  | false =>
    have hc := cmp_two hS
    dsimp only at hc
    have HC := keep hc
    clear hc
    go_upto_region 3 with fail
    clear hS
    go_wp2_with fail
    all_goals go_ret
    all_goals refine ⟨?_, hg0⟩
    all_goals (rw [HC.out]; simp only [str_list] at *)
    all_goals (split <;> first | rfl | (exfalso; simp_all; done) | (exfalso; simp_all; omega))

end Go.Proofs.YtigbgodbalpgdaaGreat
