
import Derived.Test.YtikmkimkhngihaaGreatKVc4
/- The document's State and Key of a slot's bytes. -/
namespace Go.Proofs.YtikmkimkhngihaaGreat
open Go.RowKit

theorem stateS_eq (l : List UInt8) : stateS l = if (decS l).isSome then 3 else if deadOk l then 2 else if l.isEmpty then 1 else 0 := by
  have hb : (buriedS l).isSome = deadOk l := by
    rw [dead_eq]; unfold buriedS
    cases buriedOk l <;> rfl
  unfold stateS
  rw [hb]
  cases l with
  | nil => rfl
  | cons a r => rfl
theorem keyS_eq (l : List UInt8) : keyS l = if (decS l).isSome then (((decS l).getD noTup).key, true) else if deadOk l then (deadN l, true) else ([], false) := by
  unfold keyS
  cases hd : (decS l).isSome with
  | true => rfl
  | false =>
    have e : deadOk l = buriedOk l := dead_eq l
    cases hk : deadOk l with
    | false =>
      rw [hk] at e
      unfold buriedS
      rw [← e]
      rfl
    | true =>
      have ht := dead_txt l hk
      have hN : deadN l = (deadT l).1 := by
        simp only [deadOk, Bool.and_eq_true, decide_eq_true_eq, Bool.not_eq_true'] at hk
        obtain ⟨h0, h1, -, -⟩ := hk
        unfold deadN
        rw [h0, h1]
        rfl
      rw [hk] at e
      unfold buriedS
      rw [← e, hN, ht]
      rfl

set_option maxRecDepth 100000 in
set_option maxHeartbeats 1000000 in
theorem rstate_any (l : List UInt8) (w : World) (hs : (l.length : Int) ≤ 4611686018427387000) : Calls Tryz.prog 26 #[.string (str l)] w fun e w' => e = .returned (.int .u8 (stateS l)) ∧ Below w.heap.size w w' := by
  have hd := rdec_any l w hs
  have hS := stateS_eq l
  have he : (str l).toList.isEmpty = l.isEmpty := by rw [str_list]
  unfold DecPost at hd
  have hbur := fun u => rdead_any l u hs
  generalize (decS l).getD noTup = T at *
  generalize (decS l).isSome = D at *
  generalize deadN l = K at *
  generalize deadOk l = B at *
  generalize l.isEmpty = Z at *
  generalize stateS l = S at *
  generalize str l = s at *
  have HS := keep hS
  have Hd := keep hd
  have Hbur := keep hbur
  clear hS hd hbur
  go_enter Tryz.func26, Tryz.ntmps26
  go_wp2_with fail
  refine Hd.out.mono ?_
  rintro e w1 ⟨rfl, hb1⟩
  have hg1 : Grow w (w1.alloc (.cells (tuCells T).toArray 61)) := Grow.alloc hb1 _
  have hB := Hbur.out (w1.alloc (.cells (tuCells T).toArray 61))
  unfold tuCells at hg1 hB
  have HB := keep hB
  clear hB
  unfold tupV
  cases D with
  | true =>
    go_wp2_with fail
    refine HB.out.mono ?_
    rintro e w2 ⟨rfl, hb2⟩
    have hg2 := Grow.trans hg1 hb2
    clear hg1 hb2
    go_wp2_with fail
    go_ret
    rw [HS.out]
    exact ⟨rfl, hg2⟩
  | false =>
    go_wp2_with fail
    refine HB.out.mono ?_
    rintro e w2 ⟨rfl, hb2⟩
    have hg2 := Grow.trans hg1 hb2
    clear hg1 hb2
    cases B with
    | true =>
      go_wp2_with fail
      go_ret
      rw [HS.out]
      exact ⟨rfl, hg2⟩
    | false =>
      cases Z with
      | true =>
        go_wp2_with fail
        go_ret
        rw [HS.out]
        exact ⟨rfl, hg2⟩
      | false =>
        go_wp2_with fail
        go_ret
        rw [HS.out]
        exact ⟨rfl, hg2⟩

set_option maxRecDepth 100000 in
set_option maxHeartbeats 1000000 in
theorem rkey_any (l : List UInt8) (w : World) (hs : (l.length : Int) ≤ 4611686018427387000) : Calls Tryz.prog 27 #[.string (str l)] w fun e w' => e = .returned (.tuple #[.string (str (keyS l).1), .bool (keyS l).2]) ∧ Below w.heap.size w w' := by
  have hd := rdec_any l w hs
  have hS := keyS_eq l
  unfold DecPost at hd
  have hbur := fun u => rdead_any l u hs
  generalize (decS l).getD noTup = T at *
  generalize (decS l).isSome = D at *
  generalize deadN l = K at *
  generalize deadOk l = B at *
  generalize keyS l = S at *
  generalize str l = s at *
  have HS := keep hS
  have Hd := keep hd
  have Hbur := keep hbur
  clear hS hd hbur
  go_enter Tryz.func27, Tryz.ntmps27
  go_wp2_with fail
  refine Hd.out.mono ?_
  rintro e w1 ⟨rfl, hb1⟩
  have hg1 : Grow w (w1.alloc (.cells (tuCells T).toArray 61)) := Grow.alloc hb1 _
  have hB := Hbur.out (w1.alloc (.cells (tuCells T).toArray 61))
  unfold tuCells at hg1 hB
  have HB := keep hB
  clear hB
  unfold tupV
  cases D with
  | true =>
    go_wp2_with fail
    go_ret2
    rw [HS.out]
    exact ⟨rfl, hg1⟩
  | false =>
    go_wp2_with fail
    refine HB.out.mono ?_
    rintro e w2 ⟨rfl, hb2⟩
    have hg2 := Grow.trans hg1 hb2
    clear hg1 hb2
    cases B with
    | true =>
      go_wp2_with fail
      go_ret2
      rw [HS.out]
      exact ⟨rfl, hg2⟩
    | false =>
      go_wp2_with fail
      go_ret2
      rw [HS.out]
      exact ⟨rfl, hg2⟩

end Go.Proofs.YtikmkimkhngihaaGreat
