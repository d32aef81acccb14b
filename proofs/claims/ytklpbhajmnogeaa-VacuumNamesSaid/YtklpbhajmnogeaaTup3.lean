/- tuple: what a slot holds. -/
import Derived.Test.YtklpbhajmnogeaaTup2
namespace Go.Proofs.Ytklpbhajmnogeaa
open Go.RowKit

set_option maxHeartbeats 400000 in
theorem free_any (w : World) : Calls Try.prog 12 #[] w fun e w' => e = .returned (.string ⟨#[]⟩) ∧ w = w' := by
  go_enter Try.func12, Try.ntmps12
  go_wp2
  go_ret
  exact ⟨rfl, rfl⟩

theorem decode_any (s : ByteArray) (w : World) (hs : (s.size : Int) ≤ 9223372036854775807) : Calls Try.prog 15 #[.string s] w (DecPost s.data.toList w) := by
  by_cases h : s.size < 5
  · exact dec_short s w h
  · exact dec_long s w (by omega) hs

theorem decS_ok {l : List UInt8} {t : Tup} (h : decS l = some t) : decOk l = true ∧ t = decParts l := by
  unfold decS at h
  split at h
  · rename_i hok; exact ⟨hok, by simpa using h.symm⟩
  · cases h

/-- The bytes of a dead slot. -/
def deadS (key : List UInt8) : List UInt8 := sev 4 ++ txt key

set_option maxHeartbeats 1000000 in
theorem dead_ok (key : ByteArray) (w : World) (h : fitsB key = true) : Calls Try.prog 13 #[.string key] w fun e w' =>
    e = .returned (.tuple #[.string (str (deadS key.data.toList)), .int .i64 0]) ∧ Below w.heap.size w w' := by
  have h6 : key.size ≤ 24 := by simp [fitsB] at h; omega
  go_enter Try.func13, Try.ntmps13
  go_wp2_with fail
  refine (fits_yes _ _ h).mono ?_
  rintro e w' ⟨rfl, rfl⟩
  go_wp2_with fail
  refine (wrNew w).mono ?_
  rintro e w1 ⟨rfl, hW1, hb1⟩
  go_wp2_with fail
  have hn := wrNum_some w.heap.size [] [4] w1.heap.size 0 1 #[.int .i64 4] (0, 0) (w1.alloc (.cells #[.int .i64 4] 3)) (hW1.alloc _) (by show (w1.heap.push _)[_]? = _; simp)
    (by intro j hj; simp at hj; subst hj; rfl) (by intro j hj; simp at hj; subst hj; simp) (by simp)
  refine hn.mono ?_
  rintro e w2 ⟨rfl, hW2, hb2⟩
  clear hn
  go_wp2_with fail
  refine (wrText _ _ _ _ hW2 (by have := sevs_length [4]; simp at this ⊢; omega)).mono ?_
  rintro e w3 ⟨rfl, hW3, hb3⟩
  go_wp2_with fail
  refine (wrBytes _ _ _ hW3).mono ?_
  rintro e w4 ⟨rfl, rfl⟩
  go_wp2_with fail
  go_ret2
  exact ⟨rfl, ((hb1.alloc hb1.size _).trans hb2).trans hb3⟩

set_option maxHeartbeats 1000000 in
theorem dead_bad (key : ByteArray) (w : World) (h : fitsB key = false) : Calls Try.prog 13 #[.string key] w fun e w' =>
    e = .returned (.tuple #[.string (str []), .int .i64 110]) ∧ w = w' := by
  go_enter Try.func13, Try.ntmps13
  go_wp2_with fail
  refine (fits_no _ _ h).mono ?_
  rintro e w' ⟨rfl, rfl⟩
  go_wp2_with fail
  go_ret2
  exact ⟨rfl, rfl⟩

def burNum (l : List UInt8) : Int × List UInt8 × Int := rdNumS 4 l
def burTxt (l : List UInt8) : List UInt8 × List UInt8 × Int := rdText2 24 ([], (burNum l).2.1, (burNum l).2.2)
/-- The key of a dead slot. -/
def buriedOk (l : List UInt8) : Bool := decide ((burTxt l).2.2 = 0) && decide ((burTxt l).2.1 = []) && decide ((burNum l).1 = 4) && !(burTxt l).1.isEmpty
def buriedS (l : List UInt8) : Option (List UInt8) := if buriedOk l then some (burTxt l).1 else none

def BurPost (l : List UInt8) (w : World) (e : Ending) (w' : World) : Prop :=
  e = .returned (.tuple #[.string (str ((buriedS l).getD [])), .bool (buriedS l).isSome]) ∧ Below w.heap.size w w'
theorem burPost_some {l : List UInt8} {w w' : World} (h : buriedOk l = true) (hb : Below w.heap.size w w') : BurPost l w (.returned (.tuple #[.string (str (burTxt l).1), .bool true])) w' := by
  unfold BurPost buriedS; rw [h]; exact ⟨rfl, hb⟩
theorem burPost_none {l : List UInt8} {w w' : World} (h : buriedOk l = false) (hb : Below w.heap.size w w') : BurPost l w (.returned (.tuple #[.string (str []), .bool false])) w' := by
  unfold BurPost buriedS; rw [h]; exact ⟨rfl, hb⟩

set_option maxHeartbeats 1000000 in
theorem buried_any (s : ByteArray) (w : World) (hs : (s.size : Int) ≤ 9223372036854775807) : Calls Try.prog 19 #[.string s] w (BurPost s.data.toList w) := by
  go_enter Try.func19, Try.ntmps19
  go_wp2_with fail
  refine (rdRead s w).mono ?_
  rintro e w1 ⟨rfl, hw1⟩
  have hrd1 : Rd w1 w.heap.size s 0 := by subst hw1; exact Blk.new w _ [_, _]
  have hb1 : Below w.heap.size w w1 := by subst hw1; exact (Below.refl _ _).alloc (Nat.le_refl _) _
  have hsz1 : w.heap.size < w1.heap.size := Blk.lt hrd1
  clear hw1
  go_wp2_with fail
  have hN := rdNum_ok w.heap.size s 4 w1 hrd1 (by unfold maxLen; omega) (by omega)
  have hNf := rdNumS_facts 4 s.data.toList
  obtain ⟨X, hX⟩ : ∃ X, X = rdNumS 4 s.data.toList := ⟨_, rfl⟩
  rw [← hX] at hN hNf
  have HX := keep hX
  have hl : (X.2.1.length : Int) ≤ 9223372036854775807 := by have := hNf.2.1; simp at this; omega
  clear hX hNf
  refine hN.mono ?_
  rintro e w2 ⟨rfl, hrd2, hbt2⟩
  clear hN
  go_wp2_with fail
  have hT := rdText_any w.heap.size 24 ([], X.2.1, X.2.2) w2 hrd2 hl (by omega)
  obtain ⟨Y, hY⟩ : ∃ Y, Y = rdText2 24 ([], X.2.1, X.2.2) := ⟨_, rfl⟩
  rw [← hY] at hT
  have HY := keep hY
  clear hY
  refine hT.mono ?_
  rintro e w3 ⟨rfl, hrd3, hbt3⟩
  clear hT
  go_wp2_with fail
  refine (rdEnd _ _ _ _ hrd3).mono ?_
  rintro e w4 ⟨rfl, rfl⟩
  generalize hE : (if Y.2.2 = 0 ∧ 0 < (str Y.2.1).size then (12 : Int) else Y.2.2) = E
  have hE0 : E = 0 ↔ (Y.2.2 = 0 ∧ Y.2.1 = []) := by
    rw [← hE]
    cases hy : Y.2.1 with
    | nil => simp
    | cons a l =>
      simp
      split
      · omega
      · assumption
  have hwb : Below w.heap.size w w3 := But.below (But.below hb1 hbt2 (Nat.le_refl _) (by omega)) hbt3 (Nat.le_refl _) (by have := hbt2.size; omega)
  have hok : buriedOk s.data.toList = (decide (E = 0) && decide (X.1 = 4) && !Y.1.isEmpty) := by
    unfold buriedOk
    have e1 : burNum s.data.toList = X := HX.out.symm
    have e2 : burTxt s.data.toList = Y := by unfold burTxt; rw [e1]; exact HY.out.symm
    rw [e1, e2, Bool.eq_iff_iff]
    simp only [Bool.and_eq_true, decide_eq_true_eq, hE0]
  have hy1 : (burTxt s.data.toList).1 = Y.1 := by
    have e1 : burNum s.data.toList = X := HX.out.symm
    unfold burTxt; rw [e1, ← HY.out]
  have HOK := keep hok
  have HY1 := keep hy1
  clear hE hE0 hok hy1
  have hstr : (str Y.1).toList.isEmpty = Y.1.isEmpty := by rw [str_list]
  by_cases h1 : E = 0
  · have h1' : (E != 0) = false := by simpa using h1
    by_cases h2 : X.1 = 4
    · have h2' : (X.1 != 4) = false := by simpa using h2
      cases h3 : Y.1.isEmpty with
      | true =>
        have hno : buriedOk s.data.toList = false := by rw [HOK.out, h3]; simp
        have HN := keep hno
        rw [h3] at hstr
        clear hno h3
        go_wp2_with fail
        go_ret2
        exact burPost_none HN.out hwb
      | false =>
        have hyes : buriedOk s.data.toList = true := by rw [HOK.out, h3]; simp [h1, h2]
        have HYes := keep hyes
        rw [h3] at hstr
        clear hyes h3
        go_wp2_with fail
        go_ret2
        have := burPost_some HYes.out hwb
        rw [HY1.out] at this
        exact this
    · have h2' : (X.1 != 4) = true := by simpa using h2
      have hno : buriedOk s.data.toList = false := by rw [HOK.out]; simp [h2]
      have HN := keep hno
      clear hno
      go_wp2_with fail
      go_ret2
      exact burPost_none HN.out hwb
  · have h1' : (E != 0) = true := by simpa using h1
    have hno : buriedOk s.data.toList = false := by rw [HOK.out]; simp [h1]
    have HN := keep hno
    clear hno
    go_wp2_with fail
    go_ret2
    exact burPost_none HN.out hwb

end Go.Proofs.Ytklpbhajmnogeaa
