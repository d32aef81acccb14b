/- node.Decode. -/
import Derived.Test.YtigbgodbalpgdaaNd3
namespace Go.Proofs.Ytigbgodbalpgdaa
open Go.RowKit

def takeK (l : List UInt8) : List UInt8 × List UInt8 × Int := rdTextS 24 l
def takeP (l : List UInt8) : Int × List UInt8 × Int := rdNum2 65535 ((takeK l).2.1, (takeK l).2.2)
def takeS (l : List UInt8) : Int × List UInt8 × Int := rdNum2 65535 ((takeP l).2.1, (takeP l).2.2)
def takeC (l : List UInt8) : Int × List UInt8 × Int := rdNum2 65535 ((takeS l).2.1, (takeS l).2.2)
def endE (x : List UInt8 × Int) : Int := if x.2 = 0 ∧ 0 < x.1.length then 12 else x.2
def partE (l : List UInt8) : En := ((takeK l).1, (takeP l).1, (takeS l).1)
def decOkN (l : List UInt8) : Bool := decide (endE ((takeS l).2.1, (takeS l).2.2) = 0) && enOk (partE l)
/-- The entry of bytes, or the least and what is wrong. -/
def decN (l : List UInt8) : En × Int := if decOkN l then (partE l, 0) else (leastE, 140)

theorem num2_le (most : Int) (x : List UInt8 × Int) : (rdNum2 most x).2.1.length ≤ x.1.length := by
  unfold rdNum2; split
  · exact (rdNumS_facts most x.1).2.1
  · exact Nat.le_refl _
theorem takeK_le (l : List UInt8) : (takeK l).2.1.length ≤ l.length := (rdTextS_le 24 l).2
theorem takeP_le (l : List UInt8) : (takeP l).2.1.length ≤ l.length := Nat.le_trans (num2_le _ _) (takeK_le l)
theorem takeS_le (l : List UInt8) : (takeS l).2.1.length ≤ l.length := Nat.le_trans (num2_le _ _) (takeP_le l)
theorem takeC_le (l : List UInt8) : (takeC l).2.1.length ≤ l.length := Nat.le_trans (num2_le _ _) (takeS_le l)

theorem enset {w : World} {b t : Nat} {a0 a1 a2 : Value} (h : Blk w b t [a0, a1, a2]) (v0 v1 v2 : Value) :
    Blk (((w.setCell ⟨b, 0, none⟩ v0).setCell ⟨b, 1, none⟩ v1).setCell ⟨b, 2, none⟩ v2) b t [v0, v1, v2] := ((h.set 0 v0).set 1 v1).set 2 v2
theorem enbut (w : World) (b : Nat) (v0 v1 v2 : Value) : But b w (((w.setCell ⟨b, 0, none⟩ v0).setCell ⟨b, 1, none⟩ v1).setCell ⟨b, 2, none⟩ v2) :=
  (((But.refl b w).setCell 0 v0).setCell 1 v1).setCell 2 v2

set_option maxRecDepth 100000 in
set_option maxHeartbeats 2000000 in
theorem decode_any (l : List UInt8) (w_ : World) (hs : (l.length : Int) ≤ 9223372036854775807) :
    Calls Try.prog 15 #[.string (str l)] w_ fun x w' => x = .returned (.tuple #[enV (decN l).1, .int .i64 (decN l).2]) ∧ Below w_.heap.size w_ w' := by
  obtain ⟨w0, hw0⟩ : ∃ w0, w0 = (w_.alloc (.cells #[.string ⟨#[]⟩, .int .i64 0, .int .i64 0] 23)) := ⟨_, rfl⟩
  have hg0 : Grow w_ w0 := by subst hw0; exact (Grow.refl w_).alloc _
  have hR0 : Blk w0 w_.heap.size 23 [.string ⟨#[]⟩, .int .i64 0, .int .i64 0] := by subst hw0; exact Blk.new w_ _ [_, _, _]
  have hz0 : w_.heap.size < w0.heap.size := hR0.lt
  have h1 := takeK_le l
  have h2 := takeP_le l
  have h3 := takeS_le l
  have hd : decN l = if decide (endE ((takeS l).2.1, (takeS l).2.2) = 0) && enOk ((takeK l).1, (takeP l).1, (takeS l).1) then (((takeK l).1, (takeP l).1, (takeS l).1), 0) else (leastE, 140) := rfl
  have hK := fun u b (h : Rd u b (str l) 0) => rdText_ok b (str l) 24 u h (by unfold maxLen; simp; omega) (by decide)
  have hP := fun u b (h : Rd u b (str (takeK l).2.1) (takeK l).2.2) => rdNum_any b 65535 ((takeK l).2.1, (takeK l).2.2) u h (by dsimp only; omega) (by decide)
  have hS := fun u b (h : Rd u b (str (takeP l).2.1) (takeP l).2.2) => rdNum_any b 65535 ((takeP l).2.1, (takeP l).2.2) u h (by dsimp only; omega) (by decide)
  have hE := fun u b (h : Rd u b (str (takeS l).2.1) (takeS l).2.2) => rdEnd b (str (takeS l).2.1) (takeS l).2.2 u h
  have hee : (if (takeS l).2.2 = 0 ∧ 0 < (str (takeS l).2.1).size then (12 : Int) else (takeS l).2.2) = endE ((takeS l).2.1, (takeS l).2.2) := rfl
  simp only [str_toList] at hK
  rw [hee] at hE
  change ∀ u b, Rd u b (str (takeK l).2.1) (takeK l).2.2 → Calls _ _ _ _ (fun e w' => e = .returned (.int .i64 (takeP l).1) ∧ Rd w' b (str (takeP l).2.1) (takeP l).2.2 ∧ But b u w') at hP
  change ∀ u b, Rd u b (str (takeP l).2.1) (takeP l).2.2 → Calls _ _ _ _ (fun e w' => e = .returned (.int .i64 (takeS l).1) ∧ Rd w' b (str (takeS l).2.1) (takeS l).2.2 ∧ But b u w') at hS
  change ∀ u b, Rd u b (str l) 0 → Calls _ _ _ _ (fun e w' => e = .returned (.string (str (takeK l).1)) ∧ Rd w' b (str (takeK l).2.1) (takeK l).2.2 ∧ But b u w') at hK
  clear hee h1 h2 h3
  generalize endE ((takeS l).2.1, (takeS l).2.2) = EE at *
  generalize takeS l = S at *
  generalize takeP l = P at *
  generalize takeK l = K at *
  obtain ⟨k, kr, ke⟩ := K
  obtain ⟨p, pr, pe⟩ := P
  obtain ⟨s, sr, se⟩ := S
  dsimp only at hd hK hP hS hE
  have HD := keep hd
  have HK := keep hK
  have HP := keep hP
  have HS := keep hS
  have HE := keep hE
  clear hd hK hP hS hE
  go_enter Try.func15, Try.ntmps15
  go_upto_region 1 with fail
  rw [← hw0]
  clear hw0
  go_wp2_with fail
  refine (rdRead (str l) w0).mono ?_
  rintro x w1 ⟨rfl, hw1⟩
  have hg1 : Grow w0 w1 := by subst hw1; exact (Grow.refl _).alloc _
  have hD1 : Rd w1 w0.heap.size (str l) 0 := by subst hw1; exact Blk.new w0 _ [_, _]
  clear hw1
  have hR1 := hR0.fits hg1
  go_wp2_with fail
  refine (HK.out w1 _ hD1).mono ?_
  rintro x w2 ⟨rfl, hD2, hb2⟩
  have hR2 := hR1.but hb2 (by omega)
  go_wp2_with fail
  refine (HP.out w2 _ hD2).mono ?_
  rintro x w3 ⟨rfl, hD3, hb3⟩
  have hR3 := hR2.but hb3 (by omega)
  go_wp2_with fail
  refine (HS.out w3 _ hD3).mono ?_
  rintro x w4 ⟨rfl, hD4, hb4⟩
  have hR4 := hR3.but hb4 (by omega)
  have hbt : But w0.heap.size w1 w4 := (hb2.trans hb3).trans hb4
  have hg4 : Below w_.heap.size w_ w4 := But.below (Below.trans hg0 (hg1.mono (by omega))) hbt (by omega) (by have := hR1.lt; omega)
  clear hD1 hD2 hD3 hb2 hb3 hb4 hR1 hR2 hR3 hR0 hg0 hg1 hbt
  go_upto_region 3 with fail
  obtain ⟨w5, hw5⟩ : ∃ w5, w5 = w4.alloc (.cells #[.string (str k), .int .i64 p, .int .i64 s] 23) := ⟨_, rfl⟩
  rw [← hw5]
  have hg5 : Grow w4 w5 := by subst hw5; exact (Grow.refl _).alloc _
  have hN5 : Blk w5 w4.heap.size 23 [.string (str k), .int .i64 p, .int .i64 s] := by subst hw5; exact Blk.new w4 _ [_, _, _]
  have hD5 : Rd w5 w0.heap.size (str sr) se := Blk.fits hD4 hg5
  have hR5 := hR4.fits hg5
  have hgg : Grow w_ w5 := Below.trans hg4 (hg5.mono (by have := hR4.lt; omega))
  clear hw5 hg5 hD4 hR4 hg4
  obtain ⟨c0, c1, c2, _⟩ := enres hN5
  go_wp2_with fail
  refine (HE.out w5 _ hD5).mono ?_
  rintro x w6 ⟨rfl, rfl⟩
  by_cases hEE : EE = 0
  · subst hEE
    go_wp2_with fail
    refine (isEntry_any (k, p, s) w5).mono ?_
    rintro x w6 ⟨rfl, hb6⟩
    have hR6 := hR5.fits hb6
    have hN6 := hN5.fits hb6
    have hg6 := Grow.trans hgg hb6
    generalize enOk (k, p, s) = A at *
    clear c0 c1 c2 hR5 hN5 hD5 hb6 hgg
    obtain ⟨c0, c1, c2, _⟩ := enres hN6
    obtain ⟨r0, r1, r2, f0, f1, f2⟩ := enres hR6
    cases A with
    | true =>
      have Hset := keep (enset hR6 (.string (str k)) (.int .i64 p) (.int .i64 s))
      have Hbut := keep (enbut w6 w_.heap.size (.string (str k)) (.int .i64 p) (.int .i64 s))
      have Hlt := keep hR6.lt
      clear hR6 hN6
      go_wp2_with fail
      rw [HD.out]
      refine bodyPost_ret (v := .tuple #[enV (k, p, s), .int .i64 0]) ?_ rfl ⟨rfl, But.below hg6 Hbut.out (Nat.le_refl _) (Nat.le_of_lt Hlt.out)⟩
      obtain ⟨s0, s1, s2, _⟩ := enres Hset.out
      simp [results, Try.results15, go_sem, s0, s1, s2, enV]
    | false =>
      have Hset := keep (enset hR6 (.string ⟨#[]⟩) (.int .i64 0) (.int .i64 0))
      have Hbut := keep (enbut w6 w_.heap.size (.string ⟨#[]⟩) (.int .i64 0) (.int .i64 0))
      have Hlt := keep hR6.lt
      clear hR6 hN6
      go_wp2_with fail
      rw [HD.out]
      refine bodyPost_ret (v := .tuple #[enV leastE, .int .i64 140]) ?_ rfl ⟨rfl, But.below hg6 Hbut.out (Nat.le_refl _) (Nat.le_of_lt Hlt.out)⟩
      obtain ⟨s0, s1, s2, _⟩ := enres Hset.out
      simp [results, Try.results15, go_sem, s0, s1, s2, enV, leastE]
      rfl
  · have qE : (EE != 0) = true := by simp [hEE]
    have hd : decN l = (leastE, 140) := by rw [HD.out, decide_eq_false hEE]; rfl
    have HD2 := keep hd
    clear hd HD
    obtain ⟨r0, r1, r2, f0, f1, f2⟩ := enres hR5
    have Hset := keep (enset hR5 (.string ⟨#[]⟩) (.int .i64 0) (.int .i64 0))
    have Hbut := keep (enbut w5 w_.heap.size (.string ⟨#[]⟩) (.int .i64 0) (.int .i64 0))
    have Hlt := keep hR5.lt
    clear hR5 hN5 hD5 hEE
    go_wp2_with fail
    rw [HD2.out]
    refine bodyPost_ret (v := .tuple #[enV leastE, .int .i64 140]) ?_ rfl ⟨rfl, But.below hgg Hbut.out (Nat.le_refl _) (Nat.le_of_lt Hlt.out)⟩
    obtain ⟨s0, s1, s2, _⟩ := enres Hset.out
    simp [results, Try.results15, go_sem, s0, s1, s2, enV, leastE]
    rfl

end Go.Proofs.Ytigbgodbalpgdaa
