import Derived.Test.YtigbgodbalpgdaaKNd1
/- The document's answers: an entry, a child, a reader's small functions. -/
namespace Go.Proofs.Ytigbgodbalpgdaa
open Go.RowKit

theorem rsmall_any (n : Int) (w : World) : Calls Try.prog 64 #[.int .i64 n] w fun e w' => e = .returned (.bool (inB n 0 65535)) ∧ w = w' := by
  go_enter Try.func64, Try.ntmps64
  by_cases h1 : 0 ≤ n
  · by_cases h2 : n ≤ 65535
    · go_wp2_with fail
      go_ret
      exact ⟨by simp [inB, h1, h2], rfl⟩
    · go_wp2_with fail
      go_ret
      exact ⟨by simp [inB, h1, h2], rfl⟩
  · go_wp2_with fail
    go_ret
    exact ⟨by have : inB n 0 65535 = false := by (simp [inB]; omega)
              rw [this]; rfl, rfl⟩

theorem rchild_any (n : Int) (w : World) : Calls Try.prog 49 #[.int .i64 n] w fun e w' => e = .returned (.bool (inB n 1 65535)) ∧ w = w' := by
  go_enter Try.func49, Try.ntmps49
  by_cases h1 : 1 ≤ n
  · by_cases h2 : n ≤ 65535
    · go_wp2_with fail
      go_ret
      exact ⟨by simp [inB, h1, h2], rfl⟩
    · go_wp2_with fail
      go_ret
      exact ⟨by simp [inB, h1, h2], rfl⟩
  · go_wp2_with fail
    go_ret
    exact ⟨by have : inB n 1 65535 = false := by (simp [inB]; omega)
              rw [this]; rfl, rfl⟩

theorem rentry_any (e : En) (w : World) : Calls Try.prog 45 #[enV e] w fun x w' => x = .returned (.bool (enOk e)) ∧ Below w.heap.size w w' := by
  obtain ⟨k, p, s⟩ := e
  obtain ⟨w0, hw0⟩ : ∃ w0, w0 = w.alloc (.cells #[.string (str k), .int .i64 p, .int .i64 s] 23) := ⟨_, rfl⟩
  have hg0 : Grow w w0 := by subst hw0; exact (Grow.refl w).alloc _
  have hB0 : Blk w0 w.heap.size 23 [.string (str k), .int .i64 p, .int .i64 s] := by subst hw0; exact Blk.new w _ [_, _, _]
  obtain ⟨c0, c1, c2, _⟩ := enres hB0
  have hd : enOk (k, p, s) = (inB k.length 1 24 && (inB p 0 65535 && inB s 0 65535)) := rfl
  have h2 := fun u => rsmall_any p u
  have h3 := fun u => rsmall_any s u
  generalize inB p 0 65535 = B at *
  generalize inB s 0 65535 = C at *
  have HD := keep hd
  have H2 := keep h2
  have H3 := keep h3
  clear hd h2 h3
  unfold enV
  go_enter Try.func45, Try.ntmps45
  go_upto_region 1 with fail
  rw [← hw0]
  clear hw0
  by_cases h1 : 1 ≤ k.length
  · have h1' : (1 : Int) ≤ (k.length : Int) := by omega
    by_cases h4 : k.length ≤ 24
    · have h4' : (k.length : Int) ≤ 24 := by omega
      have hA : inB k.length 1 24 = true := by simp [inB, h1', h4']
      have HA := keep hA
      clear hA
      go_wp2_with fail
      refine (H2.out w0).mono ?_
      rintro x w1 ⟨rfl, rfl⟩
      cases B with
      | false =>
        go_wp2_with fail
        go_ret
        rw [HD.out, HA.out]
        exact ⟨rfl, hg0⟩
      | true =>
        go_wp2_with fail
        refine (H3.out w0).mono ?_
        rintro x w1 ⟨rfl, rfl⟩
        go_wp2_with fail
        go_ret
        rw [HD.out, HA.out]
        exact ⟨by cases C <;> rfl, hg0⟩
    · have h4' : ¬ (k.length : Int) ≤ 24 := by omega
      have hA : inB k.length 1 24 = false := by simp [inB, h4']
      have HA := keep hA
      clear hA
      go_wp2_with fail
      go_ret
      rw [HD.out, HA.out]
      exact ⟨rfl, hg0⟩
  · have h1' : ¬ (1 : Int) ≤ (k.length : Int) := by omega
    have hA : inB k.length 1 24 = false := by simp [inB, h1']
    have HA := keep hA
    clear hA
    go_wp2_with fail
    go_ret
    rw [HD.out, HA.out]
    exact ⟨rfl, hg0⟩

/-- A reader of the document: its bytes, its place, what is wrong. -/
def Rf (w : World) (b : Nat) (l : List UInt8) (at_ e : Int) : Prop := Blk w b 79 [.string (str l), .int .i64 at_, .int .i64 e]
theorem rwrong_any (b : Nat) (l : List UInt8) (a er n : Int) (w : World) (h : Rf w b l a er) : Calls Try.prog 78 #[.pointer (some ⟨b, 0, none⟩), .int .i64 n] w fun e w' =>
    e = .returned (.int .i64 0) ∧ Rf w' b l a n ∧ But b w w' := by
  obtain ⟨c0, c1, c2, f0, f1, f2⟩ := enres h
  go_enter Try.func78, Try.ntmps78
  go_wp2_with fail
  go_ret
  exact ⟨rfl, h.set 2 (.int .i64 n), (But.refl b w).setCell 2 _⟩
def rendE (l : List UInt8) (a e : Int) : Int := if e = 0 ∧ a < l.length then 12 else e
theorem rend_any (b : Nat) (l : List UInt8) (a er : Int) (w : World) (h : Rf w b l a er) : Calls Try.prog 57 #[.pointer (some ⟨b, 0, none⟩)] w fun e w' =>
    e = .returned (.int .i64 (rendE l a er)) ∧ Grow w w' := by
  obtain ⟨c0, c1, c2, f0, f1, f2⟩ := enres h
  go_enter Try.func57, Try.ntmps57
  by_cases h0 : er = 0
  · by_cases h1 : a < l.length
    · go_upto_region 1 with fail
      go_quiet (fail)
      go_wp2_with fail
      go_ret
      exact ⟨by simp [rendE, h0, h1], below_drewN (Grow.refl _) _⟩
    · go_upto_region 1 with fail
      go_quiet (fail)
      go_wp2_with fail
      go_ret
      exact ⟨by simp [rendE, h0, h1], below_drewN (Grow.refl _) _⟩
  · go_upto_region 1 with fail
    go_quiet (fail)
    go_wp2_with fail
    go_ret
    exact ⟨by simp [rendE, h0], below_drewN (Grow.refl _) _⟩

end Go.Proofs.Ytigbgodbalpgdaa
