
import Derived.Test.YtikmkimkhngihaaGreatKVp1
import Derived.Test.YtikmkimkhngihaaGreatKVq4
import Derived.Test.YtikmkimkhngihaaGreatKVc1
/- The document's reader: a text behind what was wrong before; its dead slots. -/
namespace Go.Proofs.YtikmkimkhngihaaGreat
open Go.RowKit
attribute [local go_sem] givesF_none givesF_some evalF_tmp evalF_const evalF_global evalF_func lookL isB_bool isB_undef givesUpon_value givesUpon_skip givesUpon_enter

theorem rrtext_bad (b : Nat) (l : List UInt8) (most : Int) (x : List UInt8 × Int) (w_ : World) (h : Rr w_ b l x) (he : x.2 ≠ 0) : Calls Tryz.prog 57 #[.pointer (some ⟨b, 0, none⟩), .int .i64 most] w_ fun e w' =>
    e = .returned (.string (str [])) ∧ Rr w' b l x ∧ But b w_ w' := by
  obtain ⟨y, er⟩ := x
  obtain ⟨a, ha2, hr1, hd⟩ := h
  dsimp only at hr1 hd he
  have HC := keep (rrnum_bad b l a er most w_ hr1 he)
  have HR1 := keep hr1
  have HD := keep hd
  clear hr1 hd
  go_enter Tryz.func57, Tryz.ntmps57
  go_wp2_with fail
  refine HC.out.mono ?_
  rintro x w1 ⟨rfl, hw1⟩
  subst hw1
  obtain ⟨c0, c1, c2, f0, f1, f2⟩ := enres HR1.out
  go_upto_region 2 with fail
  go_quiet (fail)
  go_wp2_with fail
  go_ret
  exact ⟨rfl, ⟨a, ha2, HR1.out, fun h => absurd h he⟩, But.drewN (But.refl b _)⟩
theorem rrtext2_any (b : Nat) (l : List UInt8) (most : Int) (x : List UInt8 × List UInt8 × Int) (w : World) (h : Rr w b l x.2) (hs : (l.length : Int) ≤ 4611686018427387904) (hm : 0 ≤ most) :
    Calls Tryz.prog 57 #[.pointer (some ⟨b, 0, none⟩), .int .i64 most] w fun e w' =>
    e = .returned (.string (str (rdText2 most x).1)) ∧ Rr w' b l (rdText2 most x).2 ∧ But b w w' := by
  obtain ⟨k, y, er⟩ := x
  unfold rdText2
  dsimp only at h ⊢
  by_cases he : er = 0
  · subst he
    rw [if_pos rfl]
    exact rrtext_any b l y most w h hs hm
  · rw [if_neg he]
    exact rrtext_bad b l most (y, er) w h he

/-- What the document says of a dead slot. -/
def deadN (l : List UInt8) : List UInt8 := if l.isEmpty || decide ((l.getD 0 0).toNat ≠ 4) then [] else (deadT l).1
theorem rdead_none (w : World) : Calls Tryz.prog 55 #[.string (str [])] w fun e w' =>
    e = .returned (.tuple #[.string (str (deadN [])), .bool (deadOk [])]) ∧ Below w.heap.size w w' := by
  have he : (str []).toList.isEmpty = true := by rw [str_list]; rfl
  have he2 : (str []).toList = [] := str_list []
  go_enter Tryz.func55, Tryz.ntmps55
  go_wp2_with fail
  go_ret2
  exact ⟨rfl, Grow.refl _⟩
set_option maxRecDepth 100000 in
set_option maxHeartbeats 1000000 in
theorem rdead_some (c : UInt8) (r : List UInt8) (w_ : World) (hs : (r.length : Int) ≤ 4611686018427387000) : Calls Tryz.prog 55 #[.string (str (c :: r))] w_ fun e w' =>
    e = .returned (.tuple #[.string (str (deadN (c :: r))), .bool (deadOk (c :: r))]) ∧ Below w_.heap.size w_ w' := by
  have hO : deadOk (c :: r) = (decide (c.toNat = 4) && (decide (endE (rdTextS 24 r).2 = 0) && fitsB (str (rdTextS 24 r).1))) := rfl
  have hN : deadN (c :: r) = if decide (c.toNat ≠ 4) then [] else (rdTextS 24 r).1 := rfl
  have x1 : (str (c :: r)).extract 1 (str (c :: r)).size = str r := extract_tail (str (c :: r)) 1
  have i0 : ∀ h : 0 < (str (c :: r)).size, ((str (c :: r))[0]'h).toNat = c.toNat := fun _ => rfl
  have hz : 0 < (str (c :: r)).size := by simp
  have hz1 : (1 : Int) ≤ (str (c :: r)).size := by simp; omega
  have hne : (str (c :: r)).toList.isEmpty = false := by rw [str_list]; rfl
  have hne1 : ¬ (str (c :: r)).toList = [] := by rw [str_list]; simp
  have hT := fun (u : World) (b : Nat) (h : Rr u b r (r, 0)) => rrtext_any b r r 24 u h (by omega) (by decide)
  have hE := fun (u : World) (b : Nat) (h : Rr u b r (rdTextS 24 r).2) => rrend_any b r (rdTextS 24 r).2 u h
  have hi0 := i0 hz
  have hc := c.toNat_lt
  clear i0
  generalize str (c :: r) = s at *
  generalize deadN (c :: r) = N at *
  generalize deadOk (c :: r) = O at *
  generalize c.toNat = C at *
  generalize hEE : endE (rdTextS 24 r).2 = EE at *
  generalize rdTextS 24 r = T at *
  obtain ⟨k, T2⟩ := T
  dsimp only at hT hE hO hN
  have HT := keep hT
  have HE := keep hE
  have HO := keep hO
  have HN := keep hN
  clear hT hE hO hN hEE
  have hne2 : ¬ s = ⟨#[]⟩ := by
    intro h; subst h; cases hz
  by_cases h4 : C = 4
  · subst h4
    obtain ⟨w0, hw0⟩ : ∃ w0, w0 = w_.alloc (.cells #[.string (str r), .int .i64 0, .int .i64 0] 104) := ⟨_, rfl⟩
    have hD0 : Rr w0 w_.heap.size r (r, 0) := by subst hw0; exact ⟨0, by omega, Blk.new w_ _ [_, _, _], fun _ => rfl⟩
    have hg0 : Grow w_ w0 := by subst hw0; exact (Grow.refl w_).alloc _
    go_enter Tryz.func55, Tryz.ntmps55
    go_upto_region 4 with fail
    rw [← hw0]
    clear hw0
    go_wp2_with fail
    refine (HT.out _ _ hD0).mono ?_
    rintro x w1 ⟨rfl, hD1, hb1⟩
    have hg1 := Below.step hg0 hb1 (Nat.le_refl _) hg0.size
    clear hD0 hg0
    go_wp2_with fail
    refine (HE.out _ _ hD1).mono ?_
    rintro x w2 ⟨rfl, hb2⟩
    have hg2 := Grow.trans hg1 hb2
    by_cases hEE : EE = 0
    · subst hEE
      go_wp2_with fail
      refine (rright_any _ _).mono ?_
      rintro x w3 ⟨rfl, rfl⟩
      go_wp2_with fail
      go_ret2
      rw [HO.out, HN.out]
      exact ⟨by simp, hg2⟩
    · go_wp2_with fail
      go_ret2
      rw [HO.out, HN.out]
      exact ⟨by simp [hEE], hg2⟩
  · go_enter Tryz.func55, Tryz.ntmps55
    go_wp2_with fail
    go_ret2
    rw [HO.out, HN.out]
    refine ⟨?_, Grow.refl _⟩
    simp [h4]
    rfl
theorem rdead_any (l : List UInt8) (w : World) (hs : (l.length : Int) ≤ 4611686018427387000) : Calls Tryz.prog 55 #[.string (str l)] w fun e w' =>
    e = .returned (.tuple #[.string (str (deadN l)), .bool (deadOk l)]) ∧ Below w.heap.size w w' := by
  cases l with
  | nil => exact rdead_none w
  | cons c r => exact rdead_some c r w (by simp at hs; omega)

end Go.Proofs.YtikmkimkhngihaaGreat
