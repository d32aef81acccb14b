import Derived.Test.YtigbgodbalpgdaaKBits1
/- Readers, one taking behind the other. -/
namespace Go.Proofs.Ytigbgodbalpgdaa
open Go.RowKit

/-- A second text of bytes, behind a first one. -/
def rdText2 (most : Int) (x : List UInt8 × List UInt8 × Int) : List UInt8 × List UInt8 × Int :=
  if x.2.2 = 0 then rdTextS most x.2.1 else ([], x.2.1, x.2.2)

/-- A number of bytes, behind what was taken before. -/
def rdNum2 (most : Int) (x : List UInt8 × Int) : Int × List UInt8 × Int :=
  if x.2 = 0 then rdNumS most x.1 else (0, x.1, x.2)

theorem rdText_any (b : Nat) (most : Int) (x : List UInt8 × List UInt8 × Int) (w : World) (h : Rd w b (str x.2.1) x.2.2) (hs : (x.2.1.length : Int) ≤ 9223372036854775807) (hm : ¬ most < 0) :
    Calls Try.prog 52 #[.pointer (some ⟨b, 0, none⟩), .int .i64 most] w fun e w' =>
    e = .returned (.string (str (rdText2 most x).1)) ∧ Rd w' b (str (rdText2 most x).2.1) (rdText2 most x).2.2 ∧ But b w w' := by
  obtain ⟨k, l, e⟩ := x
  simp only at h hs
  unfold rdText2
  by_cases he : e = 0
  · subst he
    rw [if_pos rfl]
    exact rdText_ok b (str l) most w h (by unfold maxLen; simp; omega) hm
  · rw [if_neg he]
    refine (rdText_bad b (str l) e most w h he).mono ?_
    rintro x w' ⟨rfl, rfl⟩
    exact ⟨rfl, h, But.refl _ _⟩

theorem rdNum_any (b : Nat) (most : Int) (x : List UInt8 × Int) (w : World) (h : Rd w b (str x.1) x.2) (hs : (x.1.length : Int) ≤ 9223372036854775807) (hm : ¬ most < 0) :
    Calls Try.prog 53 #[.pointer (some ⟨b, 0, none⟩), .int .i64 most] w fun e w' =>
    e = .returned (.int .i64 (rdNum2 most x).1) ∧ Rd w' b (str (rdNum2 most x).2.1) (rdNum2 most x).2.2 ∧ But b w w' := by
  obtain ⟨l, e⟩ := x
  simp only at h hs
  unfold rdNum2
  by_cases he : e = 0
  · subst he
    rw [if_pos rfl]
    exact rdNum_ok b (str l) most w h (by unfold maxLen; simp; omega) hm
  · rw [if_neg he]
    refine (rdNum_bad b (str l) e most w h he).mono ?_
    rintro x w' ⟨rfl, rfl⟩
    exact ⟨rfl, h, But.refl _ _⟩

end Go.Proofs.Ytigbgodbalpgdaa
