import Derived.Test.YtigbgodbalpgdaaKOpn1
/- A string that is read: how long it may be. -/
namespace Go.Proofs.Ytigbgodbalpgdaa
open Go.ChangeShapes Go.WideShapes Go.ChangeAt Go.RowKit

section
variable {H : Type} {enc : TypeId × Value → H} {w : World} {base : Nat} {spare : Nat → Bool} {held : Bool} {r : Reach} {b0 : Nat}
set_option maxRecDepth 100000 in
theorem string_of_trod {v : Value} {d : DataW H} {p : List MemPlace} (hval : Value.okWide Try.prog w r b0 9 v) (h : DataW.Trod enc Try.prog w base spare held 9 v d p) (hl : Light Try.prog 9 d) : ∃ s : List UInt8, v = .string (str s) ∧ (s.length : Int) ≤ 4611686018427387904 := by
  obtain ⟨s0, rfl⟩ := okWide_string Try.underlying9 hval
  obtain ⟨fuel, hf⟩ := h
  have hf' : DataW.trod enc Try.prog w base spare held fuel 9 [.string s0] = some (d, p) := hf
  obtain ⟨s, h1, h2, _⟩ := DataW.trod_string Try.underlying9 hf'
  simp only [Prod.mk.injEq] at h2
  simp only [List.cons.injEq, Value.string.injEq, and_true] at h1
  subst h1
  refine ⟨s0.data.toList, by rw [str_of], ?_⟩
  have h3 := hl s0.data.toList.length (by rw [h2.1]; simp [DataW.weights])
  have e : reachBytes = 140737488351232 := by decide
  omega
end

end Go.Proofs.Ytigbgodbalpgdaa
