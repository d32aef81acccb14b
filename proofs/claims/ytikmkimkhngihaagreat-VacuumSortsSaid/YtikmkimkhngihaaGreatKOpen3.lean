
import Derived.Test.YtikmkimkhngihaaGreatKOpen2
/- The statement's three arguments, whole. -/
namespace Go.Proofs.YtikmkimkhngihaaGreat
open Go.ChangeShapes Go.WideShapes Go.ChangeAt Go.RowKit

instance : Inhabited Sl := ⟨sl0⟩

section
variable {H : Type} {enc : TypeId × Value → H} {w : World} {base : Nat} {spare : Nat → Bool} {held : Bool} {r : Reach} {b0 : Nat}

theorem reach_num {n k : Nat} (h : n * k ≤ reachBytes) : n * k ≤ 140737488351232 := by
  have e : reachBytes = 140737488351232 := by decide
  omega

set_option maxRecDepth 100000 in
theorem lawpage_of_trod {v : Value} {d : DataW H} {p : List MemPlace} (hval : Value.okWide Tryz.prog w r b0 24 v) (h : DataW.Trod enc Tryz.prog w base spare held 24 v d p) (hl : Light Tryz.prog 24 d) :
    ∃ (m fr : Int) (sv : Value) (l : List (Int × Nat)), v = .agg #[.int .i64 m, .int .i64 fr, sv] ∧ Row w 59 sv l.length (saidCells l) ∧ (l.length : Int) ≤ 70368744177664 ∧ ∀ x ∈ l, x.2 < 256 := by
  obtain ⟨cs, rfl, hsz⟩ := okWide_struct Tryz.underlying24 hval
  obtain ⟨fuel, hf⟩ := h
  obtain ⟨n, parts, hd, hc, hF⟩ := field_at Tryz.underlying24 hf
  rw [cellsLawPage] at hsz hc
  simp only [Value.cells] at hf hF hc
  obtain ⟨a, b, c, hcs⟩ := len3 hc
  obtain ⟨l0⟩ := cs
  simp only at hcs
  subst hcs
  obtain ⟨y0, h0, _⟩ := hF 0 _ rfl
  obtain ⟨y1, h1, _⟩ := hF 1 _ rfl
  obtain ⟨y2, h2, p2⟩ := hF 2 _ rfl
  have hd' : d = .agg parts := hd
  subst hd'
  have hl2 := hl.part Tryz.underlying24 (i := 2) rfl p2
  simp only [List.getElem_toArray, List.getElem_cons_zero, List.getElem_cons_succ] at h0 h1 h2 hl2
  rw [cellsInt] at h0 h1
  rw [cellsSaids] at h2
  obtain ⟨x, rfl⟩ := one_int h0
  obtain ⟨z, rfl⟩ := one_int h1
  obtain ⟨l, g1, g3, g2⟩ := rows_of_trod (fun x : Int × Nat => [Value.int .i64 x.1, Value.int .u8 x.2]) (fun x => x.2 < 256) 2 59 (by decide) Tryz.underlying22 cellsSaid (fun _ => rfl) said_shape h2
  have hlen := light_len hl2 Tryz.underlying22 g2
  rw [bytesSaid] at hlen
  have := reach_num hlen
  exact ⟨x, z, c, l, rfl, g1, by omega, g3⟩

end
end Go.Proofs.YtikmkimkhngihaaGreat
