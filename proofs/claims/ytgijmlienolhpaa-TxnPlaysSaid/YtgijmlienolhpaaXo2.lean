
/- The statement's calls, as they are read: their lists are such as an append takes. -/
import Derived.Test.YtgijmlienolhpaaXo1
import Derived.Test.YtgijmlienolhpaaTl5
namespace Go.Proofs.Ytgijmlienolhpaa
open Go.ChangeShapes Go.WideShapes Go.ChangeAt Go.RowKit

section
variable {H : Type} {enc : TypeId × Value → H} {w : World} {base : Nat} {spare : Nat → Bool} {held : Bool} {r : Reach} {b0 : Nat}
theorem src_of_ints {v : Value} {l : List Int} (h : Ints w v l) (hv : v = .slice none 0 0 ∨ ∃ a n c, v = .slice (some a) n c) : SrcOk w v l.length (iCells l) 1 := by
  refine ⟨by simp, ?_⟩
  rcases h with ⟨h0, h1, a, cap, h2⟩ | ⟨c, off, cap, rfl, hc⟩
  · rcases hv with rfl | ⟨ad, n, c, rfl⟩
    · exact .inl ⟨rfl, h0⟩
    · simp only [Value.slice.injEq] at h2
      refine .inr ⟨ad, c, by rw [h2.2.1, h0], fun j u hu => by rw [h1] at hu; simp at hu⟩
  · refine .inr ⟨⟨c, off, none⟩, cap, rfl, fun j u hu => ?_⟩
    have hlt : j < (iCells l).length := (List.getElem?_eq_some_iff.1 hu).1
    have h1 := hc j hlt
    rw [List.getElem?_eq_getElem hlt] at hu
    rw [Option.some.inj hu] at h1
    show w.cell? (Addr.add ⟨c, off, none⟩ j) = _
    rw [show (Addr.add ⟨c, off, none⟩ j) = ⟨c, off + j, none⟩ by simp [Addr.add]]
    exact h1
theorem sl_of_trod {n : Nat} {v : Value} {y : DataW H × List MemPlace} (h : DataW.trod enc Try.prog w base spare held n 26 [v] = some y) : v = .slice none 0 0 ∨ ∃ a n c, v = .slice (some a) n c := by
  rcases DataW.trod_slice Try.underlying26 h with ⟨hcs, _⟩ | ⟨a, len, cap, _, _, _, _, hcs, _⟩
  · simp only [List.cons.injEq, and_true] at hcs
    exact .inl hcs
  · simp only [List.cons.injEq, and_true] at hcs
    exact .inr ⟨a, len, cap, hcs⟩
theorem op_light2 (n : Nat) (cs : List Value) (y : DataW H × List MemPlace) (h : DataW.trod enc Try.prog w base spare held n 30 cs = some y) (hly : Light Try.prog 30 y.1) :
    ∃ p : Cl × Value, cs = opC p.1 p.2 ∧ ((Ints w p.2 p.1.act ∧ ClOk p.1 ∧ (Lit.int .i64 p.1.who).wf = true) ∧ SrcOk w p.2 p.1.act.length (iCells p.1.act) 1) := by
  obtain ⟨m, parts, hd, hl, hf⟩ := field_at Try.underlying30 h
  rw [cellsOp] at hl
  obtain ⟨a, b, c, d, e, f, rfl⟩ := len6 hl
  obtain ⟨y0, h0, _⟩ := hf 0 _ rfl
  obtain ⟨y1, h1, _⟩ := hf 1 _ rfl
  obtain ⟨y2, h2, _⟩ := hf 2 _ rfl
  obtain ⟨y3, h3, _⟩ := hf 3 _ rfl
  obtain ⟨y4, h4, p4⟩ := hf 4 _ rfl
  rw [hd] at hly
  have hl4 := hly.part Try.underlying30 (i := 4) rfl p4
  simp only [List.getElem_toArray, List.getElem_cons_zero, List.getElem_cons_succ] at h0 h1 h2 h3 h4 hl4
  rw [cellsInt] at h0 h1 h2
  rw [cellsBool] at h3
  rw [cellsSnap] at h4
  obtain ⟨x0, rfl, _⟩ := one_int h0
  obtain ⟨x1, rfl, w1⟩ := one_int h1
  obtain ⟨x2, rfl, w2⟩ := one_int h2
  obtain ⟨x3, rfl⟩ := one_bool h3
  obtain ⟨m', parts', hd', _, hg⟩ := field_at Try.underlying28 h4
  obtain ⟨z0, g0, _⟩ := hg 0 _ rfl
  obtain ⟨z1, g1, q1⟩ := hg 1 _ rfl
  rw [hd'] at hl4
  have hl5 := hl4.part Try.underlying28 (i := 1) rfl q1
  simp only [List.getElem_toArray, List.getElem_cons_zero, List.getElem_cons_succ] at g0 g1 hl5
  rw [cellsInt] at g0
  rw [cellsInts] at g1
  obtain ⟨x4, rfl, _⟩ := one_int g0
  obtain ⟨l, hi, hll⟩ := ints_light g1 hl5
  exact ⟨(⟨x0, x1, x2, x3, x4, l⟩, f), rfl, ⟨hi, ⟨wf_le w2, hll⟩, w1⟩, src_of_ints hi (sl_of_trod g1)⟩

set_option maxRecDepth 100000 in
theorem ops_of_light2 {v : Value} {d : DataW H} {p : List MemPlace} (hval : Value.okWide Try.prog w r b0 22 v) (h : DataW.Trod enc Try.prog w base spare held 22 v d p) (hl : Light Try.prog 22 d) :
    ∃ ps : List (Cl × Value), Ops2 w v ps ∧ ps.length ≤ 2199023255552 := by
  obtain ⟨a, len, cap, rfl⟩ := okWide_slice Try.underlying22 hval
  obtain ⟨fuel, hf⟩ := h
  have hf' : DataW.trod enc Try.prog w base spare held fuel 22 [.slice a len cap] = some (d, p) := hf
  obtain ⟨l, g1, g3, g2⟩ := rows_of_light (fun p : Cl × Value => opC p.1 p.2) (fun p => (Ints w p.2 p.1.act ∧ ClOk p.1 ∧ (Lit.int .i64 p.1.who).wf = true) ∧ SrcOk w p.2 p.1.act.length (iCells p.1.act) 1) 6 30 (by decide) Try.underlying22 cellsOp (fun _ => rfl) op_light2 hf' hl
  have hlen := light_len hl Try.underlying22 g2
  rw [bytesOp] at hlen
  have := reach_num hlen
  exact ⟨l, ⟨⟨g1, fun p hp => (g3 p hp).1⟩, fun p hp => (g3 p hp).2⟩, by omega⟩
theorem plays_top (v : Value) (ps : List (Cl × Value)) (w_ : World) (hin : Ops2 w_ v ps) (hn : ps.length ≤ 2199023255552) : Calls Try.prog 4 #[v] w_ fun e w' => e = .returned (.bool true) ∧ Below w_.heap.size w_ w' := plays_law v ps w_ hin hn
end

end Go.Proofs.Ytgijmlienolhpaa
