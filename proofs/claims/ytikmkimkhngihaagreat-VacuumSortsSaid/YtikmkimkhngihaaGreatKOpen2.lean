
import Derived.Test.YtikmkimkhngihaaGreatKOpen1
/- The statement's three arguments, as they are read. -/
namespace Go.Proofs.YtikmkimkhngihaaGreat
open Go.ChangeShapes Go.WideShapes Go.ChangeAt Go.RowKit

theorem cellsInt : Tryz.prog.cellsOf 3 = 1 := by kernel_rfl
theorem cellsBool : Tryz.prog.cellsOf 4 = 1 := by kernel_rfl
theorem cellsString : Tryz.prog.cellsOf 9 = 1 := by kernel_rfl
theorem cellsStatus : Tryz.prog.cellsOf 57 = 1 := by kernel_rfl
theorem cellsInts : Tryz.prog.cellsOf 25 = 1 := by kernel_rfl
theorem cellsStrings : Tryz.prog.cellsOf 28 = 1 := by kernel_rfl
theorem cellsSaids : Tryz.prog.cellsOf 22 = 1 := by kernel_rfl
theorem cellsSaid : Tryz.prog.cellsOf 59 = 2 := by kernel_rfl
theorem cellsSlot : Tryz.prog.cellsOf 63 = 7 := by kernel_rfl
theorem cellsTuple : Tryz.prog.cellsOf 61 = 5 := by kernel_rfl
theorem cellsSnap : Tryz.prog.cellsOf 27 = 2 := by kernel_rfl
theorem cellsPage : Tryz.prog.cellsOf 30 = 6 := by kernel_rfl
theorem cellsView : Tryz.prog.cellsOf 32 = 11 := by kernel_rfl
theorem cellsLawPage : Tryz.prog.cellsOf 24 = 3 := by kernel_rfl
theorem bytesInt : Tryz.prog.bytesOf 3 = 8 := by kernel_rfl
theorem bytesString : Tryz.prog.bytesOf 9 = 16 := by kernel_rfl
theorem bytesSaid : Tryz.prog.bytesOf 59 = 16 := by kernel_rfl
theorem bytesSlot : Tryz.prog.bytesOf 63 = 80 := by kernel_rfl

section
variable {H : Type} {enc : TypeId × Value → H} {w : World} {base : Nat} {spare : Nat → Bool} {held : Bool}

theorem len2 {α : Type} {l : List α} (h : l.length = 2) : ∃ a b, l = [a, b] := by
  match l, h with
  | [a, b], _ => exact ⟨a, b, rfl⟩
theorem len3 {α : Type} {l : List α} (h : l.length = 3) : ∃ a b c, l = [a, b, c] := by
  match l, h with
  | [a, b, c], _ => exact ⟨a, b, c, rfl⟩
theorem len7 {α : Type} {l : List α} (h : l.length = 7) : ∃ a b c d e f g, l = [a, b, c, d, e, f, g] := by
  match l, h with
  | [a, b, c, d, e, f, g], _ => exact ⟨a, b, c, d, e, f, g, rfl⟩
theorem len11 {α : Type} {l : List α} (h : l.length = 11) : ∃ a b c d e f g i j k m, l = [a, b, c, d, e, f, g, i, j, k, m] := by
  match l, h with
  | [a, b, c, d, e, f, g, i, j, k, m], _ => exact ⟨a, b, c, d, e, f, g, i, j, k, m, rfl⟩

theorem one_int {n : Nat} {v : Value} {y : DataW H × List MemPlace} (h : DataW.trod enc Tryz.prog w base spare held n 3 [v] = some y) : ∃ x : Int, v = .int .i64 x := by
  obtain ⟨x, h1, _, _⟩ := DataW.trod_int Tryz.underlying3 h
  simp only [List.cons.injEq, and_true] at h1
  exact ⟨x, h1⟩
theorem one_string {n : Nat} {v : Value} {y : DataW H × List MemPlace} (h : DataW.trod enc Tryz.prog w base spare held n 9 [v] = some y) : ∃ x : List UInt8, v = .string (str x) ∧ (x.length : Int) ≤ 9223372036854775807 := by
  obtain ⟨s, h1, _, h2⟩ := DataW.trod_string Tryz.underlying9 h
  simp only [List.cons.injEq, and_true] at h1
  refine ⟨s.data.toList, by rw [str_of]; exact h1, ?_⟩
  have : s.data.toList.length = s.size := by simp
  unfold maxLen at h2
  rw [this]
  omega
theorem one_bool {n : Nat} {v : Value} {y : DataW H × List MemPlace} (h : DataW.trod enc Tryz.prog w base spare held n 4 [v] = some y) : ∃ x : Bool, v = .bool x := by
  obtain ⟨x, h1, _⟩ := DataW.trod_bool Tryz.underlying4 h
  simp only [List.cons.injEq, and_true] at h1
  exact ⟨x, h1⟩
theorem one_status {n : Nat} {v : Value} {y : DataW H × List MemPlace} (h : DataW.trod enc Tryz.prog w base spare held n 57 [v] = some y) : ∃ x : Nat, v = .int .u8 x ∧ x < 256 := by
  obtain ⟨x, h1, _, h2⟩ := DataW.trod_int Tryz.underlying57 h
  simp only [List.cons.injEq, and_true] at h1
  have h3 : 0 ≤ x ∧ x ≤ 255 := by
    have e1 : IntKind.u8.min = 0 := rfl
    have e2 : IntKind.u8.max = 255 := rfl
    simp only [Lit.wf, Bool.and_eq_true, decide_eq_true_eq] at h2
    omega
  refine ⟨x.toNat, ?_, by omega⟩
  rw [h1]
  congr 1
  omega

theorem said_shape (n : Nat) (cs : List Value) (y : DataW H × List MemPlace) (h : DataW.trod enc Tryz.prog w base spare held n 59 cs = some y) : ∃ s : Int × Nat, cs = [.int .i64 s.1, .int .u8 s.2] ∧ s.2 < 256 := by
  obtain ⟨m, parts, _, hl, hf⟩ := field_at Tryz.underlying59 h
  rw [cellsSaid] at hl
  obtain ⟨a, b, rfl⟩ := len2 hl
  obtain ⟨y0, h0, _⟩ := hf 0 _ rfl
  obtain ⟨y1, h1, _⟩ := hf 1 _ rfl
  simp only [List.getElem_toArray, List.getElem_cons_zero, List.getElem_cons_succ] at h0 h1
  rw [cellsInt] at h0
  rw [cellsStatus] at h1
  obtain ⟨x, rfl⟩ := one_int h0
  obtain ⟨s, rfl, hs⟩ := one_status h1
  exact ⟨(x, s), rfl, hs⟩

theorem ints_of_trod {n : Nat} {v : Value} {y : DataW H × List MemPlace} (h : DataW.trod enc Tryz.prog w base spare held n 25 [v] = some y) :
    ∃ l : List Int, Ints w v l ∧ ((y.1 = .nil ∧ l = []) ∨ ∃ es sp, y.1 = .slice es sp ∧ es.length = l.length) := by
  obtain ⟨l, h1, hno, h2⟩ := rows_of_trod (fun x : Int => [Value.int .i64 x]) (fun _ => True) 1 3 (by decide) Tryz.underlying25 cellsInt (fun _ => rfl) (fun m cs y hy => by
    obtain ⟨x, h1, _, _⟩ := DataW.trod_int Tryz.underlying3 hy
    exact ⟨x, h1, trivial⟩) h
  refine ⟨l, ?_, h2⟩
  have e : l.flatMap (fun x : Int => [Value.int .i64 x]) = iCells l := by
    clear h1 h2 hno
    induction l with
    | nil => rfl
    | cons a l ih => rw [List.flatMap_cons, ih]; rfl
  rw [e] at h1
  exact h1
end
end Go.Proofs.YtikmkimkhngihaaGreat
