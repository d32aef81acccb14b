/- The statement's three arguments, as they are read. -/
import Derived.Test.YtklpbhajmnogeaaOpen1
namespace Go.Proofs.Ytklpbhajmnogeaa
open Go.ChangeShapes Go.WideShapes Go.ChangeAt Go.RowKit

theorem cellsInt : Try.prog.cellsOf 3 = 1 := by kernel_rfl
theorem cellsBool : Try.prog.cellsOf 4 = 1 := by kernel_rfl
theorem cellsString : Try.prog.cellsOf 9 = 1 := by kernel_rfl
theorem cellsStatus : Try.prog.cellsOf 53 = 1 := by kernel_rfl
theorem cellsInts : Try.prog.cellsOf 25 = 1 := by kernel_rfl
theorem cellsStrings : Try.prog.cellsOf 28 = 1 := by kernel_rfl
theorem cellsSaids : Try.prog.cellsOf 22 = 1 := by kernel_rfl
theorem cellsSaid : Try.prog.cellsOf 55 = 2 := by kernel_rfl
theorem cellsSlot : Try.prog.cellsOf 59 = 7 := by kernel_rfl
theorem cellsTuple : Try.prog.cellsOf 57 = 5 := by kernel_rfl
theorem cellsSnap : Try.prog.cellsOf 27 = 2 := by kernel_rfl
theorem cellsPage : Try.prog.cellsOf 30 = 6 := by kernel_rfl
theorem cellsView : Try.prog.cellsOf 32 = 11 := by kernel_rfl
theorem cellsLawPage : Try.prog.cellsOf 24 = 3 := by kernel_rfl
theorem bytesInt : Try.prog.bytesOf 3 = 8 := by kernel_rfl
theorem bytesString : Try.prog.bytesOf 9 = 16 := by kernel_rfl
theorem bytesSaid : Try.prog.bytesOf 55 = 16 := by kernel_rfl
theorem bytesSlot : Try.prog.bytesOf 59 = 80 := by kernel_rfl

section
variable {H : Type} {enc : TypeId × Value → H} {w : World} {base : Nat} {spare : Nat → Bool} {held : Bool}

theorem len2 {α : Type} {l : List α} (h : l.length = 2) : ∃ a b, l = [a, b] := by
  match l, h with
  | [a, b], _ => exact ⟨a, b, rfl⟩
theorem len3 {α : Type} {l : List α} (h : l.length = 3) : ∃ a b c, l = [a, b, c] := by
  match l, h with
  | [a, b, c], _ => exact ⟨a, b, c, rfl⟩
theorem len5 {α : Type} {l : List α} (h : l.length = 5) : ∃ a b c d e, l = [a, b, c, d, e] := by
  match l, h with
  | [a, b, c, d, e], _ => exact ⟨a, b, c, d, e, rfl⟩
theorem len7 {α : Type} {l : List α} (h : l.length = 7) : ∃ a b c d e f g, l = [a, b, c, d, e, f, g] := by
  match l, h with
  | [a, b, c, d, e, f, g], _ => exact ⟨a, b, c, d, e, f, g, rfl⟩
theorem len11 {α : Type} {l : List α} (h : l.length = 11) : ∃ a b c d e f g i j k m, l = [a, b, c, d, e, f, g, i, j, k, m] := by
  match l, h with
  | [a, b, c, d, e, f, g, i, j, k, m], _ => exact ⟨a, b, c, d, e, f, g, i, j, k, m, rfl⟩

theorem one_int {n : Nat} {v : Value} {y : DataW H × List MemPlace} (h : DataW.trod enc Try.prog w base spare held n 3 [v] = some y) : ∃ x : Int, v = .int .i64 x := by
  obtain ⟨x, h1, _, _⟩ := DataW.trod_int Try.underlying3 h
  simp only [List.cons.injEq, and_true] at h1
  exact ⟨x, h1⟩
theorem one_string {n : Nat} {v : Value} {y : DataW H × List MemPlace} (h : DataW.trod enc Try.prog w base spare held n 9 [v] = some y) : ∃ x : List UInt8, v = .string (str x) ∧ (x.length : Int) ≤ 9223372036854775807 := by
  obtain ⟨s, h1, _, h2⟩ := DataW.trod_string Try.underlying9 h
  simp only [List.cons.injEq, and_true] at h1
  refine ⟨s.data.toList, by rw [str_of]; exact h1, ?_⟩
  have : s.data.toList.length = s.size := by simp
  unfold maxLen at h2
  rw [this]
  omega
theorem one_bool {n : Nat} {v : Value} {y : DataW H × List MemPlace} (h : DataW.trod enc Try.prog w base spare held n 4 [v] = some y) : ∃ x : Bool, v = .bool x := by
  obtain ⟨x, h1, _⟩ := DataW.trod_bool Try.underlying4 h
  simp only [List.cons.injEq, and_true] at h1
  exact ⟨x, h1⟩
theorem one_status {n : Nat} {v : Value} {y : DataW H × List MemPlace} (h : DataW.trod enc Try.prog w base spare held n 53 [v] = some y) : ∃ x : Nat, v = .int .u8 x ∧ x < 256 := by
  obtain ⟨x, h1, _, h2⟩ := DataW.trod_int Try.underlying53 h
  simp only [List.cons.injEq, and_true] at h1
  have h3 : 0 ≤ x ∧ x ≤ 255 := by
    have e1 : IntKind.u8.min = 0 := rfl
    have e2 : IntKind.u8.max = 255 := rfl
    simp only [Lit.wf, Bool.and_eq_true, decide_eq_true_eq] at h2
    omega
  refine ⟨x.toNat, ?_, by omega⟩
  rw [h1]
  congr 1
  omega

theorem said_shape (n : Nat) (cs : List Value) (y : DataW H × List MemPlace) (h : DataW.trod enc Try.prog w base spare held n 55 cs = some y) : ∃ s : Int × Nat, cs = [.int .i64 s.1, .int .u8 s.2] ∧ s.2 < 256 := by
  obtain ⟨m, parts, _, hl, hf⟩ := field_at Try.underlying55 h
  rw [cellsSaid] at hl
  obtain ⟨a, b, rfl⟩ := len2 hl
  obtain ⟨y0, h0, _⟩ := hf 0 _ rfl
  obtain ⟨y1, h1, _⟩ := hf 1 _ rfl
  simp only [List.getElem_toArray, List.getElem_cons_zero, List.getElem_cons_succ] at h0 h1
  rw [cellsInt] at h0
  rw [cellsStatus] at h1
  obtain ⟨x, rfl⟩ := one_int h0
  obtain ⟨s, rfl, hs⟩ := one_status h1
  exact ⟨(x, s), rfl, hs⟩

theorem slot_shape (n : Nat) (cs : List Value) (y : DataW H × List MemPlace) (h : DataW.trod enc Try.prog w base spare held n 59 cs = some y) : ∃ s : Sl, cs = slCell s ∧ (s.raw.length : Int) ≤ 9223372036854775807 := by
  obtain ⟨m, parts, _, hl, hf⟩ := field_at Try.underlying59 h
  rw [cellsSlot] at hl
  obtain ⟨a, b, c, d, e, f, g, rfl⟩ := len7 hl
  obtain ⟨y0, h0, _⟩ := hf 0 _ rfl
  obtain ⟨y1, h1, _⟩ := hf 1 _ rfl
  obtain ⟨y2, h2, _⟩ := hf 2 _ rfl
  simp only [List.getElem_toArray, List.getElem_cons_zero, List.getElem_cons_succ] at h0 h1 h2
  rw [cellsInt] at h0
  rw [cellsTuple] at h1
  rw [cellsString] at h2
  obtain ⟨x, rfl⟩ := one_int h0
  obtain ⟨raw, rfl, hr⟩ := one_string h2
  obtain ⟨m', parts', _, _, hg⟩ := field_at Try.underlying57 h1
  obtain ⟨z0, g0, _⟩ := hg 0 _ rfl
  obtain ⟨z1, g1, _⟩ := hg 1 _ rfl
  obtain ⟨z2, g2, _⟩ := hg 2 _ rfl
  obtain ⟨z3, g3, _⟩ := hg 3 _ rfl
  obtain ⟨z4, g4, _⟩ := hg 4 _ rfl
  simp only [List.getElem_toArray, List.getElem_cons_zero, List.getElem_cons_succ] at g0 g1 g2 g3 g4
  rw [cellsInt] at g0 g1
  rw [cellsBool] at g2
  rw [cellsString] at g3 g4
  obtain ⟨x0, rfl⟩ := one_int g0
  obtain ⟨x1, rfl⟩ := one_int g1
  obtain ⟨x2, rfl⟩ := one_bool g2
  obtain ⟨x3, rfl, _⟩ := one_string g3
  obtain ⟨x4, rfl, _⟩ := one_string g4
  exact ⟨⟨x, x0, x1, x2, x3, x4, raw⟩, rfl, hr⟩

theorem ints_of_trod {n : Nat} {v : Value} {y : DataW H × List MemPlace} (h : DataW.trod enc Try.prog w base spare held n 25 [v] = some y) :
    ∃ l : List Int, Ints w v l ∧ ((y.1 = .nil ∧ l = []) ∨ ∃ es sp, y.1 = .slice es sp ∧ es.length = l.length) := by
  obtain ⟨l, h1, hno, h2⟩ := rows_of_trod (fun x : Int => [Value.int .i64 x]) (fun _ => True) 1 3 (by decide) Try.underlying25 cellsInt (fun _ => rfl) (fun m cs y hy => by
    obtain ⟨x, h1, _, _⟩ := DataW.trod_int Try.underlying3 hy
    exact ⟨x, h1, trivial⟩) h
  refine ⟨l, ?_, h2⟩
  have e : l.flatMap (fun x : Int => [Value.int .i64 x]) = iCells l := by
    clear h1 h2 hno
    induction l with
    | nil => rfl
    | cons a l ih => rw [List.flatMap_cons, ih]; rfl
  rw [e] at h1
  exact h1
theorem items_of_trod {n : Nat} {v : Value} {y : DataW H × List MemPlace} (h : DataW.trod enc Try.prog w base spare held n 28 [v] = some y) :
    ∃ l : List (List UInt8), Items w v l ∧ (∀ x ∈ l, (x.length : Int) ≤ 9223372036854775807) ∧ ((y.1 = .nil ∧ l = []) ∨ ∃ es sp, y.1 = .slice es sp ∧ es.length = l.length) := by
  obtain ⟨l, h1, h3, h2⟩ := rows_of_trod (fun x : List UInt8 => [Value.string (str x)]) (fun x => (x.length : Int) ≤ 9223372036854775807) 1 9 (by decide) Try.underlying28 cellsString (fun _ => rfl) (fun m cs y hy => by
    obtain ⟨s, e1, _, e2⟩ := DataW.trod_string Try.underlying9 hy
    subst e1
    obtain ⟨x, e3, e4⟩ := one_string hy
    exact ⟨x, by rw [e3], e4⟩) h
  refine ⟨l, ?_, h3, h2⟩
  have e : l.flatMap (fun x : List UInt8 => [Value.string (str x)]) = sCells l := by
    clear h1 h3 h2
    induction l with
    | nil => rfl
    | cons a l ih => rw [List.flatMap_cons, ih]; rfl
  rw [e] at h1
  exact h1

end
end Go.Proofs.Ytklpbhajmnogeaa
