import Derived.Test.YtcdapdcablnhpaaGreatKLexr
import Derived.Test.YtcdapdcablnhpaaGreatKCg6
import Derived.Deep.CutRange
import Derived.Test.YtcdapdcablnhpaaGreatKLexn
import Derived.Test.YtcdapdcablnhpaaGreatKRk2
import Derived.Test.YtcdapdcablnhpaaGreatKBl2
import Derived.Test.YtcdapdcablnhpaaGreatKHl1
import Derived.Test.YtcdapdcablnhpaaGreatKRu2
import Derived.Test.YtcdapdcablnhpaaGreatKCg2
import Derived.Test.YtcdapdcablnhpaaGreatKRd3
import Derived.Test.YtcdapdcablnhpaaGreatKRd2
namespace Go.Proofs.YtcdapdcablnhpaaGreat
open Go.RowKit
attribute [local go_sem] hgs
def layN (P : Pg) (item : List UInt8) : Pg × En × Int :=
 if openOk P then
  (if P.level = 0 then (if (decN item).2 ≠ 0 then (zeroP, leastE, (decN item).2) else if (decN item).1 ∈ ensN P then (zeroP, (decN item).1, 150) else ((insN P (decN item).1).1, (decN item).1, (insN P (decN item).1).2))
   else (if (unsN item).2.2 ≠ 0 then (zeroP, leastE, (unsN item).2.2) else if (unsN item).1 ∈ (ensN P).drop 1 then (zeroP, (unsN item).1, 150) else ((postN P (unsN item).1 (unsN item).2.1).1, (unsN item).1, (postN P (unsN item).1 (unsN item).2.1).2)))
 else (zeroP, leastE, 140)
end Go.Proofs.YtcdapdcablnhpaaGreat
namespace Go.Proofs.YtcdapdcablnhpaaGreat
open Go.RowKit
attribute [local go_sem] givesV lookV knAt hgs
theorem ens_tail {w : World} {a : Option Addr} {c : Nat} {L : List En} (h : EnsS w (.slice a L.length c) L) (hc : L.length <= c) (hl : 1 <= L.length) :
  EnsS w (.slice (if c = 1 then a else a.map fun x => x.add 3) (L.length - 1) (c - 1)) (L.drop 1) := by
 have e1 : (L.drop 1).length = L.length - 1 := List.length_drop;unfold EnsS at h ⊢;rcases h with ⟨h1, _⟩ | ⟨c', off, cap, blk, f, h1, h2, h3⟩
 ·omega
 ·simp only [Value.slice.injEq] at h1;obtain ⟨rfl, _, rfl⟩ := h1
  by_cases h0 : L.length = 1
  ·exact .inl ⟨by omega, by rw [List.drop_eq_nil_of_le (by omega)]; rfl, _, _, by rw [h0]⟩
  ·refine .inr ⟨c', off + 3, c - 1, blk, f, ?_, h2, fun j hj => ?_⟩
   ·rw [if_neg (by omega), e1]; rfl
   ·rw [eCells_length, e1] at hj;rw [Nat.add_assoc, h3 (3 + j) (by rw [eCells_length]; omega)];obtain ⟨x, L', rfl⟩ : ∃ x L', L = x :: L' := by cases L with
     | nil => simp at hl
     | cons x L' => exact ⟨x, L', rfl⟩
    rw [List.drop_one, List.tail_cons, eCells, List.flatMap_cons, <- eCells, List.getElem?_append_right (by simp [enC])]
    congr 1
    simp [enC]
end Go.Proofs.YtcdapdcablnhpaaGreat
namespace Go.Proofs.YtcdapdcablnhpaaGreat
open Go.RowKit
attribute [local go_sem] hgs
def needN (P : Pg) (n : Int) (item : List UInt8) : Int × Int := if (layN P item).2.2 ≠ 3 then (0, (layN P item).2.2) else if n = 1 then (2, 0) else (1, 0)
def allNew (l : List Int) : Bool := l.all fun n => decide (2 <= n)
def apartN (l : List Int) (k : Int) : Bool := (decide ((l.length : Int) = k) && allNew l) && (decide (k < 2) || decide (l.getD 0 0 ≠ l.getD 1 0))
abbrev Im := Int × Pg × Value
def imC (x : Im) : List Value := .int .i64 x.1 :: pgCells x.2.1 x.2.2
def imCells (T : List Im) : List Value := T.flatMap imC
theorem imC_length (x : Im) : (imC x).length = 7 := rfl
@[simp] theorem imCells_length (T : List Im) : (imCells T).length = 7 * T.length := by
 induction T with
 | nil => rfl
 | cons a l ih => rw [imCells, List.flatMap_cons, List.length_append, <- imCells, ih, imC_length]; simp; omega
def imFine (P : Pg) : Prop := (P.items.length : Int) <= 140737488355328 /\ (P.high.length : Int) <= 140737488355328
def ImgsW (w : World) (v : Value) (T : List Im) : Prop := Row w 132 v T.length (imCells T) /\ ∀ x ∈ T, Items w x.2.2 x.2.1.items /\ imFine x.2.1
theorem ImgsW.fits {w w' : World} {v : Value} {T : List Im} (h : ImgsW w v T) (g : Grow w w') : ImgsW w' v T := ⟨h.1.fits g, fun x hx => ⟨Row.fits (h.2 x hx).1 g, (h.2 x hx).2⟩⟩
theorem ImgsW.nil (w : World) : ImgsW w (.slice none 0 0) [] := ⟨Row.nil _ _ _ _, by simp⟩
theorem imgs_form {w : World} {v : Value} {T : List Im} (h : ImgsW w v T) : ∃ a cap, v = .slice a T.length cap := row_slice h.1
def dropV (x : Im) : Int × Pg := (x.1, x.2.1)
end Go.Proofs.YtcdapdcablnhpaaGreat
namespace Go.Proofs.YtcdapdcablnhpaaGreat
open Go.RowKit
attribute [local go_sem] givesV lookV knAt hgs
end Go.Proofs.YtcdapdcablnhpaaGreat
namespace Go.Proofs.YtcdapdcablnhpaaGreat
open Go.RowKit
attribute [local go_sem] hgs
attribute [local simp] eql_entry neq_entry neq_zeroE
attribute [local go_sem] guard_entry
end Go.Proofs.YtcdapdcablnhpaaGreat
namespace Go.Proofs.YtcdapdcablnhpaaGreat
open Go.RowKit
attribute [local go_sem] hgs
end Go.Proofs.YtcdapdcablnhpaaGreat
