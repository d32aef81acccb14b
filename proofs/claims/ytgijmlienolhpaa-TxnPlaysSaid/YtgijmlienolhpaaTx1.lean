
/- A table's map from sessions to blocks, as data: a list by sessions. No program is named. -/
import Derived.Maps.RangeWalk
import Derived.Maps.OwnIn
namespace Go.Proofs.Ytgijmlienolhpaa
open Go.RowKit

/-- An entry as it is read: the session, the block of what it has open. -/
def entD (e : Int × Nat) : Lit × DataW Unit := (.int .i64 e.1, .lit (.int .i64 (e.2 : Int)))
def mapD (L : List (Int × Nat)) : DataW Unit := .map (L.map entD)
def putL (who : Int) (b : Nat) : List (Int × Nat) → List (Int × Nat)
  | [] => [(who, b)]
  | x :: r => if who < x.1 then (who, b) :: x :: r else x :: putL who b r
def delL (who : Int) (L : List (Int × Nat)) : List (Int × Nat) := L.filter fun x => x.1 != who
def getL (who : Int) (L : List (Int × Nat)) : Option Nat := (L.find? fun x => x.1 == who).map (·.2)

/-- How a pointer of the map is read: its block; nil: -1. -/
def ptrR (v : Value) : Option (DataW Unit × List MemPlace) :=
  match v with
  | .pointer none => some (.lit (.int .i64 (-1)), [])
  | .pointer (some ⟨b, 0, none⟩) => some (.lit (.int .i64 (b : Int)), [])
  | _ => none
theorem ptrR_mk (b : Nat) : ptrR (.pointer (some ⟨b, 0, none⟩)) = some (.lit (.int .i64 (b : Int)), []) := rfl
theorem ptrR_nil : ptrR (.pointer none) = some (.lit (.int .i64 (-1)), []) := rfl
theorem ptrR_inv {v : Value} {z : DataW Unit × List MemPlace} (h : ptrR v = some z) : ∃ p : Option Nat, v = .pointer (p.map fun b => ⟨b, 0, none⟩) ∧ z = (.lit (.int .i64 (match p with | none => -1 | some b => (b : Int))), []) := by
  unfold ptrR at h
  split at h
  · exact ⟨none, rfl, (Option.some.inj h).symm⟩
  · rename_i b
    exact ⟨some b, rfl, (Option.some.inj h).symm⟩
  · cases h

theorem same_ent (who : Int) (x : Int × Nat) : (entD x).1.sameKey (.int .i64 who) = (x.1 == who) := by
  simp [entD, Lit.sameKey, Bool.beq_eq_decide_eq]
theorem find_mapD (who : Int) (L : List (Int × Nat)) : (L.map entD).find? (fun p => p.1.sameKey (.int .i64 who)) = (L.find? fun x => x.1 == who).map entD := by
  induction L with
  | nil => rfl
  | cons x r ih =>
    simp only [List.map_cons, List.find?_cons, same_ent]
    cases (x.1 == who) <;> simp [ih]
theorem at_mapD (who : Int) (L : List (Int × Nat)) : (mapD L).atKey (.int .i64 who) (.lit (.int .i64 (-1))) = .lit (.int .i64 (match getL who L with | none => -1 | some b => (b : Int))) := by
  unfold mapD DataW.atKey getL
  simp only [find_mapD]
  cases L.find? (fun x => x.1 == who) with
  | none => rfl
  | some x => rfl
theorem filter_mapD (who : Int) (L : List (Int × Nat)) : (L.map entD).filter (fun p => !p.1.sameKey (.int .i64 who)) = (delL who L).map entD := by
  unfold delL
  induction L with
  | nil => rfl
  | cons x r ih =>
    simp only [List.map_cons, List.filter_cons, same_ent, ih]
    cases h : (x.1 == who) <;> simp [bne, h]
theorem insert_mapD (who : Int) (b : Nat) (L : List (Int × Nat)) : DataW.insert (entD (who, b)) (L.map entD) = (putL who b L).map entD := by
  induction L with
  | nil => rfl
  | cons x r ih =>
    simp only [List.map_cons, DataW.insert, putL, ih]
    have e : (entD (who, b)).1.before (entD x).1 = decide (who < x.1) := rfl
    rw [e]
    by_cases h : who < x.1 <;> simp [h]
theorem delL_none {who : Int} {L : List (Int × Nat)} (h : getL who L = none) : delL who L = L := by
  unfold delL
  unfold getL at h
  rw [Option.map_eq_none_iff, List.find?_eq_none] at h
  rw [List.filter_eq_self]
  intro x hx
  have := h x hx
  simpa [bne] using this
theorem put_mapD (who : Int) (b : Nat) (L : List (Int × Nat)) (h : getL who L = none) : (mapD L).put (.int .i64 who) (.lit (.int .i64 (b : Int))) = mapD (putL who b L) := by
  unfold mapD DataW.put
  dsimp only
  rw [filter_mapD, delL_none h]
  exact congrArg _ (insert_mapD who b L)
theorem del_mapD (who : Int) (L : List (Int × Nat)) : (mapD L).del (.int .i64 who) = mapD (delL who L) := by
  unfold mapD DataW.del
  dsimp only
  rw [filter_mapD]
theorem size_mapD (L : List (Int × Nat)) : Maps.size (mapD L) = L.length := by simp [mapD, Maps.size]
theorem has_mapD (L : List (Int × Nat)) (who : Int) : Maps.has (mapD L) (.int .i64 who) = L.any fun x => x.1 == who := by
  unfold mapD Maps.has
  dsimp only
  rw [List.any_map]
  congr 1
  funext x
  exact same_ent who x

end Go.Proofs.Ytgijmlienolhpaa
