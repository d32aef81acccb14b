import Derived.Test.YtigbgodbalpgdaaKNd5
import Derived.Test.YtigbgodbalpgdaaKPe4
import Derived.Maps.AppendAt
/- node.opened: what a node holds, and how it lies while it is opened. -/
namespace Go.Proofs.Ytigbgodbalpgdaa
open Go.RowKit

/-- What an item says: an entry or separator, a child, and what is wrong. -/
def itemN (lv : Int) (l : List UInt8) : En × Int × Int := if lv = 0 then ((decN l).1, 0, (decN l).2) else unsN l
/-- May an item stand behind a separator and below a high entry? -/
def roundOk (lv : Int) (hi : En) (bd : Bool) (k : Nat) (prev x : En × Int × Int) : Bool :=
  (decide (lv = 0) || (decide (x.1 = leastE) == decide (k = 0))) && (decide (x.2.2 = 0) && ((decide (k = 0) || decide (cmpE prev.1 x.1 < 0)) && (!bd || !(decide (0 < cmpE x.1 hi) || (decide (cmpE x.1 hi = 0) && decide (0 < lv))))))
def okTo (lv : Int) (hi : En) (bd : Bool) (items : List (List UInt8)) : Nat → Bool
  | 0 => true
  | k + 1 => okTo lv hi bd items k && roundOk lv hi bd k (itemN lv (items.getD (k - 1) [])) (itemN lv (items.getD k []))
def bdN (P : Pg) : Bool := decide (P.high ≠ [])
def hiN (P : Pg) : En := if P.high = [] then leastE else (decN P.high).1
def headOk (P : Pg) : Bool := (encOk P && (decide (P.kind = 3) && inB P.right 0 65535)) && (decide (P.high = []) || decide ((decN P.high).2 = 0))
/-- Is a page a node? -/
def openOk (P : Pg) : Bool := headOk P && (okTo P.level (hiN P) (bdN P) P.items P.items.length && (decide (P.level = 0) || decide (0 < P.items.length)))
/-- The entries, or separators, of the first k items. -/
def ensTo (lv : Int) (items : List (List UInt8)) (k : Nat) : List En := (items.take k).map fun l => (itemN lv l).1
def kidsTo (lv : Int) (items : List (List UInt8)) (k : Nat) : List Int := if lv = 0 then [] else (items.take k).map fun l => (itemN lv l).2.1
def ensN (P : Pg) : List En := ensTo P.level P.items P.items.length
def kidsN (P : Pg) : List Int := kidsTo P.level P.items P.items.length

theorem ensTo_length (lv : Int) (items : List (List UInt8)) (k : Nat) (h : k ≤ items.length) : (ensTo lv items k).length = k := by simp [ensTo]; omega
theorem ensTo_succ (lv : Int) (items : List (List UInt8)) (k : Nat) (h : k < items.length) : ensTo lv items (k + 1) = ensTo lv items k ++ [(itemN lv items[k]).1] := by
  unfold ensTo
  rw [List.take_add_one, List.map_append, List.getElem?_eq_getElem h]
  rfl
theorem kidsTo_zero (items : List (List UInt8)) (k : Nat) : kidsTo 0 items k = [] := rfl
theorem kidsTo_succ (lv : Int) (items : List (List UInt8)) (k : Nat) (h : k < items.length) (hl : lv ≠ 0) : kidsTo lv items (k + 1) = kidsTo lv items k ++ [(itemN lv items[k]).2.1] := by
  unfold kidsTo
  rw [if_neg hl, if_neg hl, List.take_add_one, List.map_append, List.getElem?_eq_getElem h]
  rfl
theorem kidsTo_length (lv : Int) (items : List (List UInt8)) (k : Nat) : (kidsTo lv items k).length ≤ k := by
  unfold kidsTo
  split
  · exact Nat.zero_le _
  · rw [List.length_map, List.length_take]; exact Nat.min_le_left _ _

def eCells (l : List En) : List Value := l.flatMap fun x => enC x
theorem eCells_append (a b : List En) : eCells (a ++ b) = eCells a ++ eCells b := by simp [eCells]
@[simp] theorem eCells_length (l : List En) : (eCells l).length = 3 * l.length := by
  induction l with
  | nil => rfl
  | cons a l ih => rw [eCells, List.flatMap_cons, List.length_append, ← eCells, ih]; simp [enC]; omega
theorem eCells_at (l : List En) (i j : Nat) (h : i < l.length) (hj : j < 3) : (eCells l)[3 * i + j]? = (enC l[i])[j]? := by
  induction l generalizing i with
  | nil => simp at h
  | cons a l ih =>
    rw [eCells, List.flatMap_cons, ← eCells]
    cases i with
    | zero =>
      rw [List.getElem?_append_left (by simp [enC]; omega)]
      simp
    | succ i =>
      rw [List.getElem?_append_right (by simp [enC]; omega)]
      rw [show 3 * (i + 1) + j - (enC a).length = 3 * i + j by simp [enC]; omega, ih i (by simpa using h)]
      simp
/-- A list of entries, in a world. -/
def EnsS (w : World) (v : Value) (l : List En) : Prop := RowS w 23 v l.length (eCells l)

/-- What is opened lies in a variable's block, in rows of its own. -/
structure OpAt (w : World) (b : Nat) (ens : List En) (kids : List Int) (hi : En) (bd : Bool) (ev cv : Value) : Prop where
  blk : Blk w b 81 [ev, cv, .string (str hi.1), .int .i64 hi.2.1, .int .i64 hi.2.2, .bool bd]
  ens : w.ownsRow (b + 1) 23 3 ev ens.length (eCells ens)
  kids : w.ownsRow (b + 1) 3 1 cv kids.length (iCells kids)

theorem grow_grownO {w w' : World} (h : Grow w w') (row : Option Nat) : w.grownBy w' row := ⟨h.os, h.tape, h.output, h.size, fun k hk _ => h.block k hk⟩
theorem owns_fits {w w' : World} {b e s n : Nat} {v : Value} {xs : List Value} (h : w.ownsRow b e s v n xs) (k : Grow w w') : w'.ownsRow b e s v n xs :=
  h.kept (grow_grownO k none) (by cases v.ownBlock <;> simp)
theorem owns_but {w w' : World} {b e s n c : Nat} {v : Value} {xs : List Value} (h : w.ownsRow b e s v n xs) (k : But c w w') (hc : v.ownBlock ≠ some c) : w'.ownsRow b e s v n xs :=
  h.kept (row := some c) ⟨k.os, k.tape, k.output, k.size, fun i hi hne => k.block i hi (by simpa using hne)⟩ (by cases hv : v.ownBlock with
    | none => exact .inl rfl
    | some g => exact .inr (by rw [hv] at hc; exact hc))
theorem own_neO {w : World} {b b' e e' s s' n n' : Nat} {v v' : Value} {xs xs' : List Value} (h : w.ownsRow b e s v n xs) (h' : w.ownsRow b' e' s' v' n' xs') (he : e ≠ e') : v.ownBlock = none ∨ v.ownBlock ≠ v'.ownBlock := by
  rcases h.2 with ⟨rfl, _⟩ | ⟨g, cap, cur, rfl, _, hg, _⟩
  · exact .inl rfl
  · rcases h'.2 with ⟨rfl, _⟩ | ⟨g', cap', cur', rfl, _, hg', _⟩
    · exact .inr (by simp [Value.ownBlock])
    · refine .inr fun e1 => ?_
      simp only [Value.ownBlock, Option.some.injEq] at e1
      subst e1
      rw [hg] at hg'
      simp at hg'
      exact he hg'.2
theorem own_rowO {w : World} {b e s n : Nat} {v : Value} {xs : List Value} (h : w.ownsRow b e s v n xs) : RowS w e v n xs := by
  rcases h.2 with ⟨rfl, rfl⟩ | ⟨g, cap, cur, rfl, _, hg, _, _, _, ht⟩
  · exact .inl ⟨rfl, by have := h.1; simpa using this, _, _, rfl⟩
  · refine .inr ⟨g, 0, cap, cur, (0, 0), rfl, hg, fun j hj => ?_⟩
    rw [Nat.zero_add, ← ht, List.getElem?_take]
    have hl := h.1
    rw [if_pos (by omega)]
    simp
theorem own_young {w : World} {b e s n : Nat} {v : Value} {xs : List Value} (h : w.ownsRow b e s v n xs) {c : Nat} (hc : w.heap.size ≤ c) : v.ownBlock ≠ some c := fun e => by
  have := (h.lt _ e).2
  omega

theorem OpAt.fits {w w' : World} {b : Nat} {ens : List En} {kids : List Int} {hi : En} {bd : Bool} {ev cv : Value} (h : OpAt w b ens kids hi bd ev cv) (g : Grow w w') : OpAt w' b ens kids hi bd ev cv :=
  ⟨h.blk.fits g, owns_fits h.ens g, owns_fits h.kids g⟩
theorem OpAt.but {w w' : World} {b c : Nat} {ens : List En} {kids : List Int} {hi : En} {bd : Bool} {ev cv : Value} (h : OpAt w b ens kids hi bd ev cv) (k : But c w w') (h1 : ev.ownBlock ≠ some c) (h2 : cv.ownBlock ≠ some c) (h3 : b ≠ c) : OpAt w' b ens kids hi bd ev cv :=
  ⟨h.blk.but k h3, owns_but h.ens k h1, owns_but h.kids k h2⟩

/-- Behind an append to a row: a block of another type, or ahead of the rows, stands. -/
theorem row_stands {w w1 : World} {b c t e n s : Nat} {v : Value} {cs xs : List Value} (h : Blk w c t cs) {o : Obj} (_ : w.ownsRow b e s v n xs) (hg : (w.alloc o).grownBy w1 v.ownBlock) (hr : v.ownBlock ≠ some c) : Blk w1 c t cs := by
  have h1 := h.alloc o
  have hl := h1.lt
  unfold Blk at *
  rw [hg.block c hl (fun e => hr e.symm)]
  exact h1

theorem OpAt.pushEns {w w1 : World} {b : Nat} {ens : List En} {kids : List Int} {hi : En} {bd : Bool} {ev cv v' : Value} (h : OpAt w b ens kids hi bd ev cv) {o : Obj} (hg : (w.alloc o).grownBy w1 ev.ownBlock) {x : En}
    (hown : w1.ownsRow (b + 1) 23 3 v' (ens.length + 1) (eCells ens ++ [.string (str x.1), .int .i64 x.2.1, .int .i64 x.2.2])) : OpAt (w1.setCell ⟨b, 0, none⟩ v') b (ens ++ [x]) kids hi bd v' cv := by
  have hB := row_stands h.blk h.ens hg (fun e => by have := (h.ens.lt _ e).1; omega)
  refine ⟨hB.set 0 v', ownsRow_setCell_below ?_ (a := ⟨b, 0, none⟩) (by simp) v', ownsRow_setCell_below ((h.kids.alloc o).kept hg (own_neO h.kids h.ens (by decide))) (a := ⟨b, 0, none⟩) (by simp) v'⟩
  simpa [eCells, enC] using hown
theorem OpAt.pushKids {w w1 : World} {b : Nat} {ens : List En} {kids : List Int} {hi : En} {bd : Bool} {ev cv v' : Value} (h : OpAt w b ens kids hi bd ev cv) {o : Obj} (hg : (w.alloc o).grownBy w1 cv.ownBlock) {x : Int}
    (hown : w1.ownsRow (b + 1) 3 1 v' (kids.length + 1) (iCells kids ++ [.int .i64 x])) : OpAt (w1.setCell ⟨b, 1, none⟩ v') b ens (kids ++ [x]) hi bd ev v' := by
  have hB := row_stands h.blk h.kids hg (fun e => by have := (h.kids.lt _ e).1; omega)
  refine ⟨hB.set 1 v', ownsRow_setCell_below ((h.ens.alloc o).kept hg (own_neO h.ens h.kids (by decide))) (a := ⟨b, 1, none⟩) (by simp) v', ownsRow_setCell_below ?_ (a := ⟨b, 1, none⟩) (by simp) v'⟩
  simpa [iCells] using hown

theorem infoIntO : (Try.prog.info? 3).map (fun i => (i.zero, i.size, i.bytes)) = some (some (.int .i64 0), 1, 8) := by kernel_rfl
theorem infoEntryO : (Try.prog.info? 23).map (fun i => (i.zero, i.size, i.bytes)) = some (some (.agg #[.string ⟨#[]⟩, .int .i64 0, .int .i64 0]), 3, 32) := by kernel_rfl
theorem cell_three_newO (w : World) (x y z : Value) (t : TypeId) : ∀ j u, [x, y, z][j]? = some u → (w.alloc (.cells #[x, y, z] t)).cell? ((⟨w.heap.size, 0, none⟩ : Addr).add j) = some u := by
  intro j u hj
  match j, hj with
  | 0, hj => simp at hj; subst hj; simp [Addr.add]
  | 1, hj => simp at hj; subst hj; simp [Addr.add]
  | 2, hj => simp at hj; subst hj; simp [Addr.add]
theorem round_belowO {b : Nat} {w1 x x3 : World} {o : Obj} {row : Option Nat} {i : Nat} {v' : Value} (hbw : Below b w1 x) (hb : b ≤ x.heap.size) (hgrow : (x.alloc o).grownBy x3 row) (hrow : ∀ g, row = some g → b + 1 ≤ g) : Below b w1 (x3.setCell ⟨b, i, none⟩ v') := by
  refine ((hbw.alloc hb o).grown hgrow (by simp; omega) ?_).setCell (Nat.le_refl _) _
  intro k e
  have := hrow k e
  omega

/-- What opening a page answers. -/
def OpenPost (P : Pg) (w : World) (e : Ending) (w' : World) : Prop :=
  ∃ a1 n1 c1 a2 n2 c2 hi bd ok, e = .returned (.tuple #[.agg #[.slice a1 n1 c1, .slice a2 n2 c2, .string (str hi.1), .int .i64 hi.2.1, .int .i64 hi.2.2, .bool bd], .bool ok]) ∧
    ok = openOk P ∧ (ok = true → EnsS w' (.slice a1 n1 c1) (ensN P) ∧ IntsS w' (.slice a2 n2 c2) (kidsN P) ∧ hi = hiN P ∧ bd = bdN P) ∧ Below w.heap.size w w'

end Go.Proofs.Ytigbgodbalpgdaa
