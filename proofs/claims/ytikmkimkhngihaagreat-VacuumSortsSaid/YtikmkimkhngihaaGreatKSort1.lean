
import Derived.Test.YtikmkimkhngihaaGreatKSnap3
import Derived.Maps.AppendAt
/- tuple.State, Key. -/
namespace Go.Proofs.YtikmkimkhngihaaGreat
open Go.RowKit

def stateS (l : List UInt8) : Nat := if l.isEmpty then 1 else if (decS l).isSome then 3 else if (buriedS l).isSome then 2 else 0

set_option maxRecDepth 100000 in
set_option maxHeartbeats 1000000 in
theorem state_any (s : ByteArray) (w : World) (hs : (s.size : Int) ≤ 9223372036854775807) : Calls Tryz.prog 20 #[.string s] w fun e w' => e = .returned (.int .u8 (stateS s.data.toList)) ∧ Below w.heap.size w w' := by
  have hd := decode_any s w hs
  have hS : stateS s.data.toList = if s.data.toList.isEmpty then 1 else if (decS s.data.toList).isSome then 3 else if (buriedS s.data.toList).isSome then 2 else 0 := rfl
  have he : s.toList.isEmpty = s.data.toList.isEmpty := by
    have := str_list s.data.toList
    rw [str_of] at this
    rw [this]
  unfold DecPost at hd
  have hbur : ∀ u, Calls Tryz.prog 48 #[.string s] u (BurPost s.data.toList u) := fun u => buried_any s u hs
  unfold BurPost at hbur
  generalize (decS s.data.toList).getD noTup = T at *
  generalize (decS s.data.toList).isSome = D at *
  generalize (buriedS s.data.toList).getD [] = K at *
  generalize (buriedS s.data.toList).isSome = B at *
  generalize s.data.toList.isEmpty = Z at *
  have HS := keep hS
  have Hd := keep hd
  have Hbur := keep hbur
  clear hS hd hbur
  go_enter Tryz.func20, Tryz.ntmps20
  go_wp2_with fail
  refine (free_any w).mono ?_
  rintro e w' ⟨rfl, rfl⟩
  cases Z with
  | true =>
    go_wp2_with fail
    go_ret
    rw [HS.out]
    exact ⟨rfl, Below.refl _ _⟩
  | false =>
    go_wp2_with fail
    refine Hd.out.mono ?_
    rintro e w1 ⟨rfl, hb1⟩
    cases D with
    | true =>
      unfold tupV
      go_wp2_with fail
      go_ret
      rw [HS.out]
      exact ⟨rfl, Grow.alloc hb1 _⟩
    | false =>
      have hg1 : Grow w (w1.alloc (.cells (tuCells T).toArray 61)) := Grow.alloc hb1 _
      have hB := Hbur.out (w1.alloc (.cells (tuCells T).toArray 61))
      unfold tuCells at hg1 hB
      have HB := keep hB
      clear hB
      unfold tupV
      go_wp2_with fail
      refine HB.out.mono ?_
      rintro e w2 ⟨rfl, hb2⟩
      have hg2 := Grow.trans hg1 hb2
      clear HB Hbur hb2 hg1
      cases B with
      | true =>
        go_wp2_with fail
        go_ret
        rw [HS.out]
        exact ⟨rfl, hg2⟩
      | false =>
        go_wp2_with fail
        go_ret
        rw [HS.out]
        exact ⟨rfl, hg2⟩

/-- The key of a slot's bytes, and whether it has one. -/
def keyS (l : List UInt8) : List UInt8 × Bool := if (decS l).isSome then (((decS l).getD noTup).key, true) else ((buriedS l).getD [], (buriedS l).isSome)

set_option maxRecDepth 100000 in
set_option maxHeartbeats 1000000 in
theorem key_any (s : ByteArray) (w : World) (hs : (s.size : Int) ≤ 9223372036854775807) : Calls Tryz.prog 21 #[.string s] w fun e w' => e = .returned (.tuple #[.string (str (keyS s.data.toList).1), .bool (keyS s.data.toList).2]) ∧ Below w.heap.size w w' := by
  have hd := decode_any s w hs
  have hS : keyS s.data.toList = if (decS s.data.toList).isSome then (((decS s.data.toList).getD noTup).key, true) else ((buriedS s.data.toList).getD [], (buriedS s.data.toList).isSome) := rfl
  unfold DecPost at hd
  have hbur : ∀ u, Calls Tryz.prog 48 #[.string s] u (BurPost s.data.toList u) := fun u => buried_any s u hs
  unfold BurPost at hbur
  generalize (decS s.data.toList).getD noTup = T at *
  generalize (decS s.data.toList).isSome = D at *
  generalize (buriedS s.data.toList).getD [] = K at *
  generalize (buriedS s.data.toList).isSome = B at *
  have HS := keep hS
  have Hd := keep hd
  have Hbur := keep hbur
  clear hS hd hbur
  go_enter Tryz.func21, Tryz.ntmps21
  go_wp2_with fail
  refine Hd.out.mono ?_
  rintro e w1 ⟨rfl, hb1⟩
  have hg1 : Grow w (w1.alloc (.cells (tuCells T).toArray 61)) := Grow.alloc hb1 _
  have hT1 : Blk (w1.alloc (.cells (tuCells T).toArray 61)) w1.heap.size 61 (tuCells T) := Blk.new _ _ _
  have hB := Hbur.out (w1.alloc (.cells (tuCells T).toArray 61))
  unfold tuCells at hg1 hB hT1
  have HB := keep hB
  clear hB
  cases D with
  | true =>
    obtain ⟨d0, d1, d2, d3, d4⟩ := tures hT1
    unfold tupV
    go_wp2_with fail
    go_ret2
    rw [HS.out]
    exact ⟨rfl, hg1⟩
  | false =>
    unfold tupV
    go_wp2_with fail
    refine HB.out.mono ?_
    rintro e w2 ⟨rfl, hb2⟩
    have hg2 := Grow.trans hg1 hb2
    clear HB Hbur hb2 hg1
    go_wp2_with fail
    go_ret2
    rw [HS.out]
    exact ⟨rfl, hg2⟩

end Go.Proofs.YtikmkimkhngihaaGreat

/- What vacuum gathers, in a world. -/
namespace Go.Proofs.YtikmkimkhngihaaGreat
open Go.RowKit

/-- What is to be done to a page: slots to freeze, slots to take off, and what goes (key, page, slot). -/
structure Wk where
  fr : List Int
  off : List Int
  gone : List (List UInt8 × Int × Int)

def gCells (l : List (List UInt8 × Int × Int)) : List Value := l.flatMap fun x => [.string (str x.1), .int .i64 x.2.1, .int .i64 x.2.2]
theorem iCells_append (a b : List Int) : iCells (a ++ b) = iCells a ++ iCells b := by simp [iCells]

def stepW (v : Vw) (h pg : Int) (a : Wk) (j : Nat) (l : List UInt8) : Wk :=
  if stateS l = 2 then { a with gone := a.gone ++ [((keyS l).1, pg, (j : Int))] }
  else if stateS l = 3 then
    if goneB v ((decS l).getD noTup) h then { a with gone := a.gone ++ [(((decS l).getD noTup).key, pg, (j : Int))] }
    else { a with fr := if oldB v ((decS l).getD noTup) h then a.fr ++ [(j : Int)] else a.fr, off := if offB v ((decS l).getD noTup) then a.off ++ [(j : Int)] else a.off }
  else a
def sortK (v : Vw) (h pg : Int) (items : List (List UInt8)) : Nat → Wk
  | 0 => ⟨[], [], []⟩
  | k + 1 => stepW v h pg (sortK v h pg items k) k (items.getD k [])
def sortS (v : Vw) (h pg : Int) (p : Pg) : Wk := if p.kind = 2 then sortK v h pg p.items p.items.length else ⟨[], [], []⟩

theorem sortK_len (v : Vw) (h pg : Int) (items : List (List UInt8)) (k : Nat) :
    (sortK v h pg items k).fr.length ≤ k ∧ (sortK v h pg items k).off.length ≤ k ∧ (sortK v h pg items k).gone.length ≤ k := by
  induction k with
  | zero => exact ⟨Nat.le_refl _, Nat.le_refl _, Nat.le_refl _⟩
  | succ k ih =>
    rw [sortK]
    generalize sortK v h pg items k = a at *
    obtain ⟨h1, h2, h3⟩ := ih
    unfold stepW
    split
    · simp; omega
    · split
      · split
        · simp; omega
        · refine ⟨?_, ?_, by simp; omega⟩
          · cases oldB v ((decS (items.getD k [])).getD noTup) h <;> simp <;> omega
          · cases offB v ((decS (items.getD k [])).getD noTup) <;> simp <;> omega
      · omega

/-- What is gathered lies in a variable's block, in rows of its own. -/
structure WkAt (w : World) (b : Nat) (k : Wk) (fv ov gv : Value) : Prop where
  blk : Blk w b 39 [fv, ov, gv]
  fr : w.ownsRow (b + 1) 3 1 fv k.fr.length (iCells k.fr)
  off : w.ownsRow (b + 1) 3 1 ov k.off.length (iCells k.off)
  gone : w.ownsRow (b + 1) 73 3 gv k.gone.length (gCells k.gone)
  ne : fv.ownBlock = none ∨ fv.ownBlock ≠ ov.ownBlock

theorem grow_grown {w w' : World} (h : Grow w w') (row : Option Nat) : w.grownBy w' row := ⟨h.os, h.tape, h.output, h.size, fun k hk _ => h.block k hk⟩
theorem owns_fits {w w' : World} {b e s n : Nat} {v : Value} {xs : List Value} (h : w.ownsRow b e s v n xs) (k : Grow w w') : w'.ownsRow b e s v n xs :=
  h.kept (grow_grown k none) (by cases v.ownBlock <;> simp)
theorem own_ne {w : World} {b b' e e' s s' n n' : Nat} {v v' : Value} {xs xs' : List Value} (h : w.ownsRow b e s v n xs) (h' : w.ownsRow b' e' s' v' n' xs') (he : e ≠ e') : v.ownBlock = none ∨ v.ownBlock ≠ v'.ownBlock := by
  rcases h.2 with ⟨rfl, _⟩ | ⟨g, cap, cur, rfl, _, hg, _⟩
  · exact .inl rfl
  · rcases h'.2 with ⟨rfl, _⟩ | ⟨g', cap', cur', rfl, _, hg', _⟩
    · exact .inr (by simp [Value.ownBlock])
    · refine .inr fun e1 => ?_
      simp only [Value.ownBlock, Option.some.injEq] at e1
      subst e1
      rw [hg] at hg'
      simp at hg'
      exact he hg'.2
theorem own_set {w : World} {B e s n b o : Nat} {v u : Value} {xs : List Value} (h : w.ownsRow B e s v n xs) (hb : b < B) : (w.setCell ⟨b, o, none⟩ u).ownsRow B e s v n xs := ownsRow_setCell_below h (a := ⟨b, o, none⟩) hb u

theorem WkAt.fits {w w' : World} {b : Nat} {k : Wk} {fv ov gv : Value} (h : WkAt w b k fv ov gv) (g : Grow w w') : WkAt w' b k fv ov gv :=
  ⟨h.blk.fits g, owns_fits h.fr g, owns_fits h.off g, owns_fits h.gone g, h.ne⟩

/-- Behind an append to a row: the variable's block stands. -/
theorem WkAt.stands {w w1 : World} {b : Nat} {k : Wk} {fv ov gv : Value} (h : WkAt w b k fv ov gv) {o : Obj} {row : Option Nat} (hg : (w.alloc o).grownBy w1 row) (hr : ∀ g, row = some g → b + 1 ≤ g) : Blk w1 b 39 [fv, ov, gv] := by
  have h1 := h.blk.alloc o
  have hl := h1.lt
  unfold Blk at *
  rw [hg.block b hl (fun e => by have := hr b e.symm; omega)]
  exact h1

theorem WkAt.pushFr {w w1 : World} {b : Nat} {k : Wk} {fv ov gv v' : Value} (h : WkAt w b k fv ov gv) {o : Obj} (hg : (w.alloc o).grownBy w1 fv.ownBlock) {x : Int} (hown : w1.ownsRow (b + 1) 3 1 v' (k.fr.length + 1) (iCells k.fr ++ [.int .i64 x]))
    (hat : v'.ownBlock = fv.ownBlock ∨ v'.ownBlock = some (w.alloc o).heap.size) : WkAt (w1.setCell ⟨b, 0, none⟩ v') b { k with fr := k.fr ++ [x] } v' ov gv := by
  have hB := h.stands hg (fun g e => (h.fr.lt g e).1)
  refine ⟨hB.set 0 v', own_set ?_ (by omega), own_set ((h.off.alloc o).kept hg ?_) (by omega), own_set ((h.gone.alloc o).kept hg (own_ne h.gone h.fr (by decide))) (by omega), ?_⟩
  · simpa [iCells] using hown
  · rcases h.ne with e | e
    · rw [e]; cases ov.ownBlock <;> simp
    · exact .inr (Ne.symm e)
  · rcases hat with e | e
    · rw [e]; exact h.ne
    · refine .inr ?_
      rw [e]
      intro e2
      have := (h.off.lt _ e2.symm).2
      simp at this
      omega

theorem WkAt.pushOff {w w1 : World} {b : Nat} {k : Wk} {fv ov gv v' : Value} (h : WkAt w b k fv ov gv) {o : Obj} (hg : (w.alloc o).grownBy w1 ov.ownBlock) {x : Int} (hown : w1.ownsRow (b + 1) 3 1 v' (k.off.length + 1) (iCells k.off ++ [.int .i64 x]))
    (hat : v'.ownBlock = ov.ownBlock ∨ v'.ownBlock = some (w.alloc o).heap.size) : WkAt (w1.setCell ⟨b, 1, none⟩ v') b { k with off := k.off ++ [x] } fv v' gv := by
  have hB := h.stands hg (fun g e => (h.off.lt g e).1)
  refine ⟨hB.set 1 v', own_set ((h.fr.alloc o).kept hg h.ne) (by omega), own_set ?_ (by omega), own_set ((h.gone.alloc o).kept hg (own_ne h.gone h.off (by decide))) (by omega), ?_⟩
  · simpa [iCells] using hown
  · rcases hat with e | e
    · rw [e]; exact h.ne
    · rcases hf : fv.ownBlock with _ | g
      · exact .inl rfl
      · refine .inr ?_
        rw [e]
        intro e2
        have := (h.fr.lt _ hf).2
        simp at this e2
        omega

theorem WkAt.pushGone {w w1 : World} {b : Nat} {k : Wk} {fv ov gv v' : Value} (h : WkAt w b k fv ov gv) {o : Obj} (hg : (w.alloc o).grownBy w1 gv.ownBlock) {x : List UInt8 × Int × Int}
    (hown : w1.ownsRow (b + 1) 73 3 v' (k.gone.length + 1) (gCells k.gone ++ [.string (str x.1), .int .i64 x.2.1, .int .i64 x.2.2])) : WkAt (w1.setCell ⟨b, 2, none⟩ v') b { k with gone := k.gone ++ [x] } fv ov v' := by
  have hB := h.stands hg (fun g e => (h.gone.lt g e).1)
  refine ⟨hB.set 2 v', own_set ((h.fr.alloc o).kept hg (own_ne h.fr h.gone (by decide))) (by omega), own_set ((h.off.alloc o).kept hg (own_ne h.off h.gone (by decide))) (by omega), own_set ?_ (by omega), h.ne⟩
  simpa [gCells] using hown

theorem own_row {w : World} {b e s n : Nat} {v : Value} {xs : List Value} (h : w.ownsRow b e s v n xs) : RowS w e v n xs := by
  rcases h.2 with ⟨rfl, rfl⟩ | ⟨g, cap, cur, rfl, _, hg, _, _, _, ht⟩
  · exact .inl ⟨rfl, by have := h.1; simpa using this, _, _, rfl⟩
  · refine .inr ⟨g, 0, cap, cur, (0, 0), rfl, hg, fun j hj => ?_⟩
    rw [Nat.zero_add, ← ht, List.getElem?_take]
    have hl := h.1
    rw [if_pos (by omega)]
    simp

theorem infoInt : (Tryz.prog.info? 3).map (fun i => (i.zero, i.size, i.bytes)) = some (some (.int .i64 0), 1, 8) := by kernel_rfl
theorem infoEntry : (Tryz.prog.info? 73).map (fun i => (i.zero, i.size, i.bytes)) = some (some (.agg #[.string ⟨#[]⟩, .int .i64 0, .int .i64 0]), 3, 32) := by kernel_rfl
theorem cell_three_new (w : World) (x y z : Value) (t : TypeId) : ∀ j u, [x, y, z][j]? = some u → (w.alloc (.cells #[x, y, z] t)).cell? ((⟨w.heap.size, 0, none⟩ : Addr).add j) = some u := by
  intro j u hj
  match j, hj with
  | 0, hj => simp at hj; subst hj; simp [Addr.add]
  | 1, hj => simp at hj; subst hj; simp [Addr.add]
  | 2, hj => simp at hj; subst hj; simp [Addr.add]

end Go.Proofs.YtikmkimkhngihaaGreat
