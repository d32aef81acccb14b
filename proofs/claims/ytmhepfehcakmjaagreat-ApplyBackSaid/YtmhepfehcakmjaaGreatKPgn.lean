import Derived.Test.YtmhepfehcakmjaaGreatKLexm
import Derived.Test.YtmhepfehcakmjaaGreatKLib
namespace Go.Proofs.YtmhepfehcakmjaaGreat
open Go.RowKit
structure Pg where
 lsn : Int
 kind : Int
 level : Int
 right : Int
 high : List UInt8
 items : List (List UInt8)
def sCells (l : List (List UInt8)) : List Value := l.map fun x => .string (str x)
@[simp] theorem sCells_length (l : List (List UInt8)) : (sCells l).length = l.length := by simp [sCells]
def pgCells (p : Pg) (iv : Value) : List Value := [.int .i64 p.lsn, .int .i64 p.kind, .int .i64 p.level, .int .i64 p.right, .string (str p.high), iv]
def pgV (p : Pg) (iv : Value) : Value := .agg #[.int .i64 p.lsn, .int .i64 p.kind, .int .i64 p.level, .int .i64 p.right, .string (str p.high), iv]
def ItemsS (w : World) (iv : Value) (l : List (List UInt8)) : Prop := RowS w 9 iv l.length (sCells l)
def Items (w : World) (iv : Value) (l : List (List UInt8)) : Prop := Row w 9 iv l.length (sCells l)
theorem ItemsS.weak {w : World} {iv : Value} {l : List (List UInt8)} (h : ItemsS w iv l) : Items w iv l := RowS.weak h
theorem items_form {w : World} {iv : Value} {l : List (List UInt8)} (h : Items w iv l) : ∃ a cap, iv = .slice a l.length cap := by
 rcases h with ⟨h1, _, a, cap, h2⟩ | ⟨c, off, cap, h1, _⟩
 ·exact ⟨a, cap, by rw [h2, h1]⟩
 ·exact ⟨_, _, h1⟩
theorem items_cells {w : World} {iv : Value} {l : List (List UInt8)} (h : Items w iv l) (hl : 0 < l.length) :
  ∃ c off cap, iv = .slice (some ⟨c, off, none⟩) l.length cap /\ ∀ j (hj : j < l.length), w.cell? ⟨c, off + j, none⟩ = some (.string (str l[j])) := by
 rcases h with ⟨h1, _⟩ | ⟨c, off, cap, h1, h3⟩
 ·omega
 ·refine ⟨c, off, cap, h1, fun j hj => ?_⟩;rw [h3 j (by simpa using hj)];simp [sCells]
theorem pgset {w : World} {b t : Nat} {a0 a1 a2 a3 a4 a5 : Value} (h : Blk w b t [a0, a1, a2, a3, a4, a5]) (v0 v1 v2 v3 v4 v5 : Value) :
  Blk ((((((w.setCell ⟨b, 0, none⟩ v0).setCell ⟨b, 1, none⟩ v1).setCell ⟨b, 2, none⟩ v2).setCell ⟨b, 3, none⟩ v3).setCell ⟨b, 4, none⟩ v4).setCell ⟨b, 5, none⟩ v5) b t [v0, v1, v2, v3, v4, v5] :=
 (((((h.set 0 v0).set 1 v1).set 2 v2).set 3 v3).set 4 v4).set 5 v5
theorem pgbut (w : World) (b : Nat) (v0 v1 v2 v3 v4 v5 : Value) :
  But b w ((((((w.setCell ⟨b, 0, none⟩ v0).setCell ⟨b, 1, none⟩ v1).setCell ⟨b, 2, none⟩ v2).setCell ⟨b, 3, none⟩ v3).setCell ⟨b, 4, none⟩ v4).setCell ⟨b, 5, none⟩ v5) :=
 ((((((But.refl b w).setCell 0 v0).setCell 1 v1).setCell 2 v2).setCell 3 v3).setCell 4 v4).setCell 5 v5
theorem items_but {w w' : World} {b : Nat} {iv : Value} {l : List (List UInt8)} {t : Nat} {cs : List Value} (h : ItemsS w iv l) (k : But b w w') (hb : Blk w b t cs) (ht : t ≠ 9) : ItemsS w' iv l :=
 RowS.but h k fun blk f e => by unfold Blk at hb; rw [hb] at e; simp at e; exact ht e.2.1
theorem pgres {w : World} {b t : Nat} {v0 v1 v2 v3 v4 v5 : Value} (h : Blk w b t [v0, v1, v2, v3, v4, v5]) :
  w.cell? ⟨b, 0, none⟩ = some v0 /\ w.cell? ⟨b, 1, none⟩ = some v1 /\ w.cell? ⟨b, 2, none⟩ = some v2 /\ w.cell? ⟨b, 3, none⟩ = some v3 /\ w.cell? ⟨b, 4, none⟩ = some v4 /\ w.cell? ⟨b, 5, none⟩ = some v5 /\
  w.frozen? ⟨b, 0, none⟩ = false /\ w.frozen? ⟨b, 1, none⟩ = false /\ w.frozen? ⟨b, 2, none⟩ = false /\ w.frozen? ⟨b, 3, none⟩ = false /\ w.frozen? ⟨b, 4, none⟩ = false /\ w.frozen? ⟨b, 5, none⟩ = false :=
 ⟨h.cell 0 (by simp), h.cell 1 (by simp), h.cell 2 (by simp), h.cell 3 (by simp), h.cell 4 (by simp), h.cell 5 (by simp), h.free 0, h.free 1, h.free 2, h.free 3, h.free 4, h.free 5⟩
def iCells (l : List Int) : List Value := l.map (Value.int .i64)
@[simp] theorem iCells_length (l : List Int) : (iCells l).length = l.length := by simp [iCells]
def Ints (w : World) (v : Value) (l : List Int) : Prop := Row w 3 v l.length (iCells l)
theorem Ints.fits {w w' : World} {v : Value} {l : List Int} (h : Ints w v l) (k : Below w.heap.size w w') : Ints w' v l := Row.fits h k
theorem ints_form {w : World} {v : Value} {l : List Int} (h : Ints w v l) :
  ∃ a cap, v = .slice a l.length cap /\ ∀ j, j < l.length -> ∃ c off, a = some ⟨c, off, none⟩ /\ w.cell? ⟨c, off + j, none⟩ = some (.int .i64 (l.getD j 0)) := by
 rcases h with ⟨h1, _, a, cap, h2⟩ | ⟨c, off, cap, h1, h3⟩
 ·exact ⟨a, cap, by rw [h2, h1], fun j hj => by omega⟩
 ·refine ⟨_, _, h1, fun j hj => ⟨c, off, rfl, ?_⟩⟩;rw [h3 j (by simpa using hj)];simp [iCells, hj]
def IntsS (w : World) (v : Value) (l : List Int) : Prop := RowS w 3 v l.length (iCells l)
theorem IntsS.weak {w : World} {v : Value} {l : List Int} (h : IntsS w v l) : Ints w v l := RowS.weak h
end Go.Proofs.YtmhepfehcakmjaaGreat
