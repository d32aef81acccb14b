import Derived.Test.YtcdapdcablnhpaaGreatKSe5
import Derived.Test.YtcdapdcablnhpaaGreatKBf11
namespace Go.Proofs.YtcdapdcablnhpaaGreat
open Go.RowKit
def rwC (r : Rw) : List Value := [.string (str r.1), .string (str r.2)]
def rwCells (l : List Rw) : List Value := l.flatMap rwC
@[simp] theorem rwCells_length (l : List Rw) : (rwCells l).length = 2 * l.length := by
 induction l with
 | nil => rfl
 | cons x r ih => rw [show rwCells (x :: r) = rwC x ++ rwCells r from rfl, List.length_append, ih, List.length_cons, show (rwC x).length = 2 from rfl]; omega
theorem rwCells_append (a b : List Rw) : rwCells (a ++ b) = rwCells a ++ rwCells b := by simp [rwCells]
def OwnR (N : Nat) (w : World) (v : Value) (l : List Rw) : Prop := w.ownsRow N 46 2 v l.length (rwCells l)
def plCells (S : Pl) (pv rv ov lv : Value) : List Value :=
 [.int .u8 S.call, .string (str S.key), .string (str S.upk), .string (str S.val), .int .i64 S.n, .int .i64 S.own,
  .int .i64 S.wk, .string (str S.wkey), .int .i64 S.wsz, .int .i64 S.wpg, pv, .int .i64 S.re, .bool S.rf, .string (str S.rv), rv, ov,
  .int .i64 S.seen, lv, .int .i64 S.right, .bool S.hit, .string (str S.one.1), .int .i64 S.one.2.1, .int .i64 S.one.2.2,
  .int .i64 S.level, .string (str S.ent.1), .int .i64 S.ent.2.1, .int .i64 S.ent.2.2, .string (str S.item)]
structure Sel (bs pb : Nat) (w w' : World) : Prop where
 os : w'.os = w.os
 tape : w'.tape = w.tape
 output : w'.output = w.output
 size : w.heap.size <= w'.heap.size
 low : ∀ k, k < bs -> k ≠ pb -> w'.heap[k]? = w.heap[k]?
 typ : ∀ (c : Nat) (blk : Array Value) (t : Nat) (f : Nat × Nat), w.heap[c]? = some (.cells blk t f) -> t ≠ 111 -> t ≠ 46 -> w'.heap[c]? = some (.cells blk t f)
 plans : ∀ (c : Nat) (blk : Array Value) (f : Nat × Nat), w.heap[c]? = some (.cells blk 111 f) -> c ≠ pb -> w'.heap[c]? = some (.cells blk 111 f)
theorem Sel.refl (bs pb : Nat) (w : World) : Sel bs pb w w := ⟨rfl, rfl, rfl, Nat.le_refl _, fun _ _ _ => rfl, fun _ _ _ _ h _ _ => h, fun _ _ _ h _ => h⟩
theorem Sel.trans {bs pb : Nat} {u v w : World} (h : Sel bs pb u v) (k : Sel bs pb v w) : Sel bs pb u w :=
 ⟨k.os.trans h.os, k.tape.trans h.tape, k.output.trans h.output, Nat.le_trans h.size k.size, fun i hi hn => (k.low i hi hn).trans (h.low i hi hn), fun c blk t f hc h1 h2 => k.typ c blk t f (h.typ c blk t f hc h1 h2) h1 h2, fun c blk f hc hn => k.plans c blk f (h.plans c blk f hc hn) hn⟩
theorem Sel.of_grow {bs pb : Nat} {w w' : World} (hb : bs <= w.heap.size) (g : Grow w w') : Sel bs pb w w' :=
 ⟨g.os, g.tape, g.output, g.size, fun k hk _ => g.block k (by omega), fun c blk t f hc _ _ => by rw [g.block c (lt_of_block hc)]; exact hc, fun c blk f hc _ => by rw [g.block c (lt_of_block hc)]; exact hc⟩
theorem Sel.but {bs pb b t : Nat} {w w' : World} {cs : List Value} (k : But b w w') (hB : Blk w b t cs) (ht : (t = 111 /\ b = pb) \/ (t = 46 /\ bs <= b)) (h2 : bs <= w.heap.size) : Sel bs pb w w' := by
 refine ⟨k.os, k.tape, k.output, k.size, fun i hi hn => k.block i (by omega) ?_, fun c blk t' f hc n1 n2 => ?_, fun c blk f hc hn => ?_⟩
 ·rcases ht with ⟨_, rfl⟩ | ⟨_, h⟩
  ·exact hn
  ·omega
 ·rw [k.block c (lt_of_block hc) ?_]
  ·exact hc
  ·rintro rfl;unfold Blk at hB;rw [hB] at hc;simp at hc;rcases ht with ⟨rfl, _⟩ | ⟨rfl, _⟩
   ·exact n1 hc.2.1.symm
   ·exact n2 hc.2.1.symm
 ·rw [k.block c (lt_of_block hc) ?_]
  ·exact hc
  ·rintro rfl;unfold Blk at hB;rw [hB] at hc;simp at hc;rcases ht with ⟨rfl, rfl⟩ | ⟨rfl, _⟩
   ·exact hn rfl
   ·exact absurd hc.2.1 (by decide)
end Go.Proofs.YtcdapdcablnhpaaGreat
