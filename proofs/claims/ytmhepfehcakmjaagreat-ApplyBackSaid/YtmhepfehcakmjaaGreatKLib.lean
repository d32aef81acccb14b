import Derived.WalkKit
import Derived.WalkSpells
import Derived.WalkLawsBesides
namespace Go.Proofs.YtmhepfehcakmjaaGreat
open Go.RowKit
structure Kept (p : Prop) : Prop where
 out : p
theorem keep {p : Prop} (h : p) : Kept p := ⟨h⟩
def str (l : List UInt8) : ByteArray := ⟨l.toArray⟩
@[simp] theorem str_toList (l : List UInt8) : (str l).data.toList = l := rfl
@[simp] theorem str_size (l : List UInt8) : (str l).size = l.length := rfl
theorem str_list (l : List UInt8) : (str l).toList = l := ByteArray.toList_mk l
theorem str_of (s : ByteArray) : str s.data.toList = s := rfl
structure But (b : Nat) (w w' : World) : Prop where
 os : w'.os = w.os
 tape : w'.tape = w.tape
 output : w'.output = w.output
 size : w.heap.size <= w'.heap.size
 block : ∀ k, k < w.heap.size -> k ≠ b -> w'.heap[k]? = w.heap[k]?
theorem But.refl (b : Nat) (w : World) : But b w w := ⟨rfl, rfl, rfl, Nat.le_refl _, fun _ _ _ => rfl⟩
theorem But.trans {b : Nat} {u v w : World} (h : But b u v) (k : But b v w) : But b u w :=
 ⟨k.os.trans h.os, k.tape.trans h.tape, k.output.trans h.output, Nat.le_trans h.size k.size,
  fun i hi hb => (k.block i (Nat.lt_of_lt_of_le hi h.size) hb).trans (h.block i hi hb)⟩
theorem But.setCell {b : Nat} {u w : World} (h : But b u w) (o : Nat) (v : Value) : But b u (w.setCell ⟨b, o, none⟩ v) :=
 h.trans ⟨rfl, rfl, rfl, by simp [World.setCell], fun k _ hk => Below.heap_setCell _ _ _ _ (by simpa using hk)⟩
theorem But.alloc {b : Nat} {u w : World} (h : But b u w) (o : Obj) : But b u (w.alloc o) :=
 h.trans ⟨rfl, rfl, rfl, by simp, fun k hk _ => Below.heap_alloc _ _ _ hk⟩
theorem But.drew {b : Nat} {u w : World} (h : But b u w) : But b u w.drew := ⟨h.os, h.tape, h.output, h.size, h.block⟩
theorem But.drewN {b n : Nat} {u w : World} (h : But b u w) : But b u (w.drewN n) := ⟨h.os, h.tape, h.output, h.size, h.block⟩
theorem But.below {b B : Nat} {u w w' : World} (h : Below B u w) (k : But b w w') (hb : B <= b) (hB : B <= w.heap.size) : Below B u w' :=
 h.trans ⟨k.os, k.tape, k.output, k.size, fun i hi => k.block i (by omega) (by omega)⟩
theorem But.cell {b : Nat} {w w' : World} (h : But b w w') {a : Addr} (ha : a.block < w.heap.size) (hb : a.block ≠ b) : w'.cell? a = w.cell? a :=
 World.cell?_of_block (w := w) (h.block _ ha hb)
theorem But.frozen {b : Nat} {w w' : World} (h : But b w w') {a : Addr} (ha : a.block < w.heap.size) (hb : a.block ≠ b) : w'.frozen? a = w.frozen? a :=
 World.frozen?_of_block (w := w) (h.block _ ha hb)
def Blk (w : World) (b t : Nat) (cs : List Value) : Prop := w.heap[b]? = some (.cells cs.toArray t (0, 0))
theorem Blk.lt {w : World} {b t : Nat} {cs : List Value} (h : Blk w b t cs) : b < w.heap.size := lt_of_block h
theorem Blk.cell {w : World} {b t : Nat} {cs : List Value} (h : Blk w b t cs) (i : Nat) (hi : i < cs.length) : w.cell? ⟨b, i, none⟩ = some cs[i] := by
 unfold Blk at h; simp [World.cell?, h, hi]
theorem Blk.free {w : World} {b t : Nat} {cs : List Value} (h : Blk w b t cs) (i : Nat) : w.frozen? ⟨b, i, none⟩ = false := by
 unfold Blk at h; simp [World.frozen?, h]
theorem Blk.set {w : World} {b t : Nat} {cs : List Value} (h : Blk w b t cs) (i : Nat) (v : Value) : Blk (w.setCell ⟨b, i, none⟩ v) b t (cs.set i v) := by
 unfold Blk at *;simp only [World.setCell, Array.getElem?_modify, if_true, h];simp
theorem Blk.set_other {w : World} {b t : Nat} {cs : List Value} (h : Blk w b t cs) (a : Addr) (ha : b ≠ a.block) (v : Value) : Blk (w.setCell a v) b t cs := by
 unfold Blk at *; rw [Below.heap_setCell _ _ _ _ ha]; exact h
theorem Blk.alloc {w : World} {b t : Nat} {cs : List Value} (h : Blk w b t cs) (o : Obj) : Blk (w.alloc o) b t cs := by
 have := h.lt; unfold Blk at *; rw [Below.heap_alloc _ _ _ this]; exact h
theorem Blk.drew {w : World} {b t : Nat} {cs : List Value} (h : Blk w b t cs) : Blk w.drew b t cs := h
theorem Blk.drewN {w : World} {b t n : Nat} {cs : List Value} (h : Blk w b t cs) : Blk (w.drewN n) b t cs := h
theorem Blk.new (w : World) (t : Nat) (cs : List Value) : Blk (w.alloc (.cells cs.toArray t)) w.heap.size t cs := by
 unfold Blk; show (w.heap.push _)[_]? = _; simp
theorem Blk.but {w w' : World} {b c t : Nat} {cs : List Value} (h : Blk w b t cs) (k : But c w w') (hb : b ≠ c) : Blk w' b t cs := by
 have := h.lt; unfold Blk at *; rw [k.block _ this hb]; exact h
theorem Blk.below {w w' : World} {b t B : Nat} {cs : List Value} (h : Blk w b t cs) (k : Below B w w') (hb : b < B) : Blk w' b t cs := by
 unfold Blk at *; rw [k.block _ hb]; exact h
theorem Blk.fits {w w' : World} {b t : Nat} {cs : List Value} (h : Blk w b t cs) (k : Below w.heap.size w w') : Blk w' b t cs := h.below k h.lt
def RowS (w : World) (t : Nat) (v : Value) (n : Nat) (cs : List Value) : Prop :=
 (n = 0 /\ cs = [] /\ ∃ a cap, v = .slice a 0 cap) \/
 ∃ c off cap blk f, v = .slice (some ⟨c, off, none⟩) n cap /\ w.heap[c]? = some (.cells blk t f) /\ ∀ j, j < cs.length -> blk[off + j]? = cs[j]?
theorem RowS.nil (w : World) (t : Nat) (a : Option Addr) (cap : Nat) : RowS w t (.slice a 0 cap) 0 [] := .inl ⟨rfl, rfl, _, _, rfl⟩
theorem RowS.move {w w' : World} {t : Nat} {v : Value} {n : Nat} {cs : List Value} (h : RowS w t v n cs)
  (hk : ∀ (c : Nat) (blk : Array Value) (f : Nat × Nat), w.heap[c]? = some (.cells blk t f) -> w'.heap[c]? = some (.cells blk t f)) : RowS w' t v n cs := by
 rcases h with h | ⟨c, off, cap, blk, f, hv, hb, hc⟩
 ·exact .inl h
 ·exact .inr ⟨c, off, cap, blk, f, hv, hk _ _ _ hb, hc⟩
theorem RowS.fits {w w' : World} {t : Nat} {v : Value} {n : Nat} {cs : List Value} (h : RowS w t v n cs) (k : Below w.heap.size w w') : RowS w' t v n cs :=
 h.move fun c blk f hb => by rw [k.block c (lt_of_block hb)]; exact hb
theorem RowS.but {w w' : World} {b t : Nat} {v : Value} {n : Nat} {cs : List Value} (h : RowS w t v n cs) (k : But b w w')
  (hb : ∀ (blk : Array Value) (f : Nat × Nat), w.heap[b]? ≠ some (.cells blk t f)) : RowS w' t v n cs :=
 h.move fun c blk f hc => by
  rw [k.block c (lt_of_block hc) (fun e => by subst e; exact hb _ _ hc)]; exact hc
theorem RowS.blk {w : World} {b t : Nat} {cs : List Value} (h : Blk w b t cs) (n cap : Nat) (cs' : List Value) (off : Nat) (hcs : ∀ j, j < cs'.length -> cs[off + j]? = cs'[j]?) :
  RowS w t (.slice (some ⟨b, off, none⟩) n cap) n cs' :=
 .inr ⟨b, off, cap, cs.toArray, (0, 0), rfl, h, by simpa using hcs⟩
def Row (w : World) (_ : Nat) (v : Value) (n : Nat) (cs : List Value) : Prop :=
 (n = 0 /\ cs = [] /\ ∃ a cap, v = .slice a 0 cap) \/
 ∃ c off cap, v = .slice (some ⟨c, off, none⟩) n cap /\ ∀ j (hj : j < cs.length), w.cell? ⟨c, off + j, none⟩ = some cs[j]
theorem RowS.weak {w : World} {t : Nat} {v : Value} {n : Nat} {cs : List Value} (h : RowS w t v n cs) : Row w t v n cs := by
 rcases h with h | ⟨c, off, cap, blk, f, hv, hb, hc⟩
 ·exact .inl h
 ·refine .inr ⟨c, off, cap, hv, fun j hj => ?_⟩;have := hc j hj;simp [World.cell?, hb, this, hj]
theorem Row.nil (w : World) (t : Nat) (a : Option Addr) (cap : Nat) : Row w t (.slice a 0 cap) 0 [] := .inl ⟨rfl, rfl, _, _, rfl⟩
theorem Row.fits {w w' : World} {t : Nat} {v : Value} {n : Nat} {cs : List Value} (h : Row w t v n cs) (k : Below w.heap.size w w') : Row w' t v n cs := by
 rcases h with h | ⟨c, off, cap, hv, hc⟩
 ·exact .inl h
 ·exact .inr ⟨c, off, cap, hv, fun j hj => (k.cell (World.block_lt_of_cell? w _ (hc j hj))).trans (hc j hj)⟩
theorem Row.blk {w : World} {b t : Nat} {cs : List Value} (h : Blk w b t cs) (n cap : Nat) (cs' : List Value) (off : Nat) (hcs : ∀ j, j < cs'.length -> cs[off + j]? = cs'[j]?) :
  Row w t (.slice (some ⟨b, off, none⟩) n cap) n cs' := (RowS.blk h n cap cs' off hcs).weak
def bcells (l : List UInt8) : List Value := l.map fun c => Value.int .u8 c.toNat
@[simp] theorem bcells_length (l : List UInt8) : (bcells l).length = l.length := by simp [bcells]
theorem bcells_append (a b : List UInt8) : bcells (a ++ b) = bcells a ++ bcells b := by simp [bcells]
theorem own_form {w : World} {base e size n : Nat} {v : Value} {xs : List Value} (h : w.ownsRow base e size v n xs) : ∃ a cap, v = .slice a n cap := by
 obtain ⟨_, h | ⟨g, cap, cur, hv, _⟩⟩ := h
 ·exact ⟨none, 0, by rw [h.1, h.2]⟩
 ·exact ⟨_, _, hv⟩
end Go.Proofs.YtmhepfehcakmjaaGreat
