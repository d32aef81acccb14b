import Derived.WalkKit
import Derived.WalkSpells
import Derived.WalkLawsBesides
import Derived.Test.YtmhepfehcakmjaaGreatKLexm
namespace Go.Proofs.YtmhepfehcakmjaaGreat
open Go.RowKit
structure Kept (p : Prop) : Prop where
 out : p
theorem keep {p : Prop} (h : p) : Kept p := ⟨h⟩
def str (l : List UInt8) : ByteArray := ⟨l.toArray⟩
@[simp] theorem str_toList (l : List UInt8) : (str l).data.toList = l := rfl
@[simp] theorem str_size (l : List UInt8) : (str l).size = l.length := rfl
theorem str_list (l : List UInt8) : (str l).toList = l := ByteArray.toList_mk l
theorem str_of (s : ByteArray) : str s.data.toList = s := rfl
structure But (b : Nat) (w w' : World) : Prop where
 os : w'.os = w.os
 tape : w'.tape = w.tape
 output : w'.output = w.output
 size : w.heap.size ≤ w'.heap.size
 block : ∀ k, k < w.heap.size → k ≠ b → w'.heap[k]? = w.heap[k]?
theorem But.refl (b : Nat) (w : World) : But b w w := ⟨rfl, rfl, rfl, Nat.le_refl _, fun _ _ _ => rfl⟩
theorem But.trans {b : Nat} {u v w : World} (h : But b u v) (k : But b v w) : But b u w :=
 ⟨k.os.trans h.os, k.tape.trans h.tape, k.output.trans h.output, Nat.le_trans h.size k.size,
  fun i hi hb => (k.block i (Nat.lt_of_lt_of_le hi h.size) hb).trans (h.block i hi hb)⟩
theorem But.setCell {b : Nat} {u w : World} (h : But b u w) (o : Nat) (v : Value) : But b u (w.setCell ⟨b, o, none⟩ v) :=
 h.trans ⟨rfl, rfl, rfl, by simp [World.setCell], fun k _ hk => Below.heap_setCell _ _ _ _ (by simpa using hk)⟩
theorem But.alloc {b : Nat} {u w : World} (h : But b u w) (o : Obj) : But b u (w.alloc o) :=
 h.trans ⟨rfl, rfl, rfl, by simp, fun k hk _ => Below.heap_alloc _ _ _ hk⟩
theorem But.drew {b : Nat} {u w : World} (h : But b u w) : But b u w.drew := ⟨h.os, h.tape, h.output, h.size, h.block⟩
theorem But.drewN {b n : Nat} {u w : World} (h : But b u w) : But b u (w.drewN n) := ⟨h.os, h.tape, h.output, h.size, h.block⟩
theorem But.below {b B : Nat} {u w w' : World} (h : Below B u w) (k : But b w w') (hb : B ≤ b) (hB : B ≤ w.heap.size) : Below B u w' :=
 h.trans ⟨k.os, k.tape, k.output, k.size, fun i hi => k.block i (by omega) (by omega)⟩
theorem But.cell {b : Nat} {w w' : World} (h : But b w w') {a : Addr} (ha : a.block < w.heap.size) (hb : a.block ≠ b) : w'.cell? a = w.cell? a :=
 World.cell?_of_block (w := w) (h.block _ ha hb)
theorem But.frozen {b : Nat} {w w' : World} (h : But b w w') {a : Addr} (ha : a.block < w.heap.size) (hb : a.block ≠ b) : w'.frozen? a = w.frozen? a :=
 World.frozen?_of_block (w := w) (h.block _ ha hb)
def Blk (w : World) (b t : Nat) (cs : List Value) : Prop := w.heap[b]? = some (.cells cs.toArray t (0, 0))
theorem Blk.lt {w : World} {b t : Nat} {cs : List Value} (h : Blk w b t cs) : b < w.heap.size := lt_of_block h
theorem Blk.cell {w : World} {b t : Nat} {cs : List Value} (h : Blk w b t cs) (i : Nat) (hi : i < cs.length) : w.cell? ⟨b, i, none⟩ = some cs[i] := by
 unfold Blk at h; simp [World.cell?, h, hi]
theorem Blk.free {w : World} {b t : Nat} {cs : List Value} (h : Blk w b t cs) (i : Nat) : w.frozen? ⟨b, i, none⟩ = false := by
 unfold Blk at h; simp [World.frozen?, h]
theorem Blk.set {w : World} {b t : Nat} {cs : List Value} (h : Blk w b t cs) (i : Nat) (v : Value) : Blk (w.setCell ⟨b, i, none⟩ v) b t (cs.set i v) := by
 unfold Blk at *
 simp only [World.setCell, Array.getElem?_modify, if_true, h]
 simp
theorem Blk.set_other {w : World} {b t : Nat} {cs : List Value} (h : Blk w b t cs) (a : Addr) (ha : b ≠ a.block) (v : Value) : Blk (w.setCell a v) b t cs := by
 unfold Blk at *; rw [Below.heap_setCell _ _ _ _ ha]; exact h
theorem Blk.alloc {w : World} {b t : Nat} {cs : List Value} (h : Blk w b t cs) (o : Obj) : Blk (w.alloc o) b t cs := by
 have := h.lt; unfold Blk at *; rw [Below.heap_alloc _ _ _ this]; exact h
theorem Blk.drew {w : World} {b t : Nat} {cs : List Value} (h : Blk w b t cs) : Blk w.drew b t cs := h
theorem Blk.drewN {w : World} {b t n : Nat} {cs : List Value} (h : Blk w b t cs) : Blk (w.drewN n) b t cs := h
theorem Blk.new (w : World) (t : Nat) (cs : List Value) : Blk (w.alloc (.cells cs.toArray t)) w.heap.size t cs := by
 unfold Blk; show (w.heap.push _)[_]? = _; simp
theorem Blk.but {w w' : World} {b c t : Nat} {cs : List Value} (h : Blk w b t cs) (k : But c w w') (hb : b ≠ c) : Blk w' b t cs := by
 have := h.lt; unfold Blk at *; rw [k.block _ this hb]; exact h
theorem Blk.below {w w' : World} {b t B : Nat} {cs : List Value} (h : Blk w b t cs) (k : Below B w w') (hb : b < B) : Blk w' b t cs := by
 unfold Blk at *; rw [k.block _ hb]; exact h
theorem Blk.fits {w w' : World} {b t : Nat} {cs : List Value} (h : Blk w b t cs) (k : Below w.heap.size w w') : Blk w' b t cs := h.below k h.lt
def RowS (w : World) (t : Nat) (v : Value) (n : Nat) (cs : List Value) : Prop :=
 (n = 0 ∧ cs = [] ∧ ∃ a cap, v = .slice a 0 cap) ∨
 ∃ c off cap blk f, v = .slice (some ⟨c, off, none⟩) n cap ∧ w.heap[c]? = some (.cells blk t f) ∧ ∀ j, j < cs.length → blk[off + j]? = cs[j]?
theorem RowS.nil (w : World) (t : Nat) (a : Option Addr) (cap : Nat) : RowS w t (.slice a 0 cap) 0 [] := .inl ⟨rfl, rfl, _, _, rfl⟩
theorem RowS.move {w w' : World} {t : Nat} {v : Value} {n : Nat} {cs : List Value} (h : RowS w t v n cs)
  (hk : ∀ (c : Nat) (blk : Array Value) (f : Nat × Nat), w.heap[c]? = some (.cells blk t f) → w'.heap[c]? = some (.cells blk t f)) : RowS w' t v n cs := by
 rcases h with h | ⟨c, off, cap, blk, f, hv, hb, hc⟩
 ·exact .inl h
 ·exact .inr ⟨c, off, cap, blk, f, hv, hk _ _ _ hb, hc⟩
theorem RowS.fits {w w' : World} {t : Nat} {v : Value} {n : Nat} {cs : List Value} (h : RowS w t v n cs) (k : Below w.heap.size w w') : RowS w' t v n cs :=
 h.move fun c blk f hb => by rw [k.block c (lt_of_block hb)]; exact hb
theorem RowS.but {w w' : World} {b t : Nat} {v : Value} {n : Nat} {cs : List Value} (h : RowS w t v n cs) (k : But b w w')
  (hb : ∀ (blk : Array Value) (f : Nat × Nat), w.heap[b]? ≠ some (.cells blk t f)) : RowS w' t v n cs :=
 h.move fun c blk f hc => by
  rw [k.block c (lt_of_block hc) (fun e => by subst e; exact hb _ _ hc)]; exact hc
theorem RowS.blk {w : World} {b t : Nat} {cs : List Value} (h : Blk w b t cs) (n cap : Nat) (cs' : List Value) (off : Nat) (hcs : ∀ j, j < cs'.length → cs[off + j]? = cs'[j]?) :
  RowS w t (.slice (some ⟨b, off, none⟩) n cap) n cs' :=
 .inr ⟨b, off, cap, cs.toArray, (0, 0), rfl, h, by simpa using hcs⟩
def Row (w : World) (_ : Nat) (v : Value) (n : Nat) (cs : List Value) : Prop :=
 (n = 0 ∧ cs = [] ∧ ∃ a cap, v = .slice a 0 cap) ∨
 ∃ c off cap, v = .slice (some ⟨c, off, none⟩) n cap ∧ ∀ j (hj : j < cs.length), w.cell? ⟨c, off + j, none⟩ = some cs[j]
theorem RowS.weak {w : World} {t : Nat} {v : Value} {n : Nat} {cs : List Value} (h : RowS w t v n cs) : Row w t v n cs := by
 rcases h with h | ⟨c, off, cap, blk, f, hv, hb, hc⟩
 ·exact .inl h
 ·refine .inr ⟨c, off, cap, hv, fun j hj => ?_⟩
  have := hc j hj
  simp [World.cell?, hb, this, hj]
theorem Row.nil (w : World) (t : Nat) (a : Option Addr) (cap : Nat) : Row w t (.slice a 0 cap) 0 [] := .inl ⟨rfl, rfl, _, _, rfl⟩
theorem Row.fits {w w' : World} {t : Nat} {v : Value} {n : Nat} {cs : List Value} (h : Row w t v n cs) (k : Below w.heap.size w w') : Row w' t v n cs := by
 rcases h with h | ⟨c, off, cap, hv, hc⟩
 ·exact .inl h
 ·exact .inr ⟨c, off, cap, hv, fun j hj => (k.cell (World.block_lt_of_cell? w _ (hc j hj))).trans (hc j hj)⟩
theorem Row.blk {w : World} {b t : Nat} {cs : List Value} (h : Blk w b t cs) (n cap : Nat) (cs' : List Value) (off : Nat) (hcs : ∀ j, j < cs'.length → cs[off + j]? = cs'[j]?) :
  Row w t (.slice (some ⟨b, off, none⟩) n cap) n cs' := (RowS.blk h n cap cs' off hcs).weak
def bcells (l : List UInt8) : List Value := l.map fun c => Value.int .u8 c.toNat
@[simp] theorem bcells_length (l : List UInt8) : (bcells l).length = l.length := by simp [bcells]
theorem bcells_append (a b : List UInt8) : bcells (a ++ b) = bcells a ++ bcells b := by simp [bcells]
theorem own_form {w : World} {base e size n : Nat} {v : Value} {xs : List Value} (h : w.ownsRow base e size v n xs) : ∃ a cap, v = .slice a n cap := by
 obtain ⟨_, h | ⟨g, cap, cur, hv, _⟩⟩ := h
 ·exact ⟨none, 0, by rw [h.1, h.2]⟩
 ·exact ⟨_, _, hv⟩
end Go.Proofs.YtmhepfehcakmjaaGreat
namespace Go.Proofs.YtmhepfehcakmjaaGreat
open Go.RowKit
structure Pg where
 lsn : Int
 kind : Int
 level : Int
 right : Int
 high : List UInt8
 items : List (List UInt8)
def sCells (l : List (List UInt8)) : List Value := l.map fun x => .string (str x)
@[simp] theorem sCells_length (l : List (List UInt8)) : (sCells l).length = l.length := by simp [sCells]
def pgCells (p : Pg) (iv : Value) : List Value := [.int .i64 p.lsn, .int .i64 p.kind, .int .i64 p.level, .int .i64 p.right, .string (str p.high), iv]
def pgV (p : Pg) (iv : Value) : Value := .agg #[.int .i64 p.lsn, .int .i64 p.kind, .int .i64 p.level, .int .i64 p.right, .string (str p.high), iv]
def ItemsS (w : World) (iv : Value) (l : List (List UInt8)) : Prop := RowS w 9 iv l.length (sCells l)
def Items (w : World) (iv : Value) (l : List (List UInt8)) : Prop := Row w 9 iv l.length (sCells l)
theorem ItemsS.weak {w : World} {iv : Value} {l : List (List UInt8)} (h : ItemsS w iv l) : Items w iv l := RowS.weak h
theorem items_form {w : World} {iv : Value} {l : List (List UInt8)} (h : Items w iv l) : ∃ a cap, iv = .slice a l.length cap := by
 rcases h with ⟨h1, _, a, cap, h2⟩ | ⟨c, off, cap, h1, _⟩
 ·exact ⟨a, cap, by rw [h2, h1]⟩
 ·exact ⟨_, _, h1⟩
theorem items_cells {w : World} {iv : Value} {l : List (List UInt8)} (h : Items w iv l) (hl : 0 < l.length) :
  ∃ c off cap, iv = .slice (some ⟨c, off, none⟩) l.length cap ∧ ∀ j (hj : j < l.length), w.cell? ⟨c, off + j, none⟩ = some (.string (str l[j])) := by
 rcases h with ⟨h1, _⟩ | ⟨c, off, cap, h1, h3⟩
 ·omega
 ·refine ⟨c, off, cap, h1, fun j hj => ?_⟩
  rw [h3 j (by simpa using hj)]
  simp [sCells]
theorem pgset {w : World} {b t : Nat} {a0 a1 a2 a3 a4 a5 : Value} (h : Blk w b t [a0, a1, a2, a3, a4, a5]) (v0 v1 v2 v3 v4 v5 : Value) :
  Blk ((((((w.setCell ⟨b, 0, none⟩ v0).setCell ⟨b, 1, none⟩ v1).setCell ⟨b, 2, none⟩ v2).setCell ⟨b, 3, none⟩ v3).setCell ⟨b, 4, none⟩ v4).setCell ⟨b, 5, none⟩ v5) b t [v0, v1, v2, v3, v4, v5] :=
 (((((h.set 0 v0).set 1 v1).set 2 v2).set 3 v3).set 4 v4).set 5 v5
theorem pgbut (w : World) (b : Nat) (v0 v1 v2 v3 v4 v5 : Value) :
  But b w ((((((w.setCell ⟨b, 0, none⟩ v0).setCell ⟨b, 1, none⟩ v1).setCell ⟨b, 2, none⟩ v2).setCell ⟨b, 3, none⟩ v3).setCell ⟨b, 4, none⟩ v4).setCell ⟨b, 5, none⟩ v5) :=
 ((((((But.refl b w).setCell 0 v0).setCell 1 v1).setCell 2 v2).setCell 3 v3).setCell 4 v4).setCell 5 v5
theorem items_but {w w' : World} {b : Nat} {iv : Value} {l : List (List UInt8)} {t : Nat} {cs : List Value} (h : ItemsS w iv l) (k : But b w w') (hb : Blk w b t cs) (ht : t ≠ 9) : ItemsS w' iv l :=
 RowS.but h k fun blk f e => by unfold Blk at hb; rw [hb] at e; simp at e; exact ht e.2.1
theorem pgres {w : World} {b t : Nat} {v0 v1 v2 v3 v4 v5 : Value} (h : Blk w b t [v0, v1, v2, v3, v4, v5]) :
  w.cell? ⟨b, 0, none⟩ = some v0 ∧ w.cell? ⟨b, 1, none⟩ = some v1 ∧ w.cell? ⟨b, 2, none⟩ = some v2 ∧ w.cell? ⟨b, 3, none⟩ = some v3 ∧ w.cell? ⟨b, 4, none⟩ = some v4 ∧ w.cell? ⟨b, 5, none⟩ = some v5 ∧
  w.frozen? ⟨b, 0, none⟩ = false ∧ w.frozen? ⟨b, 1, none⟩ = false ∧ w.frozen? ⟨b, 2, none⟩ = false ∧ w.frozen? ⟨b, 3, none⟩ = false ∧ w.frozen? ⟨b, 4, none⟩ = false ∧ w.frozen? ⟨b, 5, none⟩ = false :=
 ⟨h.cell 0 (by simp), h.cell 1 (by simp), h.cell 2 (by simp), h.cell 3 (by simp), h.cell 4 (by simp), h.cell 5 (by simp), h.free 0, h.free 1, h.free 2, h.free 3, h.free 4, h.free 5⟩
def iCells (l : List Int) : List Value := l.map (Value.int .i64)
@[simp] theorem iCells_length (l : List Int) : (iCells l).length = l.length := by simp [iCells]
def Ints (w : World) (v : Value) (l : List Int) : Prop := Row w 3 v l.length (iCells l)
theorem Ints.fits {w w' : World} {v : Value} {l : List Int} (h : Ints w v l) (k : Below w.heap.size w w') : Ints w' v l := Row.fits h k
theorem ints_form {w : World} {v : Value} {l : List Int} (h : Ints w v l) :
  ∃ a cap, v = .slice a l.length cap ∧ ∀ j, j < l.length → ∃ c off, a = some ⟨c, off, none⟩ ∧ w.cell? ⟨c, off + j, none⟩ = some (.int .i64 (l.getD j 0)) := by
 rcases h with ⟨h1, _, a, cap, h2⟩ | ⟨c, off, cap, h1, h3⟩
 ·exact ⟨a, cap, by rw [h2, h1], fun j hj => by omega⟩
 ·refine ⟨_, _, h1, fun j hj => ⟨c, off, rfl, ?_⟩⟩
  rw [h3 j (by simpa using hj)]
  simp [iCells, hj]
def IntsS (w : World) (v : Value) (l : List Int) : Prop := RowS w 3 v l.length (iCells l)
theorem IntsS.weak {w : World} {v : Value} {l : List Int} (h : IntsS w v l) : Ints w v l := RowS.weak h
end Go.Proofs.YtmhepfehcakmjaaGreat
namespace Go.Proofs.YtmhepfehcakmjaaGreat
open Go.RowKit
structure Fill (N t : Nat) (G : List Value → World → Prop) (u v : World) : Prop where
 below : Below N u v
 same : ∀ k, k < u.heap.size → (∀ cs, ¬ Blk u k t cs) → v.heap[k]? = u.heap[k]?
 page : ∀ k cs, Blk u k t cs → Blk v k t cs ∨ ∃ cs', cs'.length = cs.length ∧ G cs' v ∧ Blk v k t cs'
def Lasts (t : Nat) (G : List Value → World → Prop) : Prop :=
 ∀ (cs : List Value) (u v : World), (∀ (k : Nat) (blk : Array Value) (e : Nat) (f : Nat × Nat), e ≠ t → u.heap[k]? = some (.cells blk e f) → v.heap[k]? = some (.cells blk e f)) → G cs u → G cs v
theorem Fill.other {N t : Nat} {G : List Value → World → Prop} {u v : World} (h : Fill N t G u v) (k : Nat) (blk : Array Value) (e : Nat) (f : Nat × Nat) (he : e ≠ t) (hb : u.heap[k]? = some (.cells blk e f)) : v.heap[k]? = some (.cells blk e f) := by
 rw [h.same k (lt_of_block hb) (fun cs hk => by unfold Blk at hk; rw [hb] at hk; simp at hk; exact he hk.2.1)]
 exact hb
theorem Fill.of_grow {N t : Nat} {G : List Value → World → Prop} {u v : World} (h : Grow u v) (hN : N ≤ u.heap.size) : Fill N t G u v :=
 ⟨Below.mono h hN, fun k hk _ => h.block k hk, fun _ _ hb => .inl (hb.fits h)⟩
theorem Fill.trans {N t : Nat} {G : List Value → World → Prop} (hG : Lasts t G) {u v w : World} (h : Fill N t G u v) (k : Fill N t G v w) : Fill N t G u w := by
 refine ⟨h.below.trans k.below, fun i hi hn => ?_, fun i cs hb => ?_⟩
 ·have e := h.same i hi hn
  rw [k.same i (Nat.lt_of_lt_of_le hi h.below.size) (fun cs => by unfold Blk at *; rw [e]; exact hn cs), e]
 ·rcases h.page i cs hb with hv | ⟨cs', hl, hg, hv⟩
  ·exact k.page i cs hv
  ·rcases k.page i cs' hv with hw | ⟨cs'', hl', hg', hw⟩
   ·exact .inr ⟨cs', hl, hG _ _ _ (fun i blk e f he hb => k.other i blk e f he hb) hg, hw⟩
   ·exact .inr ⟨cs'', hl'.trans hl, hg', hw⟩
theorem Fill.refl {N t : Nat} {G : List Value → World → Prop} (u : World) : Fill N t G u u := ⟨Below.refl _ _, fun _ _ _ => rfl, fun _ _ h => .inl h⟩
theorem Fill.undrew {N t : Nat} {G : List Value → World → Prop} {u v : World} (h : Fill N t G u.drew v) : Fill N t G u v :=
 ⟨⟨h.below.os, h.below.tape, h.below.output, h.below.size, h.below.block⟩, h.same, h.page⟩
theorem Fill.row {N t e n : Nat} {G : List Value → World → Prop} {u w : World} {v : Value} {cs : List Value} (h : Fill N t G u w) (hr : RowS u e v n cs) (he : e ≠ t) : RowS w e v n cs :=
 hr.move fun c blk f hb => h.other c blk e f he hb
theorem Fill.some {N t b : Nat} {G : List Value → World → Prop} {cs : List Value} {u w : World} (h : Fill N t G u w) (hb : Blk u b t cs) : ∃ cs', cs'.length = cs.length ∧ Blk w b t cs' := by
 rcases h.page b cs hb with hw | ⟨cs', hl, _, hw⟩
 ·exact ⟨cs, rfl, hw⟩
 ·exact ⟨cs', hl, hw⟩
theorem Fill.but {N t b : Nat} {G : List Value → World → Prop} {cs cs' : List Value} {u w : World} (k : But b u w) (hN : N ≤ b) (hN' : N ≤ u.heap.size) (hb : Blk u b t cs) (hl : cs'.length = cs.length) (hw : Blk w b t cs') (hg : G cs' w) : Fill N t G u w := by
 refine ⟨⟨k.os, k.tape, k.output, k.size, fun i hi => k.block i (by omega) (by omega)⟩, fun i hi hn => k.block i hi (fun e => by subst e; exact hn _ hb), fun i ds hi => ?_⟩
 by_cases e : i = b
 ·subst e
  refine .inr ⟨cs', ?_, hg, hw⟩
  unfold Blk at hi hb
  rw [hi] at hb
  simp at hb
  rw [hl, ← hb]
 ·exact .inl (hi.but k e)
section
variable {P : Program} {ops : Array Oper} {a0 : Act} {w0 : World} {Ext : World → World → Prop} {F : List (Value → World → Prop) → Prop} {i : Nat} {o : Oper} {rest : List Oper} {Ts : List (Value → World → Prop)}
end
end Go.Proofs.YtmhepfehcakmjaaGreat
namespace Go.Proofs.YtmhepfehcakmjaaGreat
open Go.RowKit
structure UnderK (P : Program) (ops : Array Oper) (N : Nat) (a0 : Act) (w0 : World) (lk : Nat → Nat) (T : Nat → Value → World → Prop) (Ext : World → World → Prop) (L : Array Bool) (a : Act) (w : World) : Prop where
 lsize : L.size = ops.size
 size : a.tmps.size = a0.tmps.size
 defers : a.defers = a0.defers
 ext : Ext w0 w
 other : ∀ s, (∀ j, j < ops.size → L.getD j true = true → dstAt ops j ≠ some s) → a.tmps[s]? = a0.tmps[s]?
 vals : ∀ j, j < ops.size → L.getD j true = true → T j (valAt a (dstAt ops (lk j))) w
 down : ∀ j o, ops[j]? = some o → L.getD j true = true → ∀ k ∈ preds o, L.getD k false = true
 tail : ∀ j, N ≤ j → j < ops.size → L.getD j true = false
section
variable {P : Program} {ops : Array Oper} {N : Nat} {a0 : Act} {w0 : World} {lk : Nat → Nat} {T : Nat → Value → World → Prop} {Ext : World → World → Prop} {L : Array Bool} {a : Act} {w : World}
theorem UnderK.bare (h : UnderK P ops N a0 w0 lk T Ext L a w) : Under P ops N a0 w0 (fun _ _ _ => True) Ext L a w :=
 ⟨h.lsize, h.size, h.defers, h.ext, h.other, fun _ _ _ => trivial, h.down, h.tail⟩
theorem underK_step {i : Nat} {o : Oper} {v : Value} {w' : World} (hs : ∀ j s, dstAt ops j = some s → s < a0.tmps.size) (hd : ∀ j k s, j ≠ k → dstAt ops j = some s → dstAt ops k ≠ some s)
  (hst : ∀ j v w w', Ext w w' → T j v w → T j v w') (htr : ∀ u v w, Ext u v → Ext v w → Ext u w)
  (h : UnderK P ops N a0 w0 lk T Ext L a w) (ho : ops[i]? = some o) (hi : L.getD i true = false) (hp : ∀ k ∈ preds o, L.getD k false = true) (hN : i < N)
  (hx : Ext w w') (hlk : ∀ j o, ops[j]? = some o → lk j = j ∨ lk j ∈ preds o) (hv : T i (if lk i = i then dv o.dst v else valAt a (dstAt ops (lk i))) w') : UnderK P ops N a0 w0 lk T Ext (L.setIfInBounds i true) (a.put o.dst v) w' := by
 have hil : i < L.size := by
  rcases Nat.lt_or_ge i L.size with h' | h'
  ·exact h'
  ·rw [Array.getD_eq_getD_getElem?, Array.getElem?_eq_none h'] at hi; simp at hi
 have hdi : dstAt ops i = o.dst := by simp [dstAt, ho]
 have hset : ∀ j d, (L.setIfInBounds i true).getD j d = if j = i then true else L.getD j d := by
  intro j d
  simp only [Array.getD_eq_getD_getElem?]
  by_cases hj : j = i
  ·subst hj; simp [hil]
  ·rw [Array.getElem?_setIfInBounds_ne (fun e => hj e.symm), if_neg hj]
 refine ⟨by simp [h.lsize], by rw [put_size, h.size], by rw [put_defers', h.defers], htr _ _ _ h.ext hx, ?_, ?_, ?_, ?_⟩
 ·intro s hns
  rw [put_other _ _ _ _ (by have := hns i (h.lsize ▸ hil) (by rw [hset, if_pos rfl]); rwa [hdi] at this)]
  refine h.other s fun j hj hl => hns j hj ?_
  rw [hset]; split <;> simp [hl]
 ·intro j hj hl
  have hne : ∀ o', ops[j]? = some o' → lk j ∈ preds o' → (∀ k ∈ preds o', L.getD k false = true) → lk j ≠ i := by
   intro o' _ hm hall e
   have h1 := hall _ hm
   rw [e] at h1
   simp only [Array.getD, hil, dite_true] at h1 hi
   rw [h1] at hi
   cases hi
  by_cases hji : j = i
  ·subst hji
   rcases hlk j o ho with e | e
   ·rw [if_pos e] at hv
    rw [e, hdi, put_same _ _ _ (fun s hs' => by rw [h.size]; exact hs j s (hdi.trans hs'))]
    exact hv
   ·have hn := hne o ho e hp
    rw [if_neg hn] at hv
    rw [put_valAt _ _ _ _ (fun s hs' => hd j (lk j) s (fun e => hn e.symm) (hdi.trans hs'))]
    exact hv
  ·rw [hset, if_neg hji] at hl
   have hn : lk j ≠ i := by
    rcases hlk j ops[j] (by simp [hj]) with e | e
    ·rw [e]; exact hji
    ·exact hne _ (by simp [hj]) e (h.down j _ (by simp [hj]) hl)
   rw [put_valAt _ _ _ _ (fun s hs' => hd i (lk j) s (fun e => hn e.symm) (hdi.trans hs'))]
   exact hst _ _ _ _ hx (h.vals j hj hl)
 ·intro j o' ho' hl k hk
  rw [hset]
  split
  ·rfl
  ·by_cases hji : j = i
   ·subst hji
    rw [ho] at ho'
    cases ho'
    exact hp k hk
   ·rw [hset, if_neg hji] at hl
    exact h.down j o' ho' hl k hk
 ·intro j hNj hj
  rw [hset, if_neg (by omega)]
  exact h.tail j hNj hj
def stepAtK (P : Program) (ops : Array Oper) (a0 : Act) (w0 : World) (lk : Nat → Nat) (T : Nat → Value → World → Prop) (Ext : World → World → Prop) (i : Nat) (o : Oper) : Prop :=
 ∀ (xs : Nat → Value) (w : World), Ext w0 w → (∀ j ∈ preds o, T j (dv (dstAt ops (lk j)) (xs (lk j))) w) → ∀ K : Value → World → Prop, (∀ v w', T i (if lk i = i then dv o.dst v else dv (dstAt ops (lk i)) (xs (lk i))) w' → Ext w w' → K v w') → gives P ops o (frm ops i xs a0) w K
theorem wpOp_stepK {Q' : Exit → Act → World → Prop} {i : Nat} (hs : ∀ j s, dstAt ops j = some s → s < a0.tmps.size) (hd : ∀ j k s, j ≠ k → dstAt ops j = some s → dstAt ops k ≠ some s)
  (hst : ∀ j v w w', Ext w w' → T j v w → T j v w') (htr : ∀ u v w, Ext u v → Ext v w → Ext u w)
  (hlk : ∀ j o, ops[j]? = some o → lk j = j ∨ lk j ∈ preds o)
  (hall : ∀ i o, i < N → ops[i]? = some o → stepAtK P ops a0 w0 lk T Ext i o)
  (h : UnderK P ops N a0 w0 lk T Ext L a w) (hi : i ∈ Region.ready .any ops L) (hN : i < N) :
  wpOp P ops Q' i (fun a' w' => UnderK P ops N a0 w0 lk T Ext (L.setIfInBounds i true) a' w') a w := by
 obtain ⟨o, ho, hl, hp⟩ := ready_iff.1 hi
 unfold wpOp
 simp only [ho]
 have hg := hall i o hN ho (fun j => valAt a (dstAt ops j)) w h.ext (fun j hj => by
  have h1 := hp j hj
  have hjl : j < L.size := by
   rcases Nat.lt_or_ge j L.size with h' | h'
   ·exact h'
   ·rw [Array.getD_eq_getD_getElem?, Array.getElem?_eq_none h'] at h1; simp at h1
  rw [dv_valAt]
  refine h.vals j (h.lsize ▸ hjl) ?_
  simpa [Array.getD, hjl] using h1)
  (fun v w' => UnderK P ops N a0 w0 lk T Ext (L.setIfInBounds i true) (a.put o.dst v) w')
  (fun v w' hv hx => underK_step hs hd hst htr h ho hl hp hN hx hlk (by simpa only [dv_valAt] using hv))
 rw [frm_eq hs h.bare hl] at hg
 have := upon_of_gives (P := P) (Q' := Q') (K := fun a' w' => UnderK P ops N a0 w0 lk T Ext (L.setIfInBounds i true) a' w') hg
 split
 ·rename_i hw; rw [if_pos hw] at this; exact .inl this
 ·rename_i hw; rw [if_neg hw] at this; exact this
theorem wpAny_relK {Q : Exit → Act → World → Prop} (hs : ∀ j s, dstAt ops j = some s → s < a0.tmps.size) (hd : ∀ j k s, j ≠ k → dstAt ops j = some s → dstAt ops k ≠ some s)
  (hlt : ∀ j o, ops[j]? = some o → ∀ k ∈ preds o, k < j) (hN : N ≤ ops.size) (hcov : ∀ i, N ≤ i → i < ops.size → ∀ j, j < i → j ∈ covered ops i i)
  (hst : ∀ j v w w', Ext w w' → T j v w → T j v w') (htr : ∀ u v w, Ext u v → Ext v w → Ext u w)
  (hlk : ∀ j o, ops[j]? = some o → lk j = j ∨ lk j ∈ preds o)
  (hall : ∀ i o, i < N → ops[i]? = some o → stepAtK P ops a0 w0 lk T Ext i o)
  (hfin : ∀ (xs : Nat → Value) (w : World), Ext w0 w → (∀ j, j < N → T j (dv (dstAt ops (lk j)) (xs (lk j))) w) → wpList P ops Q (ops.toList.drop N) (frmTo ops N xs a0) w) :
  ∀ (fuel : Nat) (L : Array Bool) (a : Act) (w : World), UnderK P ops N a0 w0 lk T Ext L a w → unl ops L = fuel → wpAny P .any ops Q fuel L a w := by
 intro fuel
 induction fuel with
 | zero =>
  intro L a w h hu
  have hdone : ∀ k, k < ops.size → L.getD k true = true := by
   intro k hk
   unfold unl at hu
   rw [List.length_eq_zero_iff, List.filter_eq_nil_iff] at hu
   simpa using hu k (List.mem_range.2 hk)
  have hNs : N = ops.size := by
   rcases Nat.lt_or_ge N ops.size with h' | h'
   ·have h1 := h.tail N (Nat.le_refl _) h'
    rw [hdone N h'] at h1; cases h1
   ·omega
  refine wpAny_tail (N := N) hlt hcov 0 ops.size L a w rfl hN h.lsize (fun j hj d => ?_) ?_
  ·have h1 := hdone j hj
   have hj' : j < L.size := by rw [h.lsize]; exact hj
   simp only [Array.getD, hj', dite_true] at h1 ⊢
   rw [h1]; simp [hj]
  ·have := hfin (fun j => valAt a (dstAt ops j)) w h.ext (fun j hj => by rw [dv_valAt]; exact h.vals j (by omega) (hdone j (by omega)))
   rw [frmTo_eq hs h.bare] at this
   rwa [hNs] at this
 | succ fuel ih =>
  intro L a w h hu
  by_cases hdone : ∀ k, k < N → L.getD k true = true
  ·have hf : fuel + 1 = ops.size - N := by
    rw [← hu]; unfold unl
    have e : ((List.range ops.size).filter fun j => !L.getD j true) = (List.range ops.size).filter fun j => decide (N ≤ j) := by
     refine List.filter_congr fun j hj => ?_
     have hj := List.mem_range.1 hj
     rcases Nat.lt_or_ge j N with h' | h'
     ·rw [hdone j h']; simp; omega
     ·rw [h.tail j h' hj]; simp [h']
    rw [e]
    have e2 : ∀ n, ((List.range n).filter fun j => decide (N ≤ j)).length = n - N := by
     intro n
     induction n with
     | zero => simp
     | succ n ihn => rw [List.range_succ, List.filter_append, List.length_append, ihn, List.filter_cons]; split <;> simp at * <;> omega
    exact e2 _
   refine wpAny_tail (N := N) hlt hcov (fuel + 1) N L a w (by omega) (Nat.le_refl _) h.lsize (fun j hj d => ?_) ?_
   ·have hj' : j < L.size := by rw [h.lsize]; exact hj
    rcases Nat.lt_or_ge j N with h' | h'
    ·have h1 := hdone j h'
     simp only [Array.getD, hj', dite_true] at h1 ⊢
     rw [h1]; simp [h']
    ·have h1 := h.tail j h' hj
     simp only [Array.getD, hj', dite_true] at h1 ⊢
     rw [h1]; simp; omega
   ·have := hfin (fun j => valAt a (dstAt ops j)) w h.ext (fun j hj => by rw [dv_valAt]; exact h.vals j (by omega) (hdone j hj))
    rwa [frmTo_eq hs h.bare] at this
  ·have hsome : ∀ k, k < ops.size → L.getD k true = false → ∃ i, i ∈ Region.ready .any ops L := by
    intro k
    induction k using Nat.strongRecOn with
    | _ k ihk =>
     intro hk hl
     have hok : ops[k]? = some ops[k] := by simp [hk]
     by_cases hp : ∀ j ∈ preds ops[k], L.getD j false = true
     ·exact ⟨k, ready_iff.2 ⟨_, hok, hl, hp⟩⟩
     ·simp only [Classical.not_forall] at hp
      obtain ⟨j, hj, hjl⟩ := hp
      have hjk := hlt k _ hok j hj
      have hj' : j < L.size := by rw [h.lsize]; omega
      refine ihk j hjk (by omega) ?_
      simp only [Array.getD, hj', dite_true] at hjl ⊢
      simpa using hjl
   simp only [Classical.not_forall] at hdone
   obtain ⟨k, hkN, hkl⟩ := hdone
   have hkl' : L.getD k true = false := by simpa using hkl
   obtain ⟨i0, hi0⟩ := hsome k (by omega) hkl'
   refine ⟨fun h0 => (by rw [h0] at hi0; cases hi0), fun i hi => ?_⟩
   obtain ⟨o, ho, hl, hp⟩ := ready_iff.1 hi
   have hi' : i < ops.size := by
    rcases Nat.lt_or_ge i ops.size with h | h
    ·exact h
    ·simp [Array.getElem?_eq_none h] at ho
   have hiN : i < N := by
    rcases Nat.lt_or_ge i N with h' | h'
    ·exact h'
    ·exfalso
     have h3 := covered_listed ho hp h.down i k (hcov i h' hi' k (by omega))
     have hk' : k < L.size := by rw [h.lsize]; omega
     simp only [Array.getD, hk', dite_true] at h3 hkl'
     rw [h3] at hkl'; cases hkl'
   refine wpOp_mono (fun a' w' hh => ih _ a' w' hh ?_) (wpOp_stepK hs hd hst htr hlk hall h hi hiN)
   have := unl_set h.lsize hi' hl
   omega
theorem wp_region_relK {id : Nat} {Q : Exit → Act → World → Prop} (hm : P.follows .mixedOrders = true) (N : Nat) (T : Nat → Value → World → Prop) (Ext : World → World → Prop)
  (hsh : shaped ops a0.tmps.size N = true)
  (h0 : Ext { w0 with drawn := w0.drawn + 1 } { w0 with drawn := w0.drawn + 1 })
  (hst : ∀ j v w w', Ext w w' → T j v w → T j v w') (htr : ∀ u v w, Ext u v → Ext v w → Ext u w)
  (hlk : ∀ j o, ops[j]? = some o → lk j = j ∨ lk j ∈ preds o)
  (hall : allFrom (stepAtK P ops a0 { w0 with drawn := w0.drawn + 1 } lk T Ext) 0 (ops.toList.take N))
  (hfin : ∀ (xs : Nat → Value) (w : World), Ext { w0 with drawn := w0.drawn + 1 } w → (∀ j, j < N → T j (dv (dstAt ops (lk j)) (xs (lk j))) w) → wpList P ops Q (ops.toList.drop N) (frmTo ops N xs a0) w) :
  (Code.region id ops true).wp P Q a0 w0 := by
 unfold shaped at hsh
 simp only [Bool.and_eq_true, List.all_eq_true, decide_eq_true_eq, List.mem_range] at hsh
 obtain ⟨⟨⟨⟨h1, h2⟩, h3⟩, h4⟩, h5⟩ := hsh
 refine wp_region_any hm ?_
 have hs : ∀ j s, dstAt ops j = some s → s < a0.tmps.size := by
  intro j s hjs
  unfold dstAt at hjs
  cases ho : ops[j]? with
  | none => rw [ho] at hjs; simp at hjs
  | some o =>
   rw [ho] at hjs
   have := h3 o (Array.mem_toList_iff.2 (Array.mem_of_getElem? ho))
   have hd : o.dst = some s := by simpa using hjs
   rw [hd] at this
   simpa using this
 have hd : ∀ j k s, j ≠ k → dstAt ops j = some s → dstAt ops k ≠ some s := by
  have conv : ∀ j s, dstAt ops j = some s ↔ (ops.toList.map (·.dst))[j]? = some (some s) := by
   intro j s
   unfold dstAt
   rw [List.getElem?_map, Array.getElem?_toList]
   cases ops[j]? <;> simp
  intro j k s hjk hj hk
  exact distinct_spec _ h2 j k s hjk ((conv j s).1 hj) ((conv k s).1 hk)
 refine wpAny_relK hs hd ?_ h4 ?_ hst htr hlk (fun i o hi ho => allFrom_of hall hi ho) hfin ops.size _ a0 _ ?_ ?_
 ·intro j o ho k hk
  have hmem : (o, j) ∈ ops.toList.zipIdx := List.mem_zipIdx_iff_getElem?.2 (by simpa using ho)
  exact h1 _ hmem k hk
 ·intro i hNi hi j hj
  have := h5 (i - N) (by omega) j (by omega)
  rw [show N + (i - N) = i from by omega] at this
  simpa using this
 ·have hrep : ∀ j, j < ops.size → (Array.replicate ops.size false).getD j true = false := by intro j hj; simp [Array.getD, hj]
  refine ⟨by simp, rfl, rfl, h0, fun _ _ => rfl, fun j hj hl => ?_, fun j o ho hl => ?_, fun j _ hj => hrep j hj⟩
  ·rw [hrep j hj] at hl; cases hl
  ·have hj : j < ops.size := by
    rcases Nat.lt_or_ge j ops.size with h | h
    ·exact h
    ·simp [Array.getElem?_eq_none h] at ho
   rw [hrep j hj] at hl; cases hl
 ·unfold unl
  rw [List.filter_eq_self.2 (fun j hj => by simp [Array.getD, List.mem_range.1 hj]), List.length_range]
end
def holdsK (lk : Nat → Nat) (Ts : List (Value → World → Prop)) (xs : Nat → Value) (w : World) : List (Nat × Bool) → Prop
 | [] => True
 | (j, b) :: l => (Ts.getD j fun _ _ => True) (if b then xs (lk j) else undef) w ∧ holdsK lk Ts xs w l
def lexAllK (P : Program) (ops : Array Oper) (a0 : Act) (w0 : World) (lk : Nat → Nat) (Ext : World → World → Prop) (F : List (Value → World → Prop) → Prop) : Nat → List Oper → List (Value → World → Prop) → Prop
 | _, [], Ts => F Ts
 | i, o :: rest, Ts => ∃ T : Value → World → Prop, (∀ v w w', Ext w w' → T v w → T v w') ∧
   (∃ (ps : List (Nat × Bool)) (l : List (Tmp × Nat)), (ps.all fun x => (preds o).contains x.1 && (dstAt ops (lk x.1)).isSome == x.2 && decide (x.1 < i)) = true ∧ places ops i = l ∧
    ∀ (xs : Nat → Value) (w : World), Ext w0 w → holdsK lk Ts xs w ps → ∀ K : Value → World → Prop, (∀ v w', T (if lk i = i then dv o.dst v else dv (dstAt ops (lk i)) (xs (lk i))) w' → Ext w w' → K v w') → gives P ops o (putAll xs l a0) w K) ∧
   lexAllK P ops a0 w0 lk Ext F (i + 1) rest (Ts ++ [T])
theorem holdsK_of {lk : Nat → Nat} {Ts : List (Value → World → Prop)} {ops : Array Oper} {xs : Nat → Value} {w : World} {p : Nat → Prop}
  (h : ∀ j, p j → (Ts.getD j fun _ _ => True) (dv (dstAt ops (lk j)) (xs (lk j))) w) : ∀ (ps : List (Nat × Bool)), (∀ x ∈ ps, p x.1 ∧ (dstAt ops (lk x.1)).isSome = x.2) → holdsK lk Ts xs w ps
 | [], _ => trivial
 | (j, b) :: l, hp => by
  obtain ⟨h1, h5⟩ := hp (j, b) (by simp)
  refine ⟨?_, holdsK_of h l (fun x hx => hp x (by simp [hx]))⟩
  have h4 := h j h1
  simp only at h5
  have h6 : dv (dstAt ops (lk j)) (xs (lk j)) = if b then xs (lk j) else undef := by
   cases hd : dstAt ops (lk j) with
   | none => rw [hd] at h5; subst h5; rfl
   | some d => rw [hd] at h5; subst h5; rfl
  rw [h6] at h4
  exact h4
theorem lexAllK_spec {P : Program} {ops : Array Oper} {a0 : Act} {w0 : World} {lk : Nat → Nat} {Ext : World → World → Prop} {F : List (Value → World → Prop) → Prop} :
  ∀ (rest : List Oper) (i : Nat) (Ts : List (Value → World → Prop)), Ts.length = i → lexAllK P ops a0 w0 lk Ext F i rest Ts →
   ∃ Tn, F (Ts ++ Tn) ∧ Tn.length = rest.length ∧ (∀ T ∈ Tn, ∀ v w w', Ext w w' → T v w → T v w') ∧ allFrom (stepAtK P ops a0 w0 lk (fun j => (Ts ++ Tn).getD j fun _ _ => True) Ext) i rest
 | [], i, Ts, _, h => ⟨[], by simpa [lexAllK] using h, rfl, by simp, trivial⟩
 | o :: rest, i, Ts, hl, h => by
  obtain ⟨T, hst, ⟨ps, l, h1, h2, h4⟩, h5⟩ := h
  obtain ⟨Tn, hF, hlen, hstn, hall⟩ := lexAllK_spec rest (i + 1) (Ts ++ [T]) (by simp [hl]) h5
  refine ⟨T :: Tn, by simpa using hF, by simp [hlen], ?_, ?_, ?_⟩
  ·intro T' hT'
   rcases List.mem_cons.1 hT' with rfl | hT'
   ·exact hst
   ·exact hstn T' hT'
  ·intro xs w hw hp K hK
   rw [frm_places, h2]
   refine h4 xs w hw (holdsK_of (ops := ops) (p := fun j => j ∈ preds o ∧ j < i) (fun j hj => ?_) ps ?_) K fun v w' hv hx => hK v w' ?_ hx
   ·have := hp j hj.1
    simp only [List.getD_eq_getElem?_getD] at this ⊢
    rw [List.getElem?_append_left (by omega)] at this
    exact this
   ·intro x hx
    have := List.all_eq_true.1 h1 x hx
    simp only [Bool.and_eq_true, decide_eq_true_eq] at this
    exact ⟨⟨by simpa using this.1.1, this.2⟩, by simpa using this.1.2⟩
   ·have e : ((Ts ++ T :: Tn).getD i fun _ _ => True) = T := by
     rw [List.getD_eq_getElem?_getD, List.getElem?_append_right (by omega), hl, Nat.sub_self]; rfl
    show ((Ts ++ T :: Tn).getD i fun _ _ => True) _ _
    rw [e]
    exact hv
  ·simpa using hall
theorem wp_region_link {P : Program} {ops : Array Oper} {a0 : Act} {w0 : World} {id : Nat} {Q : Exit → Act → World → Prop} (hm : P.follows .mixedOrders = true) (N : Nat) (lk : Nat → Nat) (Ext : World → World → Prop)
  (h0 : Ext w0.drew w0.drew) (htr : ∀ u v w, Ext u v → Ext v w → Ext u w)
  (hsh : shaped ops a0.tmps.size N = true) (hlk : (ops.toList.zipIdx.all fun x => lk x.2 == x.2 || (preds x.1).contains (lk x.2)) = true)
  (l : List (Tmp × Nat)) (hl : placesTo ops N = l) (al : List (Nat × Bool)) (hal : (al.all fun x => decide (x.1 < N) && (dstAt ops (lk x.1)).isSome == x.2) = true) {first last : List Oper} (hf : ops.toList.take N = first) (ht : ops.toList.drop N = last)
  (h : lexAllK P ops a0 w0.drew lk Ext (fun Ts => ∀ (xs : Nat → Value) (w : World), Ext w0.drew w → holdsK lk Ts xs w al → wpList P ops Q last (putAll xs l a0) w) 0 first []) :
  (Code.region id ops true).wp P Q a0 w0 := by
 obtain ⟨Tn, hF, hlen, hst, hall⟩ := lexAllK_spec _ 0 [] rfl h
 rw [List.nil_append] at hF hall
 refine wp_region_relK hm N (lk := lk) (fun j => Tn.getD j fun _ _ => True) Ext hsh h0 ?_ htr ?_ ?_ ?_
 ·intro j v w w' hx hv
  rcases Nat.lt_or_ge j Tn.length with hj | hj
  ·simp only [List.getD_eq_getElem?_getD, List.getElem?_eq_getElem hj, Option.getD_some] at hv ⊢
   exact hst _ (List.getElem_mem hj) v w w' hx hv
  ·simp only [List.getD_eq_getElem?_getD, List.getElem?_eq_none hj, Option.getD_none]
 ·intro j o ho
  have := List.all_eq_true.1 hlk (o, j) (List.mem_zipIdx_iff_getElem?.2 (by simpa using ho))
  simpa using this
 ·rw [hf]; exact hall
 ·intro xs w hx hv
  rw [ht, frmTo_places, hl]
  refine hF xs w hx (holdsK_of (ops := ops) (p := fun j => j < N) hv al ?_)
  intro x hx
  have := List.all_eq_true.1 hal x hx
  simp only [Bool.and_eq_true, decide_eq_true_eq] at this
  exact ⟨this.1, by simpa using this.2⟩
section
variable {P : Program} {ops : Array Oper} {a0 : Act} {w0 : World} {lk : Nat → Nat} {Ext : World → World → Prop} {F : List (Value → World → Prop) → Prop} {i : Nat} {o : Oper} {rest : List Oper} {Ts : List (Value → World → Prop)}
theorem lexk_eq (ps : List (Nat × Bool)) (l : List (Tmp × Nat)) (h1 : (ps.all fun x => (preds o).contains x.1 && (dstAt ops (lk x.1)).isSome == x.2 && decide (x.1 < i)) = true) (h2 : places ops i = l) (h3 : o.dst.isSome = true) (h4 : lk i = i) {c : Value}
  (hstep : ∀ (xs : Nat → Value) (w : World), Ext w0 w → holdsK lk Ts xs w ps → ∀ K : Value → World → Prop, (∀ w', Ext w w' → K c w') → gives P ops o (putAll xs l a0) w K)
  (hrest : lexAllK P ops a0 w0 lk Ext F (i + 1) rest (Ts ++ [fun v _ => v = c])) : lexAllK P ops a0 w0 lk Ext F i (o :: rest) Ts :=
 ⟨fun v _ => v = c, fun _ _ _ _ h => h, ⟨ps, l, h1, h2, fun xs w hw hp K hK => hstep xs w hw hp K fun w' hx => hK c w' (by
  rw [if_pos h4]
  cases hd : o.dst with
  | none => rw [hd] at h3; cases h3
  | some d => rfl) hx⟩, hrest⟩
theorem lexk_says (T : Value → World → Prop) (hT : ∀ v w w', Ext w w' → T v w → T v w') (ps : List (Nat × Bool)) (l : List (Tmp × Nat)) (h1 : (ps.all fun x => (preds o).contains x.1 && (dstAt ops (lk x.1)).isSome == x.2 && decide (x.1 < i)) = true)
  (h2 : places ops i = l) (h3 : o.dst.isSome = true) (h4 : lk i = i)
  (hstep : ∀ (xs : Nat → Value) (w : World), Ext w0 w → holdsK lk Ts xs w ps → ∀ K : Value → World → Prop, (∀ v w', T v w' → Ext w w' → K v w') → gives P ops o (putAll xs l a0) w K)
  (hrest : lexAllK P ops a0 w0 lk Ext F (i + 1) rest (Ts ++ [T])) : lexAllK P ops a0 w0 lk Ext F i (o :: rest) Ts :=
 ⟨T, hT, ⟨ps, l, h1, h2, fun xs w hw hp K hK => hstep xs w hw hp K fun v w' hv hx => hK v w' (by
  rw [if_pos h4]
  cases hd : o.dst with
  | none => rw [hd] at h3; cases h3
  | some d => exact hv) hx⟩, hrest⟩
theorem lexk_link (T : Value → World → Prop) (hT : ∀ v w w', Ext w w' → T v w → T v w') (ps : List (Nat × Bool)) (l : List (Tmp × Nat)) (h1 : (ps.all fun x => (preds o).contains x.1 && (dstAt ops (lk x.1)).isSome == x.2 && decide (x.1 < i)) = true)
  (h2 : places ops i = l) (h3 : (dstAt ops (lk i)).isSome = true) (h4 : lk i ≠ i)
  (hstep : ∀ (xs : Nat → Value) (w : World), Ext w0 w → holdsK lk Ts xs w ps → ∀ K : Value → World → Prop, (∀ v w', T (xs (lk i)) w' → Ext w w' → K v w') → gives P ops o (putAll xs l a0) w K)
  (hrest : lexAllK P ops a0 w0 lk Ext F (i + 1) rest (Ts ++ [T])) : lexAllK P ops a0 w0 lk Ext F i (o :: rest) Ts :=
 ⟨T, hT, ⟨ps, l, h1, h2, fun xs w hw hp K hK => hstep xs w hw hp K fun v w' hv hx => hK v w' (by
  rw [if_neg h4]
  cases hd : dstAt ops (lk i) with
  | none => rw [hd] at h3; cases h3
  | some d => exact hv) hx⟩, hrest⟩
end
end Go.Proofs.YtmhepfehcakmjaaGreat
