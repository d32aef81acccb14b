/- Pages as values, and rows of bytes. -/
import Derived.Test.YtklpbhajmnogeaaClog1
import Derived.Test.YtklpbhajmnogeaaBits1
import Derived.Test.YtklpbhajmnogeaaBits4
import Derived.Test.YtklpbhajmnogeaaRel
namespace Go.Proofs.Ytklpbhajmnogeaa
open Go.RowKit

/-- A page, but for where its items lie. -/
structure Pg where
  lsn : Int
  kind : Int
  level : Int
  right : Int
  high : List UInt8
  items : List (List UInt8)

def sCells (l : List (List UInt8)) : List Value := l.map fun x => .string (str x)
@[simp] theorem sCells_length (l : List (List UInt8)) : (sCells l).length = l.length := by simp [sCells]
def pgCells (p : Pg) (iv : Value) : List Value := [.int .i64 p.lsn, .int .i64 p.kind, .int .i64 p.level, .int .i64 p.right, .string (str p.high), iv]
def pgV (p : Pg) (iv : Value) : Value := .agg #[.int .i64 p.lsn, .int .i64 p.kind, .int .i64 p.level, .int .i64 p.right, .string (str p.high), iv]
/-- The items of a page, in a world, in a block of strings. -/
def ItemsS (w : World) (iv : Value) (l : List (List UInt8)) : Prop := RowS w 9 iv l.length (sCells l)
/-- The items of a page, in a world, wherever they lie. -/
def Items (w : World) (iv : Value) (l : List (List UInt8)) : Prop := Row w 9 iv l.length (sCells l)

/-- A row of bytes of a block's own, that may be written. -/
def BRow (w : World) (base : Nat) (v : Value) (l : List UInt8) : Prop :=
  ∃ g cap C f, v = .slice (some ⟨g, 0, none⟩) l.length cap ∧ base ≤ g ∧ w.heap[g]? = some (.cells C 5 f) ∧ (∀ j, j < l.length → C[j]? = some (.int .u8 (l.getD j 0).toNat)) ∧ l.length ≤ C.size ∧ (C.size ≤ f.1 ∨ f = (0, 0))

theorem BRow.fits {w w' : World} {base : Nat} {v : Value} {l : List UInt8} (h : BRow w base v l) (k : Below w.heap.size w w') : BRow w' base v l := by
  obtain ⟨g, cap, C, f, h1, h2, h3, h4⟩ := h
  exact ⟨g, cap, C, f, h1, h2, by rw [k.block g (lt_of_block h3)]; exact h3, h4⟩

theorem brow_cell {w : World} {g : Nat} {C : Array Value} {f : Nat × Nat} {l : List UInt8} (h3 : w.heap[g]? = some (.cells C 5 f)) (h4 : ∀ j, j < l.length → C[j]? = some (.int .u8 (l.getD j 0).toNat)) (j : Nat) (hj : j < l.length) :
    w.cell? ⟨g, j, none⟩ = some (.int .u8 (l.getD j 0).toNat) := by
  simp [World.cell?, h3, h4 j hj]
theorem brow_free {w : World} {g : Nat} {C : Array Value} {f : Nat × Nat} {l : List UInt8} (h3 : w.heap[g]? = some (.cells C 5 f)) (h5 : l.length ≤ C.size) (h6 : C.size ≤ f.1 ∨ f = (0, 0)) (j : Nat) (hj : j < l.length) :
    w.frozen? ⟨g, j, none⟩ = false := by
  obtain ⟨lo, hi⟩ := f
  simp only [World.frozen?, h3]
  rcases h6 with h | h
  · simp at h ⊢; omega
  · simp at h; obtain ⟨rfl, rfl⟩ := h; simp

theorem BRow.converts {w : World} {base : Nat} {v : Value} {l : List UInt8} (h : BRow w base v l) : (convert 72 9 v).run Try.prog w = .ok (.string (str l)) w := by
  obtain ⟨g, cap, C, f, rfl, h2, h3, h4, _⟩ := h
  rw [← strOfNums_bytes]
  refine run_convert_bytes_arg w 72 5 Try.underlying72 Try.underlying5 g 0 l.length cap _ (by simp) ?_ 9 Try.underlying9
  intro i hi
  rw [Nat.zero_add, brow_cell h3 h4 i hi]
  simp [hi]

theorem bytesRow_get (s : ByteArray) (cap j : Nat) (hj : j < s.size) : (bytesRow s cap)[j]? = some (.int .u8 (s.data.toList.getD j 0).toNat) := by
  have hj' : j < s.data.size := hj
  unfold bytesRow
  rw [Array.getElem?_append_left (by simpa using hj')]
  rw [Array.getElem?_map, Array.getElem?_eq_getElem hj']
  simp [Array.getElem?_eq_getElem hj']
theorem bytesRow_size (s : ByteArray) (cap : Nat) : s.size ≤ (bytesRow s cap).size := by
  unfold bytesRow
  have : s.size = s.data.size := rfl
  rw [Array.size_append, Array.size_map]; omega

theorem convert_str (w : World) (s : ByteArray) : ∃ v w', (convert 9 72 (.string s)).run Try.prog w = .ok v w' ∧ BRow w' w.heap.size v s.data.toList ∧ Below w.heap.size w w' ∧ (∃ a cap, v = .slice a s.size cap) := by
  have h := run_bytes_of_string (P := Try.prog) w 9 72 5 s Try.underlying9 Try.underlying72 Try.underlying5
  have hs : s.data.toList.length = s.size := by simp
  refine ⟨_, _, h, ⟨w.heap.size, grownCap w s.size 0 5, bytesRow s (grownCap w s.size 0 5), ((bytesRow s (grownCap w s.size 0 5)).size, (bytesRow s (grownCap w s.size 0 5)).size + 1), by rw [hs], Nat.le_refl _, by show (w.heap.push _)[_]? = _; simp, ?_, ?_, .inl (Nat.le_refl _)⟩, ?_, ⟨_, _, rfl⟩⟩
  · intro j hj
    exact bytesRow_get s _ j (by simpa using hj)
  · rw [hs]; exact bytesRow_size s _
  · exact Below.alloc (w := w.drew) (Below.refl _ _).drew (Nat.le_refl _) _

theorem ItemsS.weak {w : World} {iv : Value} {l : List (List UInt8)} (h : ItemsS w iv l) : Items w iv l := RowS.weak h
theorem items_form {w : World} {iv : Value} {l : List (List UInt8)} (h : Items w iv l) : ∃ a cap, iv = .slice a l.length cap := by
  rcases h with ⟨h1, _, a, cap, h2⟩ | ⟨c, off, cap, h1, _⟩
  · exact ⟨a, cap, by rw [h2, h1]⟩
  · exact ⟨_, _, h1⟩
theorem items_cells {w : World} {iv : Value} {l : List (List UInt8)} (h : Items w iv l) (hl : 0 < l.length) :
    ∃ c off cap, iv = .slice (some ⟨c, off, none⟩) l.length cap ∧ ∀ j (hj : j < l.length), w.cell? ⟨c, off + j, none⟩ = some (.string (str l[j])) := by
  rcases h with ⟨h1, _⟩ | ⟨c, off, cap, h1, h3⟩
  · omega
  · refine ⟨c, off, cap, h1, fun j hj => ?_⟩
    rw [h3 j (by simpa using hj)]
    simp [sCells]

end Go.Proofs.Ytklpbhajmnogeaa
