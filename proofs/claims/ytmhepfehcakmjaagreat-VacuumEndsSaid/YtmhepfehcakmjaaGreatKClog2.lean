import Derived.Test.YtmhepfehcakmjaaGreatKClog1
import Derived.Test.YtmhepfehcakmjaaGreatKBits6
import Derived.Test.YtmhepfehcakmjaaGreatKBits5
import Derived.Test.YtmhepfehcakmjaaGreatKLexm
import Derived.Test.YtmhepfehcakmjaaGreatKRelk
import Derived.Deep.QuietTactic
import Derived.BigQuiet
namespace Go.Proofs.YtmhepfehcakmjaaGreat
open Go.RowKit
def BRow (w : World) (base : Nat) (v : Value) (l : List UInt8) : Prop :=
 ∃ g cap C f, v = .slice (some ⟨g, 0, none⟩) l.length cap ∧ base ≤ g ∧ w.heap[g]? = some (.cells C 5 f) ∧ (∀ j, j < l.length → C[j]? = some (.int .u8 (l.getD j 0).toNat)) ∧ l.length ≤ C.size ∧ (C.size ≤ f.1 ∨ f = (0, 0))
theorem BRow.fits {w w' : World} {base : Nat} {v : Value} {l : List UInt8} (h : BRow w base v l) (k : Below w.heap.size w w') : BRow w' base v l := by
 obtain ⟨g, cap, C, f, h1, h2, h3, h4⟩ := h
 exact ⟨g, cap, C, f, h1, h2, by rw [k.block g (lt_of_block h3)]; exact h3, h4⟩
theorem brow_cell {w : World} {g : Nat} {C : Array Value} {f : Nat × Nat} {l : List UInt8} (h3 : w.heap[g]? = some (.cells C 5 f)) (h4 : ∀ j, j < l.length → C[j]? = some (.int .u8 (l.getD j 0).toNat)) (j : Nat) (hj : j < l.length) :
  w.cell? ⟨g, j, none⟩ = some (.int .u8 (l.getD j 0).toNat) := by
 simp [World.cell?, h3, h4 j hj]
theorem brow_free {w : World} {g : Nat} {C : Array Value} {f : Nat × Nat} {l : List UInt8} (h3 : w.heap[g]? = some (.cells C 5 f)) (h5 : l.length ≤ C.size) (h6 : C.size ≤ f.1 ∨ f = (0, 0)) (j : Nat) (hj : j < l.length) :
  w.frozen? ⟨g, j, none⟩ = false := by
 obtain ⟨lo, hi⟩ := f
 simp only [World.frozen?, h3]
 rcases h6 with h | h
 ·simp at h ⊢; omega
 ·simp at h; obtain ⟨rfl, rfl⟩ := h; simp
theorem BRow.converts {w : World} {base : Nat} {v : Value} {l : List UInt8} (h : BRow w base v l) : (convert 122 9 v).run Tryz.prog w = .ok (.string (str l)) w := by
 obtain ⟨g, cap, C, f, rfl, h2, h3, h4, _⟩ := h
 rw [← strOfNums_bytes]
 refine run_convert_bytes_arg w 122 5 Tryz.underlying122 Tryz.underlying5 g 0 l.length cap _ (by simp) ?_ 9 Tryz.underlying9
 intro i hi
 rw [Nat.zero_add, brow_cell h3 h4 i hi]
 simp [hi]
theorem bytesRow_get (s : ByteArray) (cap j : Nat) (hj : j < s.size) : (bytesRow s cap)[j]? = some (.int .u8 (s.data.toList.getD j 0).toNat) := by
 have hj' : j < s.data.size := hj
 unfold bytesRow
 rw [Array.getElem?_append_left (by simpa using hj')]
 rw [Array.getElem?_map, Array.getElem?_eq_getElem hj']
 simp [Array.getElem?_eq_getElem hj']
theorem bytesRow_size (s : ByteArray) (cap : Nat) : s.size ≤ (bytesRow s cap).size := by
 unfold bytesRow
 have : s.size = s.data.size := rfl
 rw [Array.size_append, Array.size_map]; omega
theorem convert_str (w : World) (s : ByteArray) : ∃ v w', (convert 9 122 (.string s)).run Tryz.prog w = .ok v w' ∧ BRow w' w.heap.size v s.data.toList ∧ Below w.heap.size w w' ∧ (∃ a cap, v = .slice a s.size cap) := by
 have h := run_bytes_of_string (P := Tryz.prog) w 9 122 5 s Tryz.underlying9 Tryz.underlying122 Tryz.underlying5
 have hs : s.data.toList.length = s.size := by simp
 refine ⟨_, _, h, ⟨w.heap.size, grownCap w s.size 0 5, bytesRow s (grownCap w s.size 0 5), ((bytesRow s (grownCap w s.size 0 5)).size, (bytesRow s (grownCap w s.size 0 5)).size + 1), by rw [hs], Nat.le_refl _, by show (w.heap.push _)[_]? = _; simp, ?_, ?_, .inl (Nat.le_refl _)⟩, ?_, ⟨_, _, rfl⟩⟩
 ·intro j hj
  exact bytesRow_get s _ j (by simpa using hj)
 ·rw [hs]; exact bytesRow_size s _
 ·exact Below.alloc (w := w.drew) (Below.refl _ _).drew (Nat.le_refl _) _
end Go.Proofs.YtmhepfehcakmjaaGreat
namespace Go.Proofs.YtmhepfehcakmjaaGreat
open Go.RowKit
def openNum (m : Int) (p : Pg) : Int × List UInt8 × Int := rdNumS m (p.items.getD 0 [])
def openHead (m : Int) (p : Pg) : Bool :=
 decide (p.kind = 1) && decide (0 ≤ p.lsn) && decide (p.level = 0) && decide (p.right = 0) && p.high.isEmpty && decide (p.items.length = 2) && decide (((p.items.getD 1 []).length : Int) = (m + 3) / 4)
def openBody (m : Int) (p : Pg) : Bool :=
 decide ((openNum m p).2.2 = 0) && decide ((openNum m p).2.1 = []) && decide ((openNum m p).1 ≠ 0) && (decide (m % 4 = 0) || decide ((((p.items.getD 1 []).getLast?.getD 0).toNat : Int) / 2 ^ (2 * (m % 4)).toNat = 0))
def openE (m : Int) (p : Pg) : Int := if modB m then if openHead m p && openBody m p then 0 else 31 else 1
def CopenPost (m : Int) (p : Pg) (w : World) (e : Ending) (w' : World) : Prop :=
 ∃ bv, e = .returned (.tuple #[.int .i64 (if openE m p = 0 then (openNum m p).1 else 0), bv, .int .i64 (openE m p)]) ∧ Below w.heap.size w w' ∧ (openE m p = 0 → BRow w' w.heap.size bv (p.items.getD 1 [])) ∧ (∃ a n c, bv = .slice a n c)
set_option maxHeartbeats 400000 in
theorem open_mod (m : Int) (p : Pg) (iv : Value) (w : World) (h : modB m = false) : Calls Tryz.prog 65 #[.int .i64 m, pgV p iv] w (CopenPost m p w) := by
 have hE : openE m p = 1 := by unfold openE; rw [h]; rfl
 have HE := keep hE
 clear hE
 unfold pgV
 go_enter Tryz.func65, Tryz.ntmps65
 go_wp2_with fail
 refine (isModulus_any _ _).mono ?_
 rintro e w' ⟨rfl, hb⟩
 go_wp2_with fail
 go_ret3
 refine ⟨.slice none 0 0, ?_, ?_, ?_, ⟨_, _, _, rfl⟩⟩
 ·rw [HE.out]; rfl
 ·exact ((Below.refl _ _).alloc (Nat.le_refl _) _).trans (hb.mono (by simp))
 ·rw [HE.out]; intro h'; cases h'
set_option maxRecDepth 100000 in
set_option maxHeartbeats 1000000 in
theorem open_head (m : Int) (p : Pg) (iv : Value) (w : World) (hi : Items w iv p.items) (h : modB m = true) (hh : openHead m p = false) : Calls Tryz.prog 65 #[.int .i64 m, pgV p iv] w (CopenPost m p w) := by
 have hE : openE m p = 31 := by unfold openE; rw [h, hh]; rfl
 have HE := keep hE
 have HH := keep hh
 clear hE hh
 obtain ⟨hm1, hm2, _⟩ := modB_bd h
 unfold pgV
 go_enter Tryz.func65, Tryz.ntmps65
 go_wp2_with fail
 refine (isModulus_any _ _).mono ?_
 rintro e w1 ⟨rfl, hb⟩
 have hB1 := (Blk.new w 24 (pgCells p iv)).fits hb
 have hb1 : Below w.heap.size w w1 := ((Below.refl _ _).alloc (Nat.le_refl _) _).trans (hb.mono (by simp))
 have hi1 : Items w1 iv p.items := Row.fits hi hb1
 clear hb hi
 unfold pgCells at hB1
 have c0 := hB1.cell 0 (by simp)
 have c1 := hB1.cell 1 (by simp)
 have c2 := hB1.cell 2 (by simp)
 have c3 := hB1.cell 3 (by simp)
 have c4 := hB1.cell 4 (by simp)
 have c5 := hB1.cell 5 (by simp)
 simp only [List.getElem_cons_zero, List.getElem_cons_succ] at c0 c1 c2 c3 c4 c5
 obtain ⟨iva, ivc, rfl⟩ := items_form hi1
 go_wp2_with fail
 by_cases h1 : p.kind = 1
 rotate_left
 ·have g1 : (p.kind != 1) = true := by simpa using h1
  clear h1
  go_quiet (fail)
  go_wp2_with fail
  go_ret3
  refine ⟨.slice none 0 0, ?_, ?_, ?_, ⟨_, _, _, rfl⟩⟩
  ·rw [HE.out]; rfl
  ·exact hb1.trans ⟨rfl, rfl, rfl, Nat.le_refl _, fun _ _ => rfl⟩
  ·rw [HE.out]; intro h'; cases h'
 have g1 : (p.kind != 1) = false := by simpa using h1
 by_cases h2 : ¬ p.lsn < 0
 rotate_left
 ·have g2 : p.lsn < 0 := by omega
  clear h2
  go_quiet (fail)
  go_wp2_with fail
  go_ret3
  refine ⟨.slice none 0 0, ?_, ?_, ?_, ⟨_, _, _, rfl⟩⟩
  ·rw [HE.out]; rfl
  ·exact hb1.trans ⟨rfl, rfl, rfl, Nat.le_refl _, fun _ _ => rfl⟩
  ·rw [HE.out]; intro h'; cases h'
 have g2 : decide (p.lsn < 0) = false := by simpa using h2
 by_cases h3 : p.level = 0
 rotate_left
 ·have g3 : (p.level != 0) = true := by simpa using h3
  clear h3
  go_quiet (fail)
  go_wp2_with fail
  go_ret3
  refine ⟨.slice none 0 0, ?_, ?_, ?_, ⟨_, _, _, rfl⟩⟩
  ·rw [HE.out]; rfl
  ·exact hb1.trans ⟨rfl, rfl, rfl, Nat.le_refl _, fun _ _ => rfl⟩
  ·rw [HE.out]; intro h'; cases h'
 have g3 : (p.level != 0) = false := by simpa using h3
 by_cases h4 : p.right = 0
 rotate_left
 ·have g4 : (p.right != 0) = true := by simpa using h4
  clear h4
  go_quiet (fail)
  go_wp2_with fail
  go_ret3
  refine ⟨.slice none 0 0, ?_, ?_, ?_, ⟨_, _, _, rfl⟩⟩
  ·rw [HE.out]; rfl
  ·exact hb1.trans ⟨rfl, rfl, rfl, Nat.le_refl _, fun _ _ => rfl⟩
  ·rw [HE.out]; intro h'; cases h'
 have g4 : (p.right != 0) = false := by simpa using h4
 by_cases h5 : p.high = []
 rotate_left
 ·have g5 : (str p.high).toList.isEmpty = false := by rw [str_list]; simpa using h5
  clear h5
  go_quiet (fail)
  go_wp2_with fail
  go_ret3
  refine ⟨.slice none 0 0, ?_, ?_, ?_, ⟨_, _, _, rfl⟩⟩
  ·rw [HE.out]; rfl
  ·exact hb1.trans ⟨rfl, rfl, rfl, Nat.le_refl _, fun _ _ => rfl⟩
  ·rw [HE.out]; intro h'; cases h'
 have g5 : (str p.high).toList.isEmpty = true := by rw [str_list, h5]; rfl
 have H5 := keep h5
 clear h5
 by_cases h6 : p.items.length = 2
 rotate_left
 ·have g6 : (((p.items.length : Nat) : Int) != 2) = true := by rw [bne_iff_ne]; omega
  clear h6
  go_quiet (fail)
  go_wp2_with fail
  go_ret3
  refine ⟨.slice none 0 0, ?_, ?_, ?_, ⟨_, _, _, rfl⟩⟩
  ·rw [HE.out]; rfl
  ·exact hb1.trans ⟨rfl, rfl, rfl, Nat.le_refl _, fun _ _ => rfl⟩
  ·rw [HE.out]; intro h'; cases h'
 have g6 : (((p.items.length : Nat) : Int) != 2) = false := by rw [h6]; rfl
 obtain ⟨l0, l1, hl⟩ : ∃ l0 l1, p.items = [l0, l1] := by
  match hp : p.items, h6 with
  | [a, b], _ => exact ⟨a, b, rfl⟩
 obtain ⟨c, off, cap, hiv, hcell⟩ := items_cells hi1 (by omega)
 cases hiv
 have d1 := hcell 1 (by omega)
 have hl1 : p.items.getD 1 [] = l1 := by rw [hl]; rfl
 have hg : p.items[1]'(by omega) = l1 := by simp [hl]
 rw [hg] at d1
 have h7 : ¬ ((l1.length : Int) = (m + 3) / 4) := by
  intro h7
  have := HH.out
  unfold openHead at this
  rw [hl1] at this
  simp [h1, h3, h4, H5.out, h6, h7] at this
  omega
 have g7 : ((l1.length : Int) != (m + 3) / 4) = true := by simpa using h7
 clear hcell hg hl1 hl h1 h2 h3 h4 h7
 go_quiet ((go_at_call 64; exact Calls.quiet_of_same ((csize_any m _ (by omega) hm2).mono (fun e w' ⟨a, b⟩ => ⟨a, b.symm⟩))))
 go_wp2_with fail
 go_ret3
 refine ⟨.slice none 0 0, ?_, ?_, ?_, ⟨_, _, _, rfl⟩⟩
 ·rw [HE.out]; rfl
 ·exact hb1.trans ⟨rfl, rfl, rfl, Nat.le_refl _, fun _ _ => rfl⟩
 ·rw [HE.out]; intro h'; cases h'
end Go.Proofs.YtmhepfehcakmjaaGreat
