
import Derived.Test.YtikmkimkhngihaaGreatKPgn
import Derived.Test.YtikmkimkhngihaaGreatKBits3
import Derived.Test.YtikmkimkhngihaaGreatKBits6
import Derived.Test.YtikmkimkhngihaaGreatKRelk
import Derived.Deep.Cut
/- The document's reader: what it is in memory; its small functions. -/
namespace Go.Proofs.YtikmkimkhngihaaGreat
open Go.RowKit

theorem enres {w : World} {b t : Nat} {v0 v1 v2 : Value} (h : Blk w b t [v0, v1, v2]) :
    w.cell? ⟨b, 0, none⟩ = some v0 ∧ w.cell? ⟨b, 1, none⟩ = some v1 ∧ w.cell? ⟨b, 2, none⟩ = some v2 ∧ w.frozen? ⟨b, 0, none⟩ = false ∧ w.frozen? ⟨b, 1, none⟩ = false ∧ w.frozen? ⟨b, 2, none⟩ = false :=
  ⟨h.cell 0 (by simp), h.cell 1 (by simp), h.cell 2 (by simp), h.free 0, h.free 1, h.free 2⟩

theorem one_ints (w : World) (n : Int) : IntsS (w.alloc (.cells #[.int .i64 n] 3)) (.slice (some ⟨w.heap.size, 0, none⟩) 1 1) [n] :=
  RowS.blk (Blk.new w 3 [.int .i64 n]) 1 1 _ 0 (by intro j hj; rw [Nat.zero_add]; rfl)
def endE (x : List UInt8 × Int) : Int := if x.2 = 0 ∧ 0 < x.1.length then 12 else x.2
theorem str_app (a b : List UInt8) : str a ++ str b = str (a ++ b) := by simp [str, ByteArray.ext_iff]
/-- A reader of the document: its bytes, its place, what is wrong. -/
def Rf (w : World) (b : Nat) (l : List UInt8) (at_ e : Int) : Prop := Blk w b 104 [.string (str l), .int .i64 at_, .int .i64 e]
theorem rwrong_any (b : Nat) (l : List UInt8) (a er n : Int) (w : World) (h : Rf w b l a er) : Calls Tryz.prog 75 #[.pointer (some ⟨b, 0, none⟩), .int .i64 n] w fun e w' =>
    e = .returned (.int .i64 0) ∧ Rf w' b l a n ∧ But b w w' := by
  obtain ⟨c0, c1, c2, f0, f1, f2⟩ := enres h
  go_enter Tryz.func75, Tryz.ntmps75
  go_wp2_with fail
  go_ret
  exact ⟨rfl, h.set 2 (.int .i64 n), (But.refl b w).setCell 2 _⟩
def rendE (l : List UInt8) (a e : Int) : Int := if e = 0 ∧ a < l.length then 12 else e
theorem rend_any (b : Nat) (l : List UInt8) (a er : Int) (w : World) (h : Rf w b l a er) : Calls Tryz.prog 59 #[.pointer (some ⟨b, 0, none⟩)] w fun e w' =>
    e = .returned (.int .i64 (rendE l a er)) ∧ Grow w w' := by
  obtain ⟨c0, c1, c2, f0, f1, f2⟩ := enres h
  go_enter Tryz.func59, Tryz.ntmps59
  by_cases h0 : er = 0
  · by_cases h1 : a < l.length
    · go_upto_region 1 with fail
      go_quiet (fail)
      go_wp2_with fail
      go_ret
      exact ⟨by simp [rendE, h0, h1], below_drewN (Grow.refl _) _⟩
    · go_upto_region 1 with fail
      go_quiet (fail)
      go_wp2_with fail
      go_ret
      exact ⟨by simp [rendE, h1], below_drewN (Grow.refl _) _⟩
  · go_upto_region 1 with fail
    go_quiet (fail)
    go_wp2_with fail
    go_ret
    exact ⟨by simp [rendE, h0], below_drewN (Grow.refl _) _⟩

end Go.Proofs.YtikmkimkhngihaaGreat
