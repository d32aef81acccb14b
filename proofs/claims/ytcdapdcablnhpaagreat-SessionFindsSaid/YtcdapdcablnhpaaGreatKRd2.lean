import Derived.Test.YtcdapdcablnhpaaGreatKRf3
import Derived.Test.YtcdapdcablnhpaaGreatKRf5
import Derived.Test.YtcdapdcablnhpaaGreatKRd3
namespace Go.Proofs.YtcdapdcablnhpaaGreat
open Go.RowKit
theorem Rr.set_other {w : World} {b : Nat} {l : List UInt8} {x : List UInt8 × Int} (h : Rr w b l x) (a : Addr) (ha : b ≠ a.block) (v : Value) : Rr (w.setCell a v) b l x := by
 obtain ⟨i, h1, h2, h3⟩ := h;exact ⟨i, h1, Blk.set_other h2 a ha v, h3⟩
theorem Rr.fits {w w' : World} {b : Nat} {l : List UInt8} {x : List UInt8 × Int} (h : Rr w b l x) (g : Grow w w') : Rr w' b l x := by
 obtain ⟨i, h1, h2, h3⟩ := h;exact ⟨i, h1, Blk.fits h2 g, h3⟩
theorem Below.step {B b : Nat} {u w w' : World} (h : Below B u w) (k : But b w w') (hb : B <= b) (hB : B <= w.heap.size) : Below B u w' := But.below h k hb hB
theorem neq_zeroE (k : List UInt8) (p s : Int) (w : World) : (binOp .neq 103 (.agg #[.string (str k), .int .i64 p, .int .i64 s]) (.agg #[.string ⟨#[]⟩, .int .i64 0, .int .i64 0])).run Tryz.prog w = .ok (.bool (!isL (k, p, s))) w := neq_least k p s w
attribute [local simp] neq_zeroE
attribute [local go_sem] guard_entry
end Go.Proofs.YtcdapdcablnhpaaGreat
