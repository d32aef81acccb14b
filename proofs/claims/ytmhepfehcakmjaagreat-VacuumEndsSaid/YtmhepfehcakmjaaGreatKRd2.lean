import Derived.Test.YtmhepfehcakmjaaGreatKRf3
import Derived.Test.YtmhepfehcakmjaaGreatKRf5
import Derived.Test.YtmhepfehcakmjaaGreatKRd3
namespace Go.Proofs.YtmhepfehcakmjaaGreat
open Go.RowKit
theorem Below.step {B b : Nat} {u w w' : World} (h : Below B u w) (k : But b w w') (hb : B ≤ b) (hB : B ≤ w.heap.size) : Below B u w' := But.below h k hb hB
end Go.Proofs.YtmhepfehcakmjaaGreat
namespace Go.Proofs.YtmhepfehcakmjaaGreat
open Go.RowKit
theorem neq_zeroE (k : List UInt8) (p s : Int) (w : World) : (binOp .neq 102 (.agg #[.string (str k), .int .i64 p, .int .i64 s]) (.agg #[.string ⟨#[]⟩, .int .i64 0, .int .i64 0])).run Tryz.prog w = .ok (.bool (!isL (k, p, s))) w := neq_least k p s w
attribute [local simp] neq_zeroE
attribute [local go_sem] guard_entry
end Go.Proofs.YtmhepfehcakmjaaGreat
