import Derived.Test.YtmhepfehcakmjaaGreatKRs3
import Derived.Test.YtmhepfehcakmjaaGreatKRd2
import Derived.Test.YtmhepfehcakmjaaGreatKRd3
import Derived.Test.YtmhepfehcakmjaaGreatKRk2
import Derived.Deep.CutRange
namespace Go.Proofs.YtmhepfehcakmjaaGreat
open Go.RowKit
theorem eql_zeroE (k : List UInt8) (p s : Int) (w : World) : (binOp .eql 102 (.agg #[.string (str k), .int .i64 p, .int .i64 s]) (.agg #[.string ⟨#[]⟩, .int .i64 0, .int .i64 0])).run Tryz.prog w = .ok (.bool (isL (k, p, s))) w := eql_least k p s w
attribute [local simp] eql_zeroE
attribute [local go_sem] guard_entry
end Go.Proofs.YtmhepfehcakmjaaGreat
