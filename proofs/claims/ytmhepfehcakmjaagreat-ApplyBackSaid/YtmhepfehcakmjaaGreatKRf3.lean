import Derived.Test.YtmhepfehcakmjaaGreatKLexm
import Derived.Test.YtmhepfehcakmjaaGreatKRf2
import Derived.Test.YtmhepfehcakmjaaGreatKNd5
import Derived.Test.YtmhepfehcakmjaaGreatKRs1
namespace Go.Proofs.YtmhepfehcakmjaaGreat
open Go.RowKit
attribute [local go_sem] givesV lookV knAt hgs
attribute [local simp] neq_least
attribute [local go_sem] guard_entry
end Go.Proofs.YtmhepfehcakmjaaGreat
