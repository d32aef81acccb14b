import Derived.Test.YtmhepfehcakmjaaGreatKLexm
import Derived.Test.YtmhepfehcakmjaaGreatKRs1
import Derived.Test.YtmhepfehcakmjaaGreatKBits5
import Derived.Deep.CutRange
namespace Go.Proofs.YtmhepfehcakmjaaGreat
open Go.RowKit
attribute [local go_sem] givesV lookV knAt hgs
end Go.Proofs.YtmhepfehcakmjaaGreat
