import Derived.Test.YtmhepfehcakmjaaGreatKLexm
import Derived.Test.YtmhepfehcakmjaaGreatKRf2
import Derived.Test.YtmhepfehcakmjaaGreatKNd5
namespace Go.Proofs.YtmhepfehcakmjaaGreat
open Go.RowKit
attribute [local go_sem] givesV lookV knAt hgs
end Go.Proofs.YtmhepfehcakmjaaGreat
