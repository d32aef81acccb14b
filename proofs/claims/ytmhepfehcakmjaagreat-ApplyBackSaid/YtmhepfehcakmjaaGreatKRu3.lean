import Derived.Test.YtmhepfehcakmjaaGreatKRu2
import Derived.Test.YtmhepfehcakmjaaGreatKSp2
namespace Go.Proofs.YtmhepfehcakmjaaGreat
open Go.RowKit
attribute [local go_sem] hgs
end Go.Proofs.YtmhepfehcakmjaaGreat
