import Derived.Test.YtmhepfehcakmjaaGreatKSp2
import Derived.Test.YtmhepfehcakmjaaGreatKLexk
import Derived.Deep.CutRange
namespace Go.Proofs.YtmhepfehcakmjaaGreat
open Go.RowKit
attribute [local go_sem] hgs
end Go.Proofs.YtmhepfehcakmjaaGreat
