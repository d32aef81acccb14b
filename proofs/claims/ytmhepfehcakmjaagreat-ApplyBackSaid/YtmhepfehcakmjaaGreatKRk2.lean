import Derived.Test.YtmhepfehcakmjaaGreatKSp2
import Derived.Test.YtmhepfehcakmjaaGreatKRf2
import Derived.BigQuiet
namespace Go.Proofs.YtmhepfehcakmjaaGreat
open Go.RowKit
end Go.Proofs.YtmhepfehcakmjaaGreat
