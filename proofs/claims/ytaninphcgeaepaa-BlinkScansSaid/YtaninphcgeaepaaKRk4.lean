import Derived.Test.YtaninphcgeaepaaKRd2
import Derived.Test.YtaninphcgeaepaaKSl1
import Derived.Deep.CutRange
namespace Go.Proofs.Ytaninphcgeaepaa
open Go.RowKit
end Go.Proofs.Ytaninphcgeaepaa
