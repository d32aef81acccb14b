import Derived.Test.YtcdapdcablnhpaaGreatKRd2
import Derived.Test.YtcdapdcablnhpaaGreatKSp2
import Derived.Deep.CutRange
namespace Go.Proofs.YtcdapdcablnhpaaGreat
open Go.RowKit
end Go.Proofs.YtcdapdcablnhpaaGreat
