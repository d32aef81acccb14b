import Derived.Test.YtcdapdcablnhpaaGreatKRd2
import Derived.Test.YtcdapdcablnhpaaGreatKHl1
import Derived.Deep.CutRange
namespace Go.Proofs.YtcdapdcablnhpaaGreat
open Go.RowKit
end Go.Proofs.YtcdapdcablnhpaaGreat
