import Derived.Test.YtcdapdcablnhpaaGreatKRu2
import Derived.Test.YtcdapdcablnhpaaGreatKHl1
namespace Go.Proofs.YtcdapdcablnhpaaGreat
open Go.RowKit
attribute [local go_sem] hgs
end Go.Proofs.YtcdapdcablnhpaaGreat
