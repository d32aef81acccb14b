import Derived.Test.YtcdapdcablnhpaaGreatKHl1
import Derived.Test.YtcdapdcablnhpaaGreatKLexk
import Derived.Deep.CutRange
namespace Go.Proofs.YtcdapdcablnhpaaGreat
open Go.RowKit
attribute [local go_sem] hgs
end Go.Proofs.YtcdapdcablnhpaaGreat
