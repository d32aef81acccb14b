import Derived.Test.YtcdapdcablnhpaaGreatKRu2
import Derived.Test.YtcdapdcablnhpaaGreatKSp2
namespace Go.Proofs.YtcdapdcablnhpaaGreat
open Go.RowKit
attribute [local go_sem] givesF_none givesF_some evalF_tmp evalF_const evalF_global evalF_func lookL isB_bool isB_undef givesUpon_value givesUpon_skip givesUpon_enter
end Go.Proofs.YtcdapdcablnhpaaGreat
