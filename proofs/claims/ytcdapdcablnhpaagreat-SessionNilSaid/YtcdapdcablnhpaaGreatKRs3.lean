import Derived.Test.YtcdapdcablnhpaaGreatKRs1
import Derived.Test.YtcdapdcablnhpaaGreatKRs2
import Derived.Test.YtcdapdcablnhpaaGreatKLexn
import Derived.Deep.CutRange
namespace Go.Proofs.YtcdapdcablnhpaaGreat
open Go.RowKit
attribute [local go_sem] givesF_none givesF_some evalF_tmp evalF_const evalF_global evalF_func lookL isB_bool isB_undef givesUpon_value givesUpon_skip givesUpon_enter
end Go.Proofs.YtcdapdcablnhpaaGreat
