import Derived.Test.YtaninphcgeaepaaKRf2
import Derived.Test.YtaninphcgeaepaaKNd5
import Derived.Test.YtaninphcgeaepaaKLexm
namespace Go.Proofs.Ytaninphcgeaepaa
open Go.RowKit
attribute [local go_sem] givesF_none givesF_some evalF_tmp evalF_const evalF_global evalF_func lookL isB_bool isB_undef givesUpon_value givesUpon_skip givesUpon_enter
end Go.Proofs.Ytaninphcgeaepaa
namespace Go.Proofs.Ytaninphcgeaepaa
open Go.RowKit
attribute [local go_sem] givesF_none givesF_some evalF_tmp evalF_const evalF_global evalF_func lookL isB_bool isB_undef givesUpon_value givesUpon_skip givesUpon_enter
end Go.Proofs.Ytaninphcgeaepaa
