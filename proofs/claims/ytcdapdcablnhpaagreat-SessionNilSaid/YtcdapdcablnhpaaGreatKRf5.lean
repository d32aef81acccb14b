import Derived.Test.YtcdapdcablnhpaaGreatKRf2
import Derived.Test.YtcdapdcablnhpaaGreatKNd5
import Derived.Test.YtcdapdcablnhpaaGreatKLexn
namespace Go.Proofs.YtcdapdcablnhpaaGreat
open Go.RowKit
attribute [local go_sem] givesF_none givesF_some evalF_tmp evalF_const evalF_global evalF_func lookL isB_bool isB_undef givesUpon_value givesUpon_skip givesUpon_enter
def Rr (w : World) (b : Nat) (l : List UInt8) (x : List UInt8 × Int) : Prop := ∃ a : Nat, a ≤ l.length ∧ Rf w b l a x.2 ∧ (x.2 = 0 → l.drop a = x.1)
end Go.Proofs.YtcdapdcablnhpaaGreat
namespace Go.Proofs.YtcdapdcablnhpaaGreat
open Go.RowKit
attribute [local go_sem] givesF_none givesF_some evalF_tmp evalF_const evalF_global evalF_func lookL isB_bool isB_undef givesUpon_value givesUpon_skip givesUpon_enter
end Go.Proofs.YtcdapdcablnhpaaGreat
