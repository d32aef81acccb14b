import Derived.Test.YtcdapdcablnhpaaGreatKLexn
import Derived.Test.YtcdapdcablnhpaaGreatKRf2
import Derived.Test.YtcdapdcablnhpaaGreatKRd3
namespace Go.Proofs.YtcdapdcablnhpaaGreat
open Go.RowKit
attribute [local go_sem] givesV lookV knAt hgs
def Rr (w : World) (b : Nat) (l : List UInt8) (x : List UInt8 × Int) : Prop := ∃ a : Nat, a <= l.length /\ Rf w b l a x.2 /\ (x.2 = 0 -> l.drop a = x.1)
end Go.Proofs.YtcdapdcablnhpaaGreat
