import Derived.Test.YtcdapdcablnhpaaGreatKLexn
import Derived.Test.YtcdapdcablnhpaaGreatKCg2
import Derived.Test.YtcdapdcablnhpaaGreatKBl1
import Derived.Test.YtcdapdcablnhpaaGreatKHl1
namespace Go.Proofs.YtcdapdcablnhpaaGreat
open Go.RowKit
attribute [local go_sem] givesV lookV knAt hgs
attribute [local simp] eql_entry
attribute [local go_sem] guard_entry
end Go.Proofs.YtcdapdcablnhpaaGreat
namespace Go.Proofs.YtcdapdcablnhpaaGreat
open Go.RowKit
attribute [local simp] eql_entry
attribute [local go_sem] guard_entry
attribute [local go_sem] givesV lookV knAt hgs
def postOk (P : Pg) (e : En) (c : Int) : Bool := openOk P && (!decide (P.level = 0) && (enOk e && (inB c 1 65535 && !(bdN P && decide (0 <= cmpE e (hiN P))))))
def postN (P : Pg) (e : En) (c : Int) : Pg × Int := if postOk P e c then (if decide (e ∈ ensN P) then (zeroP, 140) else putN P (posE (ensN P) e) (enBytes e [c])) else (zeroP, 140)
end Go.Proofs.YtcdapdcablnhpaaGreat
namespace Go.Proofs.YtcdapdcablnhpaaGreat
open Go.RowKit
attribute [local go_sem] givesV lookV knAt hgs
end Go.Proofs.YtcdapdcablnhpaaGreat
