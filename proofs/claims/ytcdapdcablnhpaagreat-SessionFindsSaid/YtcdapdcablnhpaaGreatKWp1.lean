import Derived.Test.YtcdapdcablnhpaaGreatKWc6
import Derived.Test.YtcdapdcablnhpaaGreatKRd3
import Derived.Test.YtcdapdcablnhpaaGreatKRf3
import Derived.Test.YtcdapdcablnhpaaGreatKInv1
namespace Go.Proofs.YtcdapdcablnhpaaGreat
open Go.RowKit
theorem ofS_pair (a b : UInt8) : ofS [a, b] = a.toNat * 256 + b.toNat := by
 have := a.toNat_lt; have := b.toNat_lt;simp only [ofS, ofGo]; omega
theorem endE_of {x : List UInt8 × Int} (h1 : x.2 = 0) (h2 : x.1 = []) : endE x = 0 := by
 unfold endE; rw [h1, h2]; simp
end Go.Proofs.YtcdapdcablnhpaaGreat
