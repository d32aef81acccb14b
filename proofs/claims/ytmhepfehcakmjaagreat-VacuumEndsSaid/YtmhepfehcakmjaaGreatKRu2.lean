import Derived.Test.YtmhepfehcakmjaaGreatKRs3
import Derived.Test.YtmhepfehcakmjaaGreatKRd2
import Derived.Test.YtmhepfehcakmjaaGreatKRd3
import Derived.Test.YtmhepfehcakmjaaGreatKRk2
import Derived.Deep.CutRange
import Derived.Test.YtmhepfehcakmjaaGreatKSp2
namespace Go.Proofs.YtmhepfehcakmjaaGreat
open Go.RowKit
theorem eql_zeroE (k : List UInt8) (p s : Int) (w : World) : (binOp .eql 102 (.agg #[.string (str k), .int .i64 p, .int .i64 s]) (.agg #[.string ⟨#[]⟩, .int .i64 0, .int .i64 0])).run Tryz.prog w = .ok (.bool (isL (k, p, s))) w := eql_least k p s w
attribute [local simp] eql_zeroE
attribute [local go_sem] guard_entry
end Go.Proofs.YtmhepfehcakmjaaGreat
namespace Go.Proofs.YtmhepfehcakmjaaGreat
open Go.RowKit
structure Two (w : World) (b : Nat) (n : Nat) (xs : List Value) (m : Nat) (ys : List Value) (ev cv : Value) : Prop where
 ens : w.ownsRow (b + 1) 102 3 ev n xs
 kids : w.ownsRow (b + 1) 3 1 cv m ys
theorem Two.fits {w w' : World} {b n m : Nat} {xs ys : List Value} {ev cv : Value} (h : Two w b n xs m ys ev cv) (g : Grow w w') : Two w' b n xs m ys ev cv := ⟨owns_fits h.ens g, owns_fits h.kids g⟩
theorem Two.pushEns {w w1 : World} {b n m n' : Nat} {xs ys xs' : List Value} {ev cv v' : Value} (h : Two w b n xs m ys ev cv) {o : Obj} (hg : (w.alloc o).grownBy w1 ev.ownBlock) (hown : w1.ownsRow (b + 1) 102 3 v' n' xs') : Two w1 b n' xs' m ys v' cv :=
 ⟨hown, (h.kids.alloc o).kept hg (own_neO h.kids h.ens (by decide))⟩
theorem Two.pushKids {w w1 : World} {b n m n' : Nat} {xs ys ys' : List Value} {ev cv v' : Value} (h : Two w b n xs m ys ev cv) {o : Obj} (hg : (w.alloc o).grownBy w1 cv.ownBlock) (hown : w1.ownsRow (b + 1) 3 1 v' n' ys') : Two w1 b n xs n' ys' ev v' :=
 ⟨(h.ens.alloc o).kept hg (own_neO h.ens h.kids (by decide)), hown⟩
end Go.Proofs.YtmhepfehcakmjaaGreat
namespace Go.Proofs.YtmhepfehcakmjaaGreat
open Go.RowKit
end Go.Proofs.YtmhepfehcakmjaaGreat
