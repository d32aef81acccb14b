import Derived.Test.YtaninphcgeaepaaGreatKSp2
import Derived.Test.YtaninphcgeaepaaGreatKSm1
import Derived.Test.YtaninphcgeaepaaGreatKCh2
import Derived.BigQuiet
namespace Go.Proofs.YtaninphcgeaepaaGreat
open Go.RowKit
attribute [local simp] eql_entry
attribute [local go_sem] guard_entry
theorem pgIn_of {w : World} {iv : Value} {P : Pg} (h : ItemsC w iv P.items) (hs : (P.items.all fun x => decide (x.length ≤ 1000)) = true) (hh : P.high.length ≤ 1000) (hl : P.items.length ≤ 1000) (hlsn : P.lsn ≤ 9223372036854775807) : PgIn w iv P :=
 ⟨h.1.weak, fun x hx => by have := List.all_eq_true.1 hs x hx; simp only [decide_eq_true_eq] at this; omega, by omega, by omega, hlsn⟩
end Go.Proofs.YtaninphcgeaepaaGreat
