import Derived.Test.YtmhepfehcakmjaaGreatKAyr
import Derived.Test.YtmhepfehcakmjaaGreatKAyf
namespace Go.Proofs.YtmhepfehcakmjaaGreat
open Go.RowKit
theorem touches_top (m : Int) (P : Pg) (iv : Value) (n : Int) (s : RcD) (w_ : World) (hin : PgIn w_ iv P) (hl : P.items.length <= 8796093021952) (hr : RcG w_ s) :
  Calls Tryz.prog 5 #[.int .i64 m, onV P iv n, rcV s.R s.V] w_ fun x w' => x = .returned (.bool true) /\ Below w_.heap.size w_ w' := touches_law m P iv n s.R s.V w_ hin hl hr.1 hr.2
end Go.Proofs.YtmhepfehcakmjaaGreat
