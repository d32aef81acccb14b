import Derived.Test.YtmhepfehcakmjaaGreatKAyd
import Derived.Test.YtmhepfehcakmjaaGreatKOpn4
namespace Go.Proofs.YtmhepfehcakmjaaGreat
open Go.ChangeShapes Go.WideShapes Go.ChangeAt Go.RowKit
instance : Inhabited Img := ⟨⟨0, zeroP, .slice none 0 0⟩⟩
structure RcD where
 R : Rc
 V : RcV
def RcD.cells (d : RcD) : List Value := rcC d.R d.V
theorem RcD.length (d : RcD) : d.cells.length = 16 := rfl
instance : Inhabited RcD := ⟨⟨zeroR, zeroV⟩⟩
section
variable {H : Type} {enc : TypeId × Value → H} {w : World} {base : Nat} {spare : Nat → Bool} {held : Bool} {r : Reach} {b0 : Nat}
end
end Go.Proofs.YtmhepfehcakmjaaGreat
namespace Go.Proofs.YtmhepfehcakmjaaGreat
open Go.ChangeShapes Go.WideShapes Go.ChangeAt Go.RowKit
theorem Tryz.own : ownKnob Tryz.prog.godebug = none := by kernel_rfl
theorem Tryz.laidOut : laidOutB Tryz.prog = true := by kernel_rfl
end Go.Proofs.YtmhepfehcakmjaaGreat
