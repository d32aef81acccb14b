/-
  No cell of these rows narrows 'for every input' (looked for: loops, veiled, ifaces, maps, wideKeys, modest, calm, conditions, laid).
  DERIVED. THE GIVEN ROWS OF THIS SEAT. 5 by the template 'for every input the law returns true; each argument reads behind the call as it read before'; 0 by the template 'total and deterministic' (their statements: YtmhepfehcakmjaaGreatTotals.lean).
  GIVEN WITH THE SEED: the statements are not yours to turn. If you find one false, say at which input.
  Laid BY PROGRAM, IN A SANDBOX (cutbox-rows.mjs): the forced cells as the released guide's own fill.sh prints them over the translation 261cd7fc9ac4c1b5… (all of the seat's roots in one cut). By AI agents, Wed Nov 11 2026. No macro, syntax, notation, axiom, sorry.
-/
import Derived.Test.YtmhepfehcakmjaaGreatChecked
import GoSem.Claim
import GoSem.ClaimJoined
import GoSem.ClaimMapViews
import Derived.JoinedTies
import Derived.KernelRfl
namespace Go.Proofs.YtmhepfehcakmjaaGreat
/- THE CELL 'sum', in the pinned program and in every row, IS THE sha256 OF THE DUMP (.gsa) THAT YtmhepfehcakmjaaGreatProg.lean LOADS. Nothing in Lean hashes anything: it is a label: what it is worth is what the hold of that sum in a sandbox is worth. -/
noncomputable def Tryz.pinned : Pinned := { name := "ytmhepfehcakmjaagreat", sum := "261cd7fc9ac4c1b50c018416103d0306dbaf5d009f85145d89ee9ae92f49a143", checked := Tryz.checked }
namespace Rows
def none {H : Type} : Left H := { results := [], args := [] }

/-- 'almonrylaw16.ApplyAgain': WHATEVER THE INPUT: true; the input reads as it did. -/
def applyAgainSpec : ChangeSpec := { name := "applyAgain", fn := fun _ => fun
  | [d1, d2, d3] => { results := [.lit (.bool true)], args := [d1, d2, d3] }
  | _ => none }
def applyAgainRow : OpenClaim := { program := "ytmhepfehcakmjaagreat", sum := "261cd7fc9ac4c1b50c018416103d0306dbaf5d009f85145d89ee9ae92f49a143", func := "almonry/almonrylaw16.ApplyAgain", spec := "applyAgain", inPlace := ["slices.overlaps[string]", "internal/abi.NoEscape", "internal/bytealg.MakeNoZero", "internal/bytealg.abigen_runtime_cmpstring"], unfollowed := true, recurses := true, apart := false }
def ApplyAgainSaid : Prop := applyAgainRow.holds Tryz.pinned (OpenSpec.ofChange applyAgainSpec)

/-- ITS FALSE NEIGHBOUR: 'it returns false'. Refute it at one input. -/
def applyAgainWrong : ChangeSpec := { name := "applyAgain", fn := fun _ => fun
  | [d1, d2, d3] => { results := [.lit (.bool false)], args := [d1, d2, d3] }
  | _ => none }
def ApplyAgainWrongFalsely : Prop := applyAgainRow.holds Tryz.pinned (OpenSpec.ofChange applyAgainWrong)

/-- 'almonrylaw16.ApplyRow': WHATEVER THE INPUT: true; the input reads as it did. -/
def applyRowSpec : ChangeSpec := { name := "applyRow", fn := fun _ => fun
  | [d1, d2, d3] => { results := [.lit (.bool true)], args := [d1, d2, d3] }
  | _ => none }
def applyRowRow : OpenClaim := { program := "ytmhepfehcakmjaagreat", sum := "261cd7fc9ac4c1b50c018416103d0306dbaf5d009f85145d89ee9ae92f49a143", func := "almonry/almonrylaw16.ApplyRow", spec := "applyRow", inPlace := ["slices.overlaps[string]", "internal/abi.NoEscape", "internal/bytealg.MakeNoZero", "internal/bytealg.abigen_runtime_cmpstring"], unfollowed := true, recurses := true, apart := false }
def ApplyRowSaid : Prop := applyRowRow.holds Tryz.pinned (OpenSpec.ofChange applyRowSpec)

/-- ITS FALSE NEIGHBOUR: 'it returns false'. Refute it at one input. -/
def applyRowWrong : ChangeSpec := { name := "applyRow", fn := fun _ => fun
  | [d1, d2, d3] => { results := [.lit (.bool false)], args := [d1, d2, d3] }
  | _ => none }
def ApplyRowWrongFalsely : Prop := applyRowRow.holds Tryz.pinned (OpenSpec.ofChange applyRowWrong)

/-- 'almonrylaw16.ApplyTouches': WHATEVER THE INPUT: true; the input reads as it did. -/
def applyTouchesSpec : ChangeSpec := { name := "applyTouches", fn := fun _ => fun
  | [d1, d2, d3] => { results := [.lit (.bool true)], args := [d1, d2, d3] }
  | _ => none }
def applyTouchesRow : OpenClaim := { program := "ytmhepfehcakmjaagreat", sum := "261cd7fc9ac4c1b50c018416103d0306dbaf5d009f85145d89ee9ae92f49a143", func := "almonry/almonrylaw16.ApplyTouches", spec := "applyTouches", inPlace := ["slices.overlaps[string]", "internal/abi.NoEscape", "internal/bytealg.MakeNoZero", "internal/bytealg.abigen_runtime_cmpstring"], unfollowed := true, recurses := true, apart := false }
def ApplyTouchesSaid : Prop := applyTouchesRow.holds Tryz.pinned (OpenSpec.ofChange applyTouchesSpec)

/-- ITS FALSE NEIGHBOUR: 'it returns false'. Refute it at one input. -/
def applyTouchesWrong : ChangeSpec := { name := "applyTouches", fn := fun _ => fun
  | [d1, d2, d3] => { results := [.lit (.bool false)], args := [d1, d2, d3] }
  | _ => none }
def ApplyTouchesWrongFalsely : Prop := applyTouchesRow.holds Tryz.pinned (OpenSpec.ofChange applyTouchesWrong)

/-- 'almonrylaw16.ApplyBack': WHATEVER THE INPUT: true; the input reads as it did. -/
def applyBackSpec : ChangeSpec := { name := "applyBack", fn := fun _ => fun
  | [d1, d2, d3] => { results := [.lit (.bool true)], args := [d1, d2, d3] }
  | _ => none }
def applyBackRow : OpenClaim := { program := "ytmhepfehcakmjaagreat", sum := "261cd7fc9ac4c1b50c018416103d0306dbaf5d009f85145d89ee9ae92f49a143", func := "almonry/almonrylaw16.ApplyBack", spec := "applyBack", inPlace := ["slices.overlaps[string]", "internal/abi.NoEscape", "internal/bytealg.MakeNoZero", "internal/bytealg.abigen_runtime_cmpstring"], unfollowed := true, recurses := true, apart := false }
def ApplyBackSaid : Prop := applyBackRow.holds Tryz.pinned (OpenSpec.ofChange applyBackSpec)

/-- ITS FALSE NEIGHBOUR: 'it returns false'. Refute it at one input. -/
def applyBackWrong : ChangeSpec := { name := "applyBack", fn := fun _ => fun
  | [d1, d2, d3] => { results := [.lit (.bool false)], args := [d1, d2, d3] }
  | _ => none }
def ApplyBackWrongFalsely : Prop := applyBackRow.holds Tryz.pinned (OpenSpec.ofChange applyBackWrong)

/-- 'almonrylaw20.VacuumEnds': WHATEVER THE INPUT: true; the input reads as it did. -/
def vacuumEndsSpec : ChangeSpec := { name := "vacuumEnds", fn := fun _ => fun
  | [d1, d2, d3] => { results := [.lit (.bool true)], args := [d1, d2, d3] }
  | _ => none }
def vacuumEndsRow : OpenClaim := { program := "ytmhepfehcakmjaagreat", sum := "261cd7fc9ac4c1b50c018416103d0306dbaf5d009f85145d89ee9ae92f49a143", func := "almonry/almonrylaw20.VacuumEnds", spec := "vacuumEnds", inPlace := ["slices.overlaps[string]", "internal/abi.NoEscape", "internal/bytealg.MakeNoZero", "internal/bytealg.abigen_runtime_cmpstring"], unfollowed := true, recurses := true, apart := false }
def VacuumEndsSaid : Prop := vacuumEndsRow.holds Tryz.pinned (OpenSpec.ofChange vacuumEndsSpec)

/-- ITS FALSE NEIGHBOUR: 'it returns false'. Refute it at one input. -/
def vacuumEndsWrong : ChangeSpec := { name := "vacuumEnds", fn := fun _ => fun
  | [d1, d2, d3] => { results := [.lit (.bool false)], args := [d1, d2, d3] }
  | _ => none }
def VacuumEndsWrongFalsely : Prop := vacuumEndsRow.holds Tryz.pinned (OpenSpec.ofChange vacuumEndsWrong)

/- THE SECOND FORM. 'bulk': how many values and letters a reading holds, each counted each time it is reached (what is shared counts as often as it is met; a slice's spare places count too). A statement '..UptoSaid' is the law's where the arguments, and the package variables that the reading takes, are together of bulk at most 1048576: NARROWER than '..Said'. Prove '..Said' where nothing that the law and all that it calls make is longer than what came in: it says more and counts as full. Else prove '..UptoSaid'. A law counts once. -/
mutual
def uptoBulk {H : Type} : DataW H → Nat
  | .lit (.string bytes) => bytes.length + 1
  | .lit _ => 1
  | .nil => 1
  | .ptr d => uptoBulk d + 1
  | .slice elems spare => uptoBulkAll elems + uptoBulkAll spare + 1
  | .agg parts => uptoBulkAll parts + 1
  | .iface _ d => uptoBulk d + 1
  | .map entries => uptoBulkEntries entries + 1
  | .held _ => 1
def uptoBulkAll {H : Type} : List (DataW H) → Nat
  | [] => 0
  | d :: r => uptoBulk d + uptoBulkAll r
def uptoBulkEntries {H : Type} : List (Lit × DataW H) → Nat
  | [] => 0
  | x :: r => uptoBulkEntry x + uptoBulkEntries r
def uptoBulkEntry {H : Type} : Lit × DataW H → Nat
  | (.string bytes, d) => bytes.length + uptoBulk d + 1
  | (_, d) => uptoBulk d + 1
 end
def uptoSmall : (H : Type) → List (DataW H) → Bool := fun _ ds => decide (uptoBulkAll ds ≤ 1048576)
def OpenSpec.upto (s : _root_.Go.ChangeSpec) : _root_.Go.OpenSpec := { _root_.Go.OpenSpec.ofChange s with cond := some uptoSmall }

/-- 'almonrylaw16.ApplyAgain', WHERE WHAT IT READS IS OF BULK AT MOST 1048576: true; the input reads as it did. -/
def applyAgainUptoRow : OpenClaim := { program := "ytmhepfehcakmjaagreat", sum := "261cd7fc9ac4c1b50c018416103d0306dbaf5d009f85145d89ee9ae92f49a143", func := "almonry/almonrylaw16.ApplyAgain", spec := "applyAgain", inPlace := ["slices.overlaps[string]", "internal/abi.NoEscape", "internal/bytealg.MakeNoZero", "internal/bytealg.abigen_runtime_cmpstring"], unfollowed := true, recurses := true, apart := false, narrowed := true }
def ApplyAgainUptoSaid : Prop := applyAgainUptoRow.holds Tryz.pinned (OpenSpec.upto applyAgainSpec)

/-- 'almonrylaw16.ApplyRow', WHERE WHAT IT READS IS OF BULK AT MOST 1048576: true; the input reads as it did. -/
def applyRowUptoRow : OpenClaim := { program := "ytmhepfehcakmjaagreat", sum := "261cd7fc9ac4c1b50c018416103d0306dbaf5d009f85145d89ee9ae92f49a143", func := "almonry/almonrylaw16.ApplyRow", spec := "applyRow", inPlace := ["slices.overlaps[string]", "internal/abi.NoEscape", "internal/bytealg.MakeNoZero", "internal/bytealg.abigen_runtime_cmpstring"], unfollowed := true, recurses := true, apart := false, narrowed := true }
def ApplyRowUptoSaid : Prop := applyRowUptoRow.holds Tryz.pinned (OpenSpec.upto applyRowSpec)

/-- 'almonrylaw16.ApplyTouches', WHERE WHAT IT READS IS OF BULK AT MOST 1048576: true; the input reads as it did. -/
def applyTouchesUptoRow : OpenClaim := { program := "ytmhepfehcakmjaagreat", sum := "261cd7fc9ac4c1b50c018416103d0306dbaf5d009f85145d89ee9ae92f49a143", func := "almonry/almonrylaw16.ApplyTouches", spec := "applyTouches", inPlace := ["slices.overlaps[string]", "internal/abi.NoEscape", "internal/bytealg.MakeNoZero", "internal/bytealg.abigen_runtime_cmpstring"], unfollowed := true, recurses := true, apart := false, narrowed := true }
def ApplyTouchesUptoSaid : Prop := applyTouchesUptoRow.holds Tryz.pinned (OpenSpec.upto applyTouchesSpec)

/-- 'almonrylaw16.ApplyBack', WHERE WHAT IT READS IS OF BULK AT MOST 1048576: true; the input reads as it did. -/
def applyBackUptoRow : OpenClaim := { program := "ytmhepfehcakmjaagreat", sum := "261cd7fc9ac4c1b50c018416103d0306dbaf5d009f85145d89ee9ae92f49a143", func := "almonry/almonrylaw16.ApplyBack", spec := "applyBack", inPlace := ["slices.overlaps[string]", "internal/abi.NoEscape", "internal/bytealg.MakeNoZero", "internal/bytealg.abigen_runtime_cmpstring"], unfollowed := true, recurses := true, apart := false, narrowed := true }
def ApplyBackUptoSaid : Prop := applyBackUptoRow.holds Tryz.pinned (OpenSpec.upto applyBackSpec)

/-- 'almonrylaw20.VacuumEnds', WHERE WHAT IT READS IS OF BULK AT MOST 1048576: true; the input reads as it did. -/
def vacuumEndsUptoRow : OpenClaim := { program := "ytmhepfehcakmjaagreat", sum := "261cd7fc9ac4c1b50c018416103d0306dbaf5d009f85145d89ee9ae92f49a143", func := "almonry/almonrylaw20.VacuumEnds", spec := "vacuumEnds", inPlace := ["slices.overlaps[string]", "internal/abi.NoEscape", "internal/bytealg.MakeNoZero", "internal/bytealg.abigen_runtime_cmpstring"], unfollowed := true, recurses := true, apart := false, narrowed := true }
def VacuumEndsUptoSaid : Prop := vacuumEndsUptoRow.holds Tryz.pinned (OpenSpec.upto vacuumEndsSpec)

end Rows
end Go.Proofs.YtmhepfehcakmjaaGreat
