/-
  No cell of these rows narrows 'for every input' (looked for: loops, veiled, ifaces, maps, wideKeys, modest, calm, conditions, laid).
  DERIVED. THE GIVEN ROWS OF THIS SEAT. 2 by the template 'for every input the law returns true; each argument reads behind the call as it read before'; 0 by the template 'total and deterministic' (their statements: YtaninphcgeaepaaGreatTotals.lean).
  GIVEN WITH THE SEED: the statements are not yours to turn. If you find one false, say at which input.
  Laid BY PROGRAM, IN A SANDBOX (cutbox-rows.mjs): the forced cells as the released guide's own fill.sh prints them over the translation fc3d40a7d6bdaed5… (all of the seat's roots in one cut). By AI agents, Wed Nov 11 2026. No macro, syntax, notation, axiom, sorry.
-/
import Derived.Test.YtaninphcgeaepaaGreatChecked
import GoSem.Claim
import GoSem.ClaimJoined
import GoSem.ClaimMapViews
import Derived.JoinedTies
import Derived.KernelRfl
namespace Go.Proofs.YtaninphcgeaepaaGreat
/- THE CELL 'sum', in the pinned program and in every row, IS THE sha256 OF THE DUMP (.gsa) THAT YtaninphcgeaepaaGreatProg.lean LOADS. Nothing in Lean hashes anything: it is a label: what it is worth is what the hold of that sum in a sandbox is worth. -/
noncomputable def Tryz.pinned : Pinned := { name := "ytaninphcgeaepaagreat", sum := "fc3d40a7d6bdaed5345a98eb060f1ee78758642624db1884f8c16588d60e8a5b", checked := Tryz.checked }
namespace Rows
def none {H : Type} : Left H := { results := [], args := [] }

/-- 'almonrylaw15.BlinkEnters': WHATEVER THE INPUT: true; the input reads as it did. -/
def blinkEntersSpec : ChangeSpec := { name := "blinkEnters", fn := fun _ => fun
  | [d1, d2, d3] => { results := [.lit (.bool true)], args := [d1, d2, d3] }
  | _ => none }
def blinkEntersRow : OpenClaim := { program := "ytaninphcgeaepaagreat", sum := "fc3d40a7d6bdaed5345a98eb060f1ee78758642624db1884f8c16588d60e8a5b", func := "almonry/almonrylaw15.BlinkEnters", spec := "blinkEnters", inPlace := ["internal/abi.NoEscape", "internal/bytealg.MakeNoZero", "internal/bytealg.abigen_runtime_cmpstring", "slices.overlaps[string]"], unfollowed := true, recurses := true, apart := false }
def BlinkEntersSaid : Prop := blinkEntersRow.holds Tryz.pinned (OpenSpec.ofChange blinkEntersSpec)

/-- ITS FALSE NEIGHBOUR: 'it returns false'. Refute it at one input. -/
def blinkEntersWrong : ChangeSpec := { name := "blinkEnters", fn := fun _ => fun
  | [d1, d2, d3] => { results := [.lit (.bool false)], args := [d1, d2, d3] }
  | _ => none }
def BlinkEntersWrongFalsely : Prop := blinkEntersRow.holds Tryz.pinned (OpenSpec.ofChange blinkEntersWrong)

/-- 'almonrylaw15.BlinkGoes': WHATEVER THE INPUT: true; the input reads as it did. -/
def blinkGoesSpec : ChangeSpec := { name := "blinkGoes", fn := fun _ => fun
  | [d1, d2, d3] => { results := [.lit (.bool true)], args := [d1, d2, d3] }
  | _ => none }
def blinkGoesRow : OpenClaim := { program := "ytaninphcgeaepaagreat", sum := "fc3d40a7d6bdaed5345a98eb060f1ee78758642624db1884f8c16588d60e8a5b", func := "almonry/almonrylaw15.BlinkGoes", spec := "blinkGoes", inPlace := ["internal/abi.NoEscape", "internal/bytealg.MakeNoZero", "internal/bytealg.abigen_runtime_cmpstring", "slices.overlaps[string]"], unfollowed := true, recurses := true, apart := false }
def BlinkGoesSaid : Prop := blinkGoesRow.holds Tryz.pinned (OpenSpec.ofChange blinkGoesSpec)

/-- ITS FALSE NEIGHBOUR: 'it returns false'. Refute it at one input. -/
def blinkGoesWrong : ChangeSpec := { name := "blinkGoes", fn := fun _ => fun
  | [d1, d2, d3] => { results := [.lit (.bool false)], args := [d1, d2, d3] }
  | _ => none }
def BlinkGoesWrongFalsely : Prop := blinkGoesRow.holds Tryz.pinned (OpenSpec.ofChange blinkGoesWrong)

/- THE SECOND FORM. 'bulk': how many values and letters a reading holds, each counted each time it is reached (what is shared counts as often as it is met; a slice's spare places count too). A statement '..UptoSaid' is the law's where the arguments, and the package variables that the reading takes, are together of bulk at most 1048576: NARROWER than '..Said'. Prove '..Said' where nothing that the law and all that it calls make is longer than what came in: it says more and counts as full. Else prove '..UptoSaid'. A law counts once. -/
mutual
def uptoBulk {H : Type} : DataW H → Nat
  | .lit (.string bytes) => bytes.length + 1
  | .lit _ => 1
  | .nil => 1
  | .ptr d => uptoBulk d + 1
  | .slice elems spare => uptoBulkAll elems + uptoBulkAll spare + 1
  | .agg parts => uptoBulkAll parts + 1
  | .iface _ d => uptoBulk d + 1
  | .map entries => uptoBulkEntries entries + 1
  | .held _ => 1
def uptoBulkAll {H : Type} : List (DataW H) → Nat
  | [] => 0
  | d :: r => uptoBulk d + uptoBulkAll r
def uptoBulkEntries {H : Type} : List (Lit × DataW H) → Nat
  | [] => 0
  | x :: r => uptoBulkEntry x + uptoBulkEntries r
def uptoBulkEntry {H : Type} : Lit × DataW H → Nat
  | (.string bytes, d) => bytes.length + uptoBulk d + 1
  | (_, d) => uptoBulk d + 1
 end
def uptoSmall : (H : Type) → List (DataW H) → Bool := fun _ ds => decide (uptoBulkAll ds ≤ 1048576)
def OpenSpec.upto (s : _root_.Go.ChangeSpec) : _root_.Go.OpenSpec := { _root_.Go.OpenSpec.ofChange s with cond := some uptoSmall }

/-- 'almonrylaw15.BlinkEnters', WHERE WHAT IT READS IS OF BULK AT MOST 1048576: true; the input reads as it did. -/
def blinkEntersUptoRow : OpenClaim := { program := "ytaninphcgeaepaagreat", sum := "fc3d40a7d6bdaed5345a98eb060f1ee78758642624db1884f8c16588d60e8a5b", func := "almonry/almonrylaw15.BlinkEnters", spec := "blinkEnters", inPlace := ["internal/abi.NoEscape", "internal/bytealg.MakeNoZero", "internal/bytealg.abigen_runtime_cmpstring", "slices.overlaps[string]"], unfollowed := true, recurses := true, apart := false, narrowed := true }
def BlinkEntersUptoSaid : Prop := blinkEntersUptoRow.holds Tryz.pinned (OpenSpec.upto blinkEntersSpec)

/-- 'almonrylaw15.BlinkGoes', WHERE WHAT IT READS IS OF BULK AT MOST 1048576: true; the input reads as it did. -/
def blinkGoesUptoRow : OpenClaim := { program := "ytaninphcgeaepaagreat", sum := "fc3d40a7d6bdaed5345a98eb060f1ee78758642624db1884f8c16588d60e8a5b", func := "almonry/almonrylaw15.BlinkGoes", spec := "blinkGoes", inPlace := ["internal/abi.NoEscape", "internal/bytealg.MakeNoZero", "internal/bytealg.abigen_runtime_cmpstring", "slices.overlaps[string]"], unfollowed := true, recurses := true, apart := false, narrowed := true }
def BlinkGoesUptoSaid : Prop := blinkGoesUptoRow.holds Tryz.pinned (OpenSpec.upto blinkGoesSpec)

end Rows
end Go.Proofs.YtaninphcgeaepaaGreat
