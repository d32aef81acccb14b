/-
  No cell of these rows narrows 'for every input' (looked for: loops, veiled, ifaces, maps, wideKeys, modest, calm, conditions, laid).
  DERIVED. THE GIVEN ROWS OF THIS SEAT. 3 by the template 'for every input the law returns true; each argument reads behind the call as it read before'; 0 by the template 'total and deterministic' (their statements: YtaninphcgeaepaaTotals.lean).
  GIVEN WITH THE SEED: the statements are not yours to turn. If you find one false, say at which input.
  Laid BY PROGRAM, IN A SANDBOX (cutbox-rows.mjs): the forced cells as the released guide's own fill.sh prints them over the translation dae8073cd02629ca… (all of the seat's roots in one cut). By AI agents, Wed Nov 11 2026. No macro, syntax, notation, axiom, sorry.
-/
import Derived.Test.YtaninphcgeaepaaChecked
import GoSem.Claim
import GoSem.ClaimJoined
import GoSem.ClaimMapViews
import Derived.JoinedTies
import Derived.KernelRfl
namespace Go.Proofs.Ytaninphcgeaepaa
/- THE CELL 'sum', in the pinned program and in every row, IS THE sha256 OF THE DUMP (.gsa) THAT YtaninphcgeaepaaProg.lean LOADS. Nothing in Lean hashes anything: it is a label: what it is worth is what the hold of that sum in a sandbox is worth. -/
noncomputable def Try.pinned : Pinned := { name := "ytaninphcgeaepaa", sum := "dae8073cd02629cab8f19d53e3ddd807a911a3c299abafb38b8eefd820a22f8a", checked := Try.checked }
namespace Rows
def none {H : Type} : Left H := { results := [], args := [] }

/-- 'almonrylaw15.BlinkFinds': WHATEVER THE INPUT: true; the input reads as it did. -/
def blinkFindsSpec : ChangeSpec := { name := "blinkFinds", fn := fun _ => fun
  | [d1, d2] => { results := [.lit (.bool true)], args := [d1, d2] }
  | _ => none }
def blinkFindsRow : OpenClaim := { program := "ytaninphcgeaepaa", sum := "dae8073cd02629cab8f19d53e3ddd807a911a3c299abafb38b8eefd820a22f8a", func := "almonry/almonrylaw15.BlinkFinds", spec := "blinkFinds", inPlace := ["internal/abi.NoEscape", "internal/bytealg.MakeNoZero", "internal/bytealg.abigen_runtime_cmpstring", "slices.overlaps[string]"], unfollowed := true, recurses := true, apart := false }
def BlinkFindsSaid : Prop := blinkFindsRow.holds Try.pinned (OpenSpec.ofChange blinkFindsSpec)

/-- ITS FALSE NEIGHBOUR: 'it returns false'. Refute it at one input. -/
def blinkFindsWrong : ChangeSpec := { name := "blinkFinds", fn := fun _ => fun
  | [d1, d2] => { results := [.lit (.bool false)], args := [d1, d2] }
  | _ => none }
def BlinkFindsWrongFalsely : Prop := blinkFindsRow.holds Try.pinned (OpenSpec.ofChange blinkFindsWrong)

/-- 'almonrylaw15.BlinkScans': WHATEVER THE INPUT: true; the input reads as it did. -/
def blinkScansSpec : ChangeSpec := { name := "blinkScans", fn := fun _ => fun
  | [d1, d2] => { results := [.lit (.bool true)], args := [d1, d2] }
  | _ => none }
def blinkScansRow : OpenClaim := { program := "ytaninphcgeaepaa", sum := "dae8073cd02629cab8f19d53e3ddd807a911a3c299abafb38b8eefd820a22f8a", func := "almonry/almonrylaw15.BlinkScans", spec := "blinkScans", inPlace := ["internal/abi.NoEscape", "internal/bytealg.MakeNoZero", "internal/bytealg.abigen_runtime_cmpstring", "slices.overlaps[string]"], unfollowed := true, recurses := true, apart := false }
def BlinkScansSaid : Prop := blinkScansRow.holds Try.pinned (OpenSpec.ofChange blinkScansSpec)

/-- ITS FALSE NEIGHBOUR: 'it returns false'. Refute it at one input. -/
def blinkScansWrong : ChangeSpec := { name := "blinkScans", fn := fun _ => fun
  | [d1, d2] => { results := [.lit (.bool false)], args := [d1, d2] }
  | _ => none }
def BlinkScansWrongFalsely : Prop := blinkScansRow.holds Try.pinned (OpenSpec.ofChange blinkScansWrong)

/-- 'almonrylaw15.BlinkNeeds': WHATEVER THE INPUT: true; the input reads as it did. -/
def blinkNeedsSpec : ChangeSpec := { name := "blinkNeeds", fn := fun _ => fun
  | [d1, d2] => { results := [.lit (.bool true)], args := [d1, d2] }
  | _ => none }
def blinkNeedsRow : OpenClaim := { program := "ytaninphcgeaepaa", sum := "dae8073cd02629cab8f19d53e3ddd807a911a3c299abafb38b8eefd820a22f8a", func := "almonry/almonrylaw15.BlinkNeeds", spec := "blinkNeeds", inPlace := ["internal/abi.NoEscape", "internal/bytealg.MakeNoZero", "internal/bytealg.abigen_runtime_cmpstring", "slices.overlaps[string]"], unfollowed := true, recurses := true, apart := false }
def BlinkNeedsSaid : Prop := blinkNeedsRow.holds Try.pinned (OpenSpec.ofChange blinkNeedsSpec)

/-- ITS FALSE NEIGHBOUR: 'it returns false'. Refute it at one input. -/
def blinkNeedsWrong : ChangeSpec := { name := "blinkNeeds", fn := fun _ => fun
  | [d1, d2] => { results := [.lit (.bool false)], args := [d1, d2] }
  | _ => none }
def BlinkNeedsWrongFalsely : Prop := blinkNeedsRow.holds Try.pinned (OpenSpec.ofChange blinkNeedsWrong)

/- THE SECOND FORM. 'bulk': how many values and letters a reading holds, each counted each time it is reached (what is shared counts as often as it is met; a slice's spare places count too). A statement '..UptoSaid' is the law's where the arguments, and the package variables that the reading takes, are together of bulk at most 1048576: NARROWER than '..Said'. Prove '..Said' where nothing that the law and all that it calls make is longer than what came in: it says more and counts as full. Else prove '..UptoSaid'. A law counts once. -/
mutual
def uptoBulk {H : Type} : DataW H → Nat
  | .lit (.string bytes) => bytes.length + 1
  | .lit _ => 1
  | .nil => 1
  | .ptr d => uptoBulk d + 1
  | .slice elems spare => uptoBulkAll elems + uptoBulkAll spare + 1
  | .agg parts => uptoBulkAll parts + 1
  | .iface _ d => uptoBulk d + 1
  | .map entries => uptoBulkEntries entries + 1
  | .held _ => 1
def uptoBulkAll {H : Type} : List (DataW H) → Nat
  | [] => 0
  | d :: r => uptoBulk d + uptoBulkAll r
def uptoBulkEntries {H : Type} : List (Lit × DataW H) → Nat
  | [] => 0
  | x :: r => uptoBulkEntry x + uptoBulkEntries r
def uptoBulkEntry {H : Type} : Lit × DataW H → Nat
  | (.string bytes, d) => bytes.length + uptoBulk d + 1
  | (_, d) => uptoBulk d + 1
 end
def uptoSmall : (H : Type) → List (DataW H) → Bool := fun _ ds => decide (uptoBulkAll ds ≤ 1048576)
def OpenSpec.upto (s : _root_.Go.ChangeSpec) : _root_.Go.OpenSpec := { _root_.Go.OpenSpec.ofChange s with cond := some uptoSmall }

/-- 'almonrylaw15.BlinkFinds', WHERE WHAT IT READS IS OF BULK AT MOST 1048576: true; the input reads as it did. -/
def blinkFindsUptoRow : OpenClaim := { program := "ytaninphcgeaepaa", sum := "dae8073cd02629cab8f19d53e3ddd807a911a3c299abafb38b8eefd820a22f8a", func := "almonry/almonrylaw15.BlinkFinds", spec := "blinkFinds", inPlace := ["internal/abi.NoEscape", "internal/bytealg.MakeNoZero", "internal/bytealg.abigen_runtime_cmpstring", "slices.overlaps[string]"], unfollowed := true, recurses := true, apart := false, narrowed := true }
def BlinkFindsUptoSaid : Prop := blinkFindsUptoRow.holds Try.pinned (OpenSpec.upto blinkFindsSpec)

/-- 'almonrylaw15.BlinkScans', WHERE WHAT IT READS IS OF BULK AT MOST 1048576: true; the input reads as it did. -/
def blinkScansUptoRow : OpenClaim := { program := "ytaninphcgeaepaa", sum := "dae8073cd02629cab8f19d53e3ddd807a911a3c299abafb38b8eefd820a22f8a", func := "almonry/almonrylaw15.BlinkScans", spec := "blinkScans", inPlace := ["internal/abi.NoEscape", "internal/bytealg.MakeNoZero", "internal/bytealg.abigen_runtime_cmpstring", "slices.overlaps[string]"], unfollowed := true, recurses := true, apart := false, narrowed := true }
def BlinkScansUptoSaid : Prop := blinkScansUptoRow.holds Try.pinned (OpenSpec.upto blinkScansSpec)

/-- 'almonrylaw15.BlinkNeeds', WHERE WHAT IT READS IS OF BULK AT MOST 1048576: true; the input reads as it did. -/
def blinkNeedsUptoRow : OpenClaim := { program := "ytaninphcgeaepaa", sum := "dae8073cd02629cab8f19d53e3ddd807a911a3c299abafb38b8eefd820a22f8a", func := "almonry/almonrylaw15.BlinkNeeds", spec := "blinkNeeds", inPlace := ["internal/abi.NoEscape", "internal/bytealg.MakeNoZero", "internal/bytealg.abigen_runtime_cmpstring", "slices.overlaps[string]"], unfollowed := true, recurses := true, apart := false, narrowed := true }
def BlinkNeedsUptoSaid : Prop := blinkNeedsUptoRow.holds Try.pinned (OpenSpec.upto blinkNeedsSpec)

end Rows
end Go.Proofs.Ytaninphcgeaepaa
