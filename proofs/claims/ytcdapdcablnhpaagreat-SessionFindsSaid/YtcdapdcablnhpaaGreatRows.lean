/-
  No cell of these rows narrows 'for every input' (looked for: loops, veiled, ifaces, maps, wideKeys, modest, calm, conditions, laid).
  DERIVED. THE GIVEN ROWS OF THIS SEAT. 6 by the template 'for every input the law returns true; each argument reads behind the call as it read before'; 0 by the template 'total and deterministic' (their statements: YtcdapdcablnhpaaGreatTotals.lean).
  GIVEN WITH THE SEED: the statements are not yours to turn. If you find one false, say at which input.
  Laid BY PROGRAM, IN A SANDBOX (cutbox-rows.mjs): the forced cells as the released guide's own fill.sh prints them over the translation 5bb08702c3ba5b63… (all of the seat's roots in one cut). By AI agents, Wed Nov 11 2026. No macro, syntax, notation, axiom, sorry.
-/
import Derived.Test.YtcdapdcablnhpaaGreatChecked
import GoSem.Claim
import GoSem.ClaimJoined
import GoSem.ClaimMapViews
import Derived.JoinedTies
import Derived.KernelRfl
namespace Go.Proofs.YtcdapdcablnhpaaGreat
/- THE CELL 'sum', in the pinned program and in every row, IS THE sha256 OF THE DUMP (.gsa) THAT YtcdapdcablnhpaaGreatProg.lean LOADS. Nothing in Lean hashes anything: it is a label: what it is worth is what the hold of that sum in a sandbox is worth. -/
noncomputable def Tryz.pinned : Pinned := { name := "ytcdapdcablnhpaagreat", sum := "5bb08702c3ba5b63ef870affd31387286fbaff9d8ab91a0eaf73fa936876696c", checked := Tryz.checked }
namespace Rows
def none {H : Type} : Left H := { results := [], args := [] }

/-- 'almonrylaw19.SessionFinds': WHATEVER THE INPUT: true; the input reads as it did. -/
def sessionFindsSpec : ChangeSpec := { name := "sessionFinds", fn := fun _ => fun
  | [d1, d2, d3] => { results := [.lit (.bool true)], args := [d1, d2, d3] }
  | _ => none }
def sessionFindsRow : OpenClaim := { program := "ytcdapdcablnhpaagreat", sum := "5bb08702c3ba5b63ef870affd31387286fbaff9d8ab91a0eaf73fa936876696c", func := "almonry/almonrylaw19.SessionFinds", spec := "sessionFinds", inPlace := ["internal/abi.NoEscape", "internal/bytealg.MakeNoZero", "internal/bytealg.abigen_runtime_cmpstring", "slices.overlaps[string]"], unfollowed := true, recurses := true, apart := false }
def SessionFindsSaid : Prop := sessionFindsRow.holds Tryz.pinned (OpenSpec.ofChange sessionFindsSpec)

/-- ITS FALSE NEIGHBOUR: 'it returns false'. Refute it at one input. -/
def sessionFindsWrong : ChangeSpec := { name := "sessionFinds", fn := fun _ => fun
  | [d1, d2, d3] => { results := [.lit (.bool false)], args := [d1, d2, d3] }
  | _ => none }
def SessionFindsWrongFalsely : Prop := sessionFindsRow.holds Tryz.pinned (OpenSpec.ofChange sessionFindsWrong)

/-- 'almonrylaw19.SessionReads': WHATEVER THE INPUT: true; the input reads as it did. -/
def sessionReadsSpec : ChangeSpec := { name := "sessionReads", fn := fun _ => fun
  | [d1, d2] => { results := [.lit (.bool true)], args := [d1, d2] }
  | _ => none }
def sessionReadsRow : OpenClaim := { program := "ytcdapdcablnhpaagreat", sum := "5bb08702c3ba5b63ef870affd31387286fbaff9d8ab91a0eaf73fa936876696c", func := "almonry/almonrylaw19.SessionReads", spec := "sessionReads", inPlace := ["internal/abi.NoEscape", "internal/bytealg.MakeNoZero", "internal/bytealg.abigen_runtime_cmpstring", "slices.overlaps[string]"], unfollowed := true, recurses := true, apart := false }
def SessionReadsSaid : Prop := sessionReadsRow.holds Tryz.pinned (OpenSpec.ofChange sessionReadsSpec)

/-- ITS FALSE NEIGHBOUR: 'it returns false'. Refute it at one input. -/
def sessionReadsWrong : ChangeSpec := { name := "sessionReads", fn := fun _ => fun
  | [d1, d2] => { results := [.lit (.bool false)], args := [d1, d2] }
  | _ => none }
def SessionReadsWrongFalsely : Prop := sessionReadsRow.holds Tryz.pinned (OpenSpec.ofChange sessionReadsWrong)

/-- 'almonrylaw19.SessionLocks': WHATEVER THE INPUT: true; the input reads as it did. -/
def sessionLocksSpec : ChangeSpec := { name := "sessionLocks", fn := fun _ => fun
  | [d1, d2, d3] => { results := [.lit (.bool true)], args := [d1, d2, d3] }
  | _ => none }
def sessionLocksRow : OpenClaim := { program := "ytcdapdcablnhpaagreat", sum := "5bb08702c3ba5b63ef870affd31387286fbaff9d8ab91a0eaf73fa936876696c", func := "almonry/almonrylaw19.SessionLocks", spec := "sessionLocks", inPlace := ["internal/abi.NoEscape", "internal/bytealg.MakeNoZero", "internal/bytealg.abigen_runtime_cmpstring", "slices.overlaps[string]"], unfollowed := true, recurses := true, apart := false }
def SessionLocksSaid : Prop := sessionLocksRow.holds Tryz.pinned (OpenSpec.ofChange sessionLocksSpec)

/-- ITS FALSE NEIGHBOUR: 'it returns false'. Refute it at one input. -/
def sessionLocksWrong : ChangeSpec := { name := "sessionLocks", fn := fun _ => fun
  | [d1, d2, d3] => { results := [.lit (.bool false)], args := [d1, d2, d3] }
  | _ => none }
def SessionLocksWrongFalsely : Prop := sessionLocksRow.holds Tryz.pinned (OpenSpec.ofChange sessionLocksWrong)

/-- 'almonrylaw19.SessionEnds': WHATEVER THE INPUT: true; the input reads as it did. -/
def sessionEndsSpec : ChangeSpec := { name := "sessionEnds", fn := fun _ => fun
  | [d1, d2, d3] => { results := [.lit (.bool true)], args := [d1, d2, d3] }
  | _ => none }
def sessionEndsRow : OpenClaim := { program := "ytcdapdcablnhpaagreat", sum := "5bb08702c3ba5b63ef870affd31387286fbaff9d8ab91a0eaf73fa936876696c", func := "almonry/almonrylaw19.SessionEnds", spec := "sessionEnds", inPlace := ["internal/abi.NoEscape", "internal/bytealg.MakeNoZero", "internal/bytealg.abigen_runtime_cmpstring", "slices.overlaps[string]"], unfollowed := true, recurses := true, apart := false }
def SessionEndsSaid : Prop := sessionEndsRow.holds Tryz.pinned (OpenSpec.ofChange sessionEndsSpec)

/-- ITS FALSE NEIGHBOUR: 'it returns false'. Refute it at one input. -/
def sessionEndsWrong : ChangeSpec := { name := "sessionEnds", fn := fun _ => fun
  | [d1, d2, d3] => { results := [.lit (.bool false)], args := [d1, d2, d3] }
  | _ => none }
def SessionEndsWrongFalsely : Prop := sessionEndsRow.holds Tryz.pinned (OpenSpec.ofChange sessionEndsWrong)

/-- 'almonrylaw19.SessionPlans': WHATEVER THE INPUT: true; the input reads as it did. -/
def sessionPlansSpec : ChangeSpec := { name := "sessionPlans", fn := fun _ => fun
  | [d1, d2, d3] => { results := [.lit (.bool true)], args := [d1, d2, d3] }
  | _ => none }
def sessionPlansRow : OpenClaim := { program := "ytcdapdcablnhpaagreat", sum := "5bb08702c3ba5b63ef870affd31387286fbaff9d8ab91a0eaf73fa936876696c", func := "almonry/almonrylaw19.SessionPlans", spec := "sessionPlans", inPlace := ["internal/abi.NoEscape", "internal/bytealg.MakeNoZero", "internal/bytealg.abigen_runtime_cmpstring", "slices.overlaps[string]"], unfollowed := true, recurses := true, apart := false }
def SessionPlansSaid : Prop := sessionPlansRow.holds Tryz.pinned (OpenSpec.ofChange sessionPlansSpec)

/-- ITS FALSE NEIGHBOUR: 'it returns false'. Refute it at one input. -/
def sessionPlansWrong : ChangeSpec := { name := "sessionPlans", fn := fun _ => fun
  | [d1, d2, d3] => { results := [.lit (.bool false)], args := [d1, d2, d3] }
  | _ => none }
def SessionPlansWrongFalsely : Prop := sessionPlansRow.holds Tryz.pinned (OpenSpec.ofChange sessionPlansWrong)

/-- 'almonrylaw19.SessionNil': WHATEVER THE INPUT: true; the input reads as it did. -/
def sessionNilSpec : ChangeSpec := { name := "sessionNil", fn := fun _ => fun
  | [d] => { results := [.lit (.bool true)], args := [d] }
  | _ => none }
def sessionNilRow : OpenClaim := { program := "ytcdapdcablnhpaagreat", sum := "5bb08702c3ba5b63ef870affd31387286fbaff9d8ab91a0eaf73fa936876696c", func := "almonry/almonrylaw19.SessionNil", spec := "sessionNil", inPlace := ["internal/abi.NoEscape", "internal/bytealg.MakeNoZero", "internal/bytealg.abigen_runtime_cmpstring", "slices.overlaps[string]"], unfollowed := true, recurses := true, apart := false }
def SessionNilSaid : Prop := sessionNilRow.holds Tryz.pinned (OpenSpec.ofChange sessionNilSpec)

/-- ITS FALSE NEIGHBOUR: 'it returns false'. Refute it at one input. -/
def sessionNilWrong : ChangeSpec := { name := "sessionNil", fn := fun _ => fun
  | [d] => { results := [.lit (.bool false)], args := [d] }
  | _ => none }
def SessionNilWrongFalsely : Prop := sessionNilRow.holds Tryz.pinned (OpenSpec.ofChange sessionNilWrong)

/- THE SECOND FORM. 'bulk': how many values and letters a reading holds, each counted each time it is reached (what is shared counts as often as it is met; a slice's spare places count too). A statement '..UptoSaid' is the law's where the arguments, and the package variables that the reading takes, are together of bulk at most 1048576: NARROWER than '..Said'. Prove '..Said' where nothing that the law and all that it calls make is longer than what came in: it says more and counts as full. Else prove '..UptoSaid'. A law counts once. -/
mutual
def uptoBulk {H : Type} : DataW H → Nat
  | .lit (.string bytes) => bytes.length + 1
  | .lit _ => 1
  | .nil => 1
  | .ptr d => uptoBulk d + 1
  | .slice elems spare => uptoBulkAll elems + uptoBulkAll spare + 1
  | .agg parts => uptoBulkAll parts + 1
  | .iface _ d => uptoBulk d + 1
  | .map entries => uptoBulkEntries entries + 1
  | .held _ => 1
def uptoBulkAll {H : Type} : List (DataW H) → Nat
  | [] => 0
  | d :: r => uptoBulk d + uptoBulkAll r
def uptoBulkEntries {H : Type} : List (Lit × DataW H) → Nat
  | [] => 0
  | x :: r => uptoBulkEntry x + uptoBulkEntries r
def uptoBulkEntry {H : Type} : Lit × DataW H → Nat
  | (.string bytes, d) => bytes.length + uptoBulk d + 1
  | (_, d) => uptoBulk d + 1
 end
def uptoSmall : (H : Type) → List (DataW H) → Bool := fun _ ds => decide (uptoBulkAll ds ≤ 1048576)
def OpenSpec.upto (s : _root_.Go.ChangeSpec) : _root_.Go.OpenSpec := { _root_.Go.OpenSpec.ofChange s with cond := some uptoSmall }

/-- 'almonrylaw19.SessionFinds', WHERE WHAT IT READS IS OF BULK AT MOST 1048576: true; the input reads as it did. -/
def sessionFindsUptoRow : OpenClaim := { program := "ytcdapdcablnhpaagreat", sum := "5bb08702c3ba5b63ef870affd31387286fbaff9d8ab91a0eaf73fa936876696c", func := "almonry/almonrylaw19.SessionFinds", spec := "sessionFinds", inPlace := ["internal/abi.NoEscape", "internal/bytealg.MakeNoZero", "internal/bytealg.abigen_runtime_cmpstring", "slices.overlaps[string]"], unfollowed := true, recurses := true, apart := false, narrowed := true }
def SessionFindsUptoSaid : Prop := sessionFindsUptoRow.holds Tryz.pinned (OpenSpec.upto sessionFindsSpec)

/-- 'almonrylaw19.SessionReads', WHERE WHAT IT READS IS OF BULK AT MOST 1048576: true; the input reads as it did. -/
def sessionReadsUptoRow : OpenClaim := { program := "ytcdapdcablnhpaagreat", sum := "5bb08702c3ba5b63ef870affd31387286fbaff9d8ab91a0eaf73fa936876696c", func := "almonry/almonrylaw19.SessionReads", spec := "sessionReads", inPlace := ["internal/abi.NoEscape", "internal/bytealg.MakeNoZero", "internal/bytealg.abigen_runtime_cmpstring", "slices.overlaps[string]"], unfollowed := true, recurses := true, apart := false, narrowed := true }
def SessionReadsUptoSaid : Prop := sessionReadsUptoRow.holds Tryz.pinned (OpenSpec.upto sessionReadsSpec)

/-- 'almonrylaw19.SessionLocks', WHERE WHAT IT READS IS OF BULK AT MOST 1048576: true; the input reads as it did. -/
def sessionLocksUptoRow : OpenClaim := { program := "ytcdapdcablnhpaagreat", sum := "5bb08702c3ba5b63ef870affd31387286fbaff9d8ab91a0eaf73fa936876696c", func := "almonry/almonrylaw19.SessionLocks", spec := "sessionLocks", inPlace := ["internal/abi.NoEscape", "internal/bytealg.MakeNoZero", "internal/bytealg.abigen_runtime_cmpstring", "slices.overlaps[string]"], unfollowed := true, recurses := true, apart := false, narrowed := true }
def SessionLocksUptoSaid : Prop := sessionLocksUptoRow.holds Tryz.pinned (OpenSpec.upto sessionLocksSpec)

/-- 'almonrylaw19.SessionEnds', WHERE WHAT IT READS IS OF BULK AT MOST 1048576: true; the input reads as it did. -/
def sessionEndsUptoRow : OpenClaim := { program := "ytcdapdcablnhpaagreat", sum := "5bb08702c3ba5b63ef870affd31387286fbaff9d8ab91a0eaf73fa936876696c", func := "almonry/almonrylaw19.SessionEnds", spec := "sessionEnds", inPlace := ["internal/abi.NoEscape", "internal/bytealg.MakeNoZero", "internal/bytealg.abigen_runtime_cmpstring", "slices.overlaps[string]"], unfollowed := true, recurses := true, apart := false, narrowed := true }
def SessionEndsUptoSaid : Prop := sessionEndsUptoRow.holds Tryz.pinned (OpenSpec.upto sessionEndsSpec)

/-- 'almonrylaw19.SessionPlans', WHERE WHAT IT READS IS OF BULK AT MOST 1048576: true; the input reads as it did. -/
def sessionPlansUptoRow : OpenClaim := { program := "ytcdapdcablnhpaagreat", sum := "5bb08702c3ba5b63ef870affd31387286fbaff9d8ab91a0eaf73fa936876696c", func := "almonry/almonrylaw19.SessionPlans", spec := "sessionPlans", inPlace := ["internal/abi.NoEscape", "internal/bytealg.MakeNoZero", "internal/bytealg.abigen_runtime_cmpstring", "slices.overlaps[string]"], unfollowed := true, recurses := true, apart := false, narrowed := true }
def SessionPlansUptoSaid : Prop := sessionPlansUptoRow.holds Tryz.pinned (OpenSpec.upto sessionPlansSpec)

/-- 'almonrylaw19.SessionNil', WHERE WHAT IT READS IS OF BULK AT MOST 1048576: true; the input reads as it did. -/
def sessionNilUptoRow : OpenClaim := { program := "ytcdapdcablnhpaagreat", sum := "5bb08702c3ba5b63ef870affd31387286fbaff9d8ab91a0eaf73fa936876696c", func := "almonry/almonrylaw19.SessionNil", spec := "sessionNil", inPlace := ["internal/abi.NoEscape", "internal/bytealg.MakeNoZero", "internal/bytealg.abigen_runtime_cmpstring", "slices.overlaps[string]"], unfollowed := true, recurses := true, apart := false, narrowed := true }
def SessionNilUptoSaid : Prop := sessionNilUptoRow.holds Tryz.pinned (OpenSpec.upto sessionNilSpec)

end Rows
end Go.Proofs.YtcdapdcablnhpaaGreat
