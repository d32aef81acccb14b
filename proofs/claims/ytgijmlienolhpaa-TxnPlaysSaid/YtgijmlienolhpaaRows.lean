/-
  No cell of these rows narrows 'for every input' (looked for: loops, veiled, ifaces, maps, wideKeys, modest, calm, conditions, laid).
  DERIVED. THE GIVEN ROWS OF THIS SEAT. 5 by the template 'for every input the law returns true; each argument reads behind the call as it read before'; 0 by the template 'total and deterministic' (their statements: YtgijmlienolhpaaTotals.lean).
  GIVEN WITH THE SEED: the statements are not yours to turn. If you find one false, say at which input.
  Laid BY PROGRAM, IN A SANDBOX (cutbox-rows.mjs): the forced cells as the released guide's own fill.sh prints them over the translation 7eb5f005f4a90e8a… (all of the seat's roots in one cut). By AI agents, Wed Nov 11 2026. No macro, syntax, notation, axiom, sorry.
-/
import Derived.Test.YtgijmlienolhpaaChecked
import GoSem.Claim
import GoSem.ClaimJoined
import GoSem.ClaimMapViews
import Derived.JoinedTies
import Derived.KernelRfl
namespace Go.Proofs.Ytgijmlienolhpaa
/- THE CELL 'sum', in the pinned program and in every row, IS THE sha256 OF THE DUMP (.gsa) THAT YtgijmlienolhpaaProg.lean LOADS. Nothing in Lean hashes anything: it is a label: what it is worth is what the hold of that sum in a sandbox is worth. -/
noncomputable def Try.pinned : Pinned := { name := "ytgijmlienolhpaa", sum := "7eb5f005f4a90e8a6e934a1684550aa4dcc5aac6cd4ae1b254a50cd04349c262", checked := Try.checked }
namespace Rows
def none {H : Type} : Left H := { results := [], args := [] }

/-- 'almonrylaw18.TxnOldest': WHATEVER THE INPUT: true; the input reads as it did. -/
def txnOldestSpec : ChangeSpec := { name := "txnOldest", fn := fun _ => fun
  | [d] => { results := [.lit (.bool true)], args := [d] }
  | _ => none }
def txnOldestRow : OpenClaim := { program := "ytgijmlienolhpaa", sum := "7eb5f005f4a90e8a6e934a1684550aa4dcc5aac6cd4ae1b254a50cd04349c262", func := "almonry/almonrylaw18.TxnOldest", spec := "txnOldest", unfollowed := true, recurses := true, apart := false }
def TxnOldestSaid : Prop := txnOldestRow.holds Try.pinned (OpenSpec.ofChange txnOldestSpec)

/-- ITS FALSE NEIGHBOUR: 'it returns false'. Refute it at one input. -/
def txnOldestWrong : ChangeSpec := { name := "txnOldest", fn := fun _ => fun
  | [d] => { results := [.lit (.bool false)], args := [d] }
  | _ => none }
def TxnOldestWrongFalsely : Prop := txnOldestRow.holds Try.pinned (OpenSpec.ofChange txnOldestWrong)

/-- 'almonrylaw18.TxnPlays': WHATEVER THE INPUT: true; the input reads as it did. -/
def txnPlaysSpec : ChangeSpec := { name := "txnPlays", fn := fun _ => fun
  | [d] => { results := [.lit (.bool true)], args := [d] }
  | _ => none }
def txnPlaysRow : OpenClaim := { program := "ytgijmlienolhpaa", sum := "7eb5f005f4a90e8a6e934a1684550aa4dcc5aac6cd4ae1b254a50cd04349c262", func := "almonry/almonrylaw18.TxnPlays", spec := "txnPlays", unfollowed := true, recurses := true, apart := false }
def TxnPlaysSaid : Prop := txnPlaysRow.holds Try.pinned (OpenSpec.ofChange txnPlaysSpec)

/-- ITS FALSE NEIGHBOUR: 'it returns false'. Refute it at one input. -/
def txnPlaysWrong : ChangeSpec := { name := "txnPlays", fn := fun _ => fun
  | [d] => { results := [.lit (.bool false)], args := [d] }
  | _ => none }
def TxnPlaysWrongFalsely : Prop := txnPlaysRow.holds Try.pinned (OpenSpec.ofChange txnPlaysWrong)

/-- 'almonrylaw18.TxnAlone': WHATEVER THE INPUT: true; the input reads as it did. -/
def txnAloneSpec : ChangeSpec := { name := "txnAlone", fn := fun _ => fun
  | [d1, d2, d3] => { results := [.lit (.bool true)], args := [d1, d2, d3] }
  | _ => none }
def txnAloneRow : OpenClaim := { program := "ytgijmlienolhpaa", sum := "7eb5f005f4a90e8a6e934a1684550aa4dcc5aac6cd4ae1b254a50cd04349c262", func := "almonry/almonrylaw18.TxnAlone", spec := "txnAlone", unfollowed := true, recurses := true, apart := false }
def TxnAloneSaid : Prop := txnAloneRow.holds Try.pinned (OpenSpec.ofChange txnAloneSpec)

/-- ITS FALSE NEIGHBOUR: 'it returns false'. Refute it at one input. -/
def txnAloneWrong : ChangeSpec := { name := "txnAlone", fn := fun _ => fun
  | [d1, d2, d3] => { results := [.lit (.bool false)], args := [d1, d2, d3] }
  | _ => none }
def TxnAloneWrongFalsely : Prop := txnAloneRow.holds Try.pinned (OpenSpec.ofChange txnAloneWrong)

/-- 'almonrylaw18.TxnNil': WHATEVER THE INPUT: true; the input reads as it did. -/
def txnNilSpec : ChangeSpec := { name := "txnNil", fn := fun _ => fun
  | [d] => { results := [.lit (.bool true)], args := [d] }
  | _ => none }
def txnNilRow : OpenClaim := { program := "ytgijmlienolhpaa", sum := "7eb5f005f4a90e8a6e934a1684550aa4dcc5aac6cd4ae1b254a50cd04349c262", func := "almonry/almonrylaw18.TxnNil", spec := "txnNil", unfollowed := true, recurses := true, apart := false }
def TxnNilSaid : Prop := txnNilRow.holds Try.pinned (OpenSpec.ofChange txnNilSpec)

/-- ITS FALSE NEIGHBOUR: 'it returns false'. Refute it at one input. -/
def txnNilWrong : ChangeSpec := { name := "txnNil", fn := fun _ => fun
  | [d] => { results := [.lit (.bool false)], args := [d] }
  | _ => none }
def TxnNilWrongFalsely : Prop := txnNilRow.holds Try.pinned (OpenSpec.ofChange txnNilWrong)

/-- 'almonrylaw18.TxnBegun': WHATEVER THE INPUT: true; the input reads as it did. -/
def txnBegunSpec : ChangeSpec := { name := "txnBegun", fn := fun _ => fun
  | [d] => { results := [.lit (.bool true)], args := [d] }
  | _ => none }
def txnBegunRow : OpenClaim := { program := "ytgijmlienolhpaa", sum := "7eb5f005f4a90e8a6e934a1684550aa4dcc5aac6cd4ae1b254a50cd04349c262", func := "almonry/almonrylaw18.TxnBegun", spec := "txnBegun", unfollowed := true, recurses := true, apart := false }
def TxnBegunSaid : Prop := txnBegunRow.holds Try.pinned (OpenSpec.ofChange txnBegunSpec)

/-- ITS FALSE NEIGHBOUR: 'it returns false'. Refute it at one input. -/
def txnBegunWrong : ChangeSpec := { name := "txnBegun", fn := fun _ => fun
  | [d] => { results := [.lit (.bool false)], args := [d] }
  | _ => none }
def TxnBegunWrongFalsely : Prop := txnBegunRow.holds Try.pinned (OpenSpec.ofChange txnBegunWrong)

/- THE SECOND FORM. 'bulk': how many values and letters a reading holds, each counted each time it is reached (what is shared counts as often as it is met; a slice's spare places count too). A statement '..UptoSaid' is the law's where the arguments, and the package variables that the reading takes, are together of bulk at most 1048576: NARROWER than '..Said'. Prove '..Said' where nothing that the law and all that it calls make is longer than what came in: it says more and counts as full. Else prove '..UptoSaid'. A law counts once. -/
mutual
def uptoBulk {H : Type} : DataW H → Nat
  | .lit (.string bytes) => bytes.length + 1
  | .lit _ => 1
  | .nil => 1
  | .ptr d => uptoBulk d + 1
  | .slice elems spare => uptoBulkAll elems + uptoBulkAll spare + 1
  | .agg parts => uptoBulkAll parts + 1
  | .iface _ d => uptoBulk d + 1
  | .map entries => uptoBulkEntries entries + 1
  | .held _ => 1
def uptoBulkAll {H : Type} : List (DataW H) → Nat
  | [] => 0
  | d :: r => uptoBulk d + uptoBulkAll r
def uptoBulkEntries {H : Type} : List (Lit × DataW H) → Nat
  | [] => 0
  | x :: r => uptoBulkEntry x + uptoBulkEntries r
def uptoBulkEntry {H : Type} : Lit × DataW H → Nat
  | (.string bytes, d) => bytes.length + uptoBulk d + 1
  | (_, d) => uptoBulk d + 1
 end
def uptoSmall : (H : Type) → List (DataW H) → Bool := fun _ ds => decide (uptoBulkAll ds ≤ 1048576)
def OpenSpec.upto (s : _root_.Go.ChangeSpec) : _root_.Go.OpenSpec := { _root_.Go.OpenSpec.ofChange s with cond := some uptoSmall }

/-- 'almonrylaw18.TxnOldest', WHERE WHAT IT READS IS OF BULK AT MOST 1048576: true; the input reads as it did. -/
def txnOldestUptoRow : OpenClaim := { program := "ytgijmlienolhpaa", sum := "7eb5f005f4a90e8a6e934a1684550aa4dcc5aac6cd4ae1b254a50cd04349c262", func := "almonry/almonrylaw18.TxnOldest", spec := "txnOldest", unfollowed := true, recurses := true, apart := false, narrowed := true }
def TxnOldestUptoSaid : Prop := txnOldestUptoRow.holds Try.pinned (OpenSpec.upto txnOldestSpec)

/-- 'almonrylaw18.TxnPlays', WHERE WHAT IT READS IS OF BULK AT MOST 1048576: true; the input reads as it did. -/
def txnPlaysUptoRow : OpenClaim := { program := "ytgijmlienolhpaa", sum := "7eb5f005f4a90e8a6e934a1684550aa4dcc5aac6cd4ae1b254a50cd04349c262", func := "almonry/almonrylaw18.TxnPlays", spec := "txnPlays", unfollowed := true, recurses := true, apart := false, narrowed := true }
def TxnPlaysUptoSaid : Prop := txnPlaysUptoRow.holds Try.pinned (OpenSpec.upto txnPlaysSpec)

/-- 'almonrylaw18.TxnAlone', WHERE WHAT IT READS IS OF BULK AT MOST 1048576: true; the input reads as it did. -/
def txnAloneUptoRow : OpenClaim := { program := "ytgijmlienolhpaa", sum := "7eb5f005f4a90e8a6e934a1684550aa4dcc5aac6cd4ae1b254a50cd04349c262", func := "almonry/almonrylaw18.TxnAlone", spec := "txnAlone", unfollowed := true, recurses := true, apart := false, narrowed := true }
def TxnAloneUptoSaid : Prop := txnAloneUptoRow.holds Try.pinned (OpenSpec.upto txnAloneSpec)

/-- 'almonrylaw18.TxnNil', WHERE WHAT IT READS IS OF BULK AT MOST 1048576: true; the input reads as it did. -/
def txnNilUptoRow : OpenClaim := { program := "ytgijmlienolhpaa", sum := "7eb5f005f4a90e8a6e934a1684550aa4dcc5aac6cd4ae1b254a50cd04349c262", func := "almonry/almonrylaw18.TxnNil", spec := "txnNil", unfollowed := true, recurses := true, apart := false, narrowed := true }
def TxnNilUptoSaid : Prop := txnNilUptoRow.holds Try.pinned (OpenSpec.upto txnNilSpec)

/-- 'almonrylaw18.TxnBegun', WHERE WHAT IT READS IS OF BULK AT MOST 1048576: true; the input reads as it did. -/
def txnBegunUptoRow : OpenClaim := { program := "ytgijmlienolhpaa", sum := "7eb5f005f4a90e8a6e934a1684550aa4dcc5aac6cd4ae1b254a50cd04349c262", func := "almonry/almonrylaw18.TxnBegun", spec := "txnBegun", unfollowed := true, recurses := true, apart := false, narrowed := true }
def TxnBegunUptoSaid : Prop := txnBegunUptoRow.holds Try.pinned (OpenSpec.upto txnBegunSpec)

end Rows
end Go.Proofs.Ytgijmlienolhpaa
