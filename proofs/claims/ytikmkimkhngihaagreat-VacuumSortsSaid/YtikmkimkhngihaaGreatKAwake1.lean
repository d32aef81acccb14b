
import Derived.Test.YtikmkimkhngihaaGreatKView2
import Derived.Test.YtikmkimkhngihaaGreatKPage1
import Derived.Test.YtikmkimkhngihaaGreatKSame2
/- almonrylaw20.awake: what the example comes to. -/
namespace Go.Proofs.YtikmkimkhngihaaGreat
open Go.RowKit

def saidA : List (Int × Nat) := [(1, 2), (2, 3), (3, 2)]
def vwA : Vw := ⟨0, 4, [3], 0, [4], noPg⟩
def slotsA : List Sl := [⟨2, 1, 0, false, [97], [], []⟩, ⟨2, 2, 0, false, [98], [], []⟩, sl0, ⟨1, 0, 0, false, [107], [], []⟩, ⟨2, 1, 2, false, [99], [], []⟩]
def wantA : Wk := ⟨[0, 4], [4], [([98], 7, 1), ([107], 7, 3)]⟩
theorem awake_view : (viewS 16 1 saidA vwA).2 = true := by kernel_rfl
theorem awake_sort : sameW (sortS (viewS 16 1 saidA vwA).1 4 7 (pageS slotsA)) wantA = true := by kernel_rfl

end Go.Proofs.YtikmkimkhngihaaGreat
