import Derived.Test.YtmhepfehcakmjaaGreatKQz1
import Derived.Test.YtmhepfehcakmjaaGreatKShl
import Derived.Deep.CutRange
import Derived.Maps.AppendAt
import Derived.Test.YtmhepfehcakmjaaGreatKSp2
namespace Go.Proofs.YtmhepfehcakmjaaGreat
open Go.RowKit
attribute [local go_sem] givesV lookV knAt givesF_none givesF_some evalF_tmp evalF_const evalF_global evalF_func lookL isB_bool isB_undef givesUpon_value givesUpon_skip givesUpon_enter
def OwnI (N : Nat) (w : World) (v : Value) (l : List Int) : Prop := w.ownsRow N 3 1 v l.length (iCells l)
section
open Go.Sort (Holds putRow holds_ahead holds_putRow holds_grow)
theorem getD_list (S : List Int) (j : Nat) (hj : j < S.length) : S.toArray[j]! = S[j] := by
 rw [getElem!_pos S.toArray j (by simpa using hj)]
 simp
theorem holds_own {B : Nat} {w : World} {v : Value} {S : List Int} (h : OwnI B w v S) (hne : S ≠ []) :
  ∃ g cap, v = .slice (some ⟨g, 0, none⟩) S.length cap ∧ g < w.heap.size ∧ B ≤ g ∧ Holds (Value.int .i64) w g 0 S.toArray ∧ S.length ≤ cap := by
 obtain ⟨h1, h2⟩ := h
 rcases h2 with ⟨rfl, h3⟩ | ⟨g, cap, cur, rfl, hB, hg, hcap, _, hsz, ht⟩
 ·exact absurd (List.eq_nil_of_length_eq_zero h3) hne
 ·refine ⟨g, cap, rfl, lt_of_block hg, hB, ?_, hcap⟩
  intro j hj
  have hj' : j < S.length := by simpa using hj
  have e : cur[j]? = some (.int .i64 S[j]) := by
   have e1 : (cur.toList.take (S.length * 1))[j]? = (iCells S)[j]? := by rw [ht]
   rw [List.getElem?_take, if_pos (by omega)] at e1
   rw [Array.getElem?_toList] at e1
   rw [e1]
   simp [iCells, hj']
  refine ⟨?_, ?_⟩
  ·rw [getD_list S j hj', Nat.zero_add]
   simp [World.cell?, hg, e]
  ·simp [World.frozen?, hg]
end
end Go.Proofs.YtmhepfehcakmjaaGreat
namespace Go.Proofs.YtmhepfehcakmjaaGreat
open Go.RowKit
attribute [local go_sem] givesV lookV knAt givesF_none givesF_some evalF_tmp evalF_const evalF_global evalF_func lookL isB_bool isB_undef givesUpon_value givesUpon_skip givesUpon_enter
end Go.Proofs.YtmhepfehcakmjaaGreat
namespace Go.Proofs.YtmhepfehcakmjaaGreat
open Go.RowKit
attribute [local go_sem] givesV lookV knAt givesF_none givesF_some evalF_tmp evalF_const evalF_global evalF_func lookL isB_bool isB_undef givesUpon_value givesUpon_skip givesUpon_enter
end Go.Proofs.YtmhepfehcakmjaaGreat
