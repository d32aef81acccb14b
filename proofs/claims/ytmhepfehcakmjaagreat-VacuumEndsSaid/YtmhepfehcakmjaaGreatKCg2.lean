import Derived.Test.YtmhepfehcakmjaaGreatKLexm
import Derived.Test.YtmhepfehcakmjaaGreatKSp2
import Derived.Test.YtmhepfehcakmjaaGreatKGr2
import Derived.Deep.CutRange
import Derived.Test.YtmhepfehcakmjaaGreatKPt1
import Derived.Maps.AppendAt
import Derived.Test.YtmhepfehcakmjaaGreatKRs1
import Derived.Laws.OwnMore
namespace Go.Proofs.YtmhepfehcakmjaaGreat
open Go.RowKit
attribute [local go_sem] givesV lookV knAt givesF_none givesF_some evalF_tmp evalF_const evalF_global evalF_func lookL isB_bool isB_undef givesUpon_value givesUpon_skip givesUpon_enter
attribute [local go_sem] guard_entry
theorem sameE_self (e : En) : sameE e e = true := by simp [sameE]
attribute [local simp] neq_entry sameE_self
end Go.Proofs.YtmhepfehcakmjaaGreat
namespace Go.Proofs.YtmhepfehcakmjaaGreat
open Go.RowKit
attribute [local go_sem] givesV lookV knAt givesF_none givesF_some evalF_tmp evalF_const evalF_global evalF_func lookL isB_bool isB_undef givesUpon_value givesUpon_skip givesUpon_enter
attribute [local simp] neq_entry sameE_self
attribute [local go_sem] guard_entry
end Go.Proofs.YtmhepfehcakmjaaGreat
namespace Go.Proofs.YtmhepfehcakmjaaGreat
open Go.RowKit
end Go.Proofs.YtmhepfehcakmjaaGreat
namespace Go.Proofs.YtmhepfehcakmjaaGreat
open Go.RowKit
theorem infoString : (Tryz.prog.info? 9).map (fun i => (i.zero, i.size, i.bytes)) = some (some (.string ⟨#[]⟩), 1, 16) := by kernel_rfl
def OwnS (N : Nat) (w : World) (v : Value) (l : List (List UInt8)) : Prop := w.ownsRow N 9 1 v l.length (sCells l)
theorem OwnS.fits {N : Nat} {w w' : World} {v : Value} {l : List (List UInt8)} (h : OwnS N w v l) (g : Grow w w') : OwnS N w' v l := owns_fits h g
theorem OwnS.form {N : Nat} {w : World} {v : Value} {l : List (List UInt8)} (h : OwnS N w v l) : ∃ a c, v = .slice a l.length c := own_form h
theorem OwnS.items {N : Nat} {w : World} {v : Value} {l : List (List UInt8)} (h : OwnS N w v l) : ItemsC w v l := items_owned h
theorem OwnS.low {N b : Nat} {w : World} {v : Value} {l : List (List UInt8)} (h : OwnS b w v l) (hB : N ≤ b) : OwnS N w v l := owns_low h hB
theorem OwnS.nil (N : Nat) (w : World) : OwnS N w (.slice none 0 0) [] := World.ownsRow_nil _ _ _ _
theorem OwnS.ne {N b t : Nat} {w : World} {v : Value} {l : List (List UInt8)} {cs : List Value} (h : OwnS N w v l) (hb : Blk w b t cs) (ht : t ≠ 9) : v.ownBlock ≠ some b := by
 rcases h.2 with ⟨rfl, _⟩ | ⟨g, cap, cur, rfl, _, hg, _⟩
 ·simp [Value.ownBlock]
 ·intro e
  simp [Value.ownBlock] at e
  subst e
  unfold Blk at hb
  rw [hb] at hg
  simp at hg
  exact ht hg.2
theorem OwnS.but {N b t : Nat} {w w' : World} {v : Value} {l : List (List UInt8)} {cs : List Value} (h : OwnS N w v l) (k : But b w w') (hb : Blk w b t cs) (ht : t ≠ 9) : OwnS N w' v l := owns_but h k (h.ne hb ht)
theorem OwnS.below {N B : Nat} {w w' : World} {v : Value} {l : List (List UInt8)} (h : OwnS N w v l) (g : w.grownBy w' v.ownBlock) (hB : B ≤ N) (hB2 : B ≤ w.heap.size) : Below B w w' :=
 ⟨g.os, g.tape, g.output, g.size, fun k hk => g.block k (by omega) fun e => by
  have := (h.lt _ e.symm).1
  omega⟩
end Go.Proofs.YtmhepfehcakmjaaGreat
namespace Go.Proofs.YtmhepfehcakmjaaGreat
open Go.RowKit
attribute [local go_sem] givesV lookV knAt givesF_none givesF_some evalF_tmp evalF_const evalF_global evalF_func lookL isB_bool isB_undef givesUpon_value givesUpon_skip givesUpon_enter
end Go.Proofs.YtmhepfehcakmjaaGreat
