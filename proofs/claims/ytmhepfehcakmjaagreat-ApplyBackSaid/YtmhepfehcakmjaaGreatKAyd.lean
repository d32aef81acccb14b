import Derived.Test.YtmhepfehcakmjaaGreatKAyb
import Derived.Test.YtmhepfehcakmjaaGreatKAyj
import Derived.Test.YtmhepfehcakmjaaGreatKSp2
namespace Go.Proofs.YtmhepfehcakmjaaGreat
open Go.RowKit
attribute [local go_sem] givesV lookV knAt hgs
theorem pgS_same {P : Pg} (h : PgS P) : (P.items.length : Int) <= 140737488355328 := by have := h.2.2.1; omega
theorem two_new (T1 T2 : Nat) (c1 c2 : List Value) (w_ w0 : World) (h : w0 = (w_.alloc (.cells c1.toArray T1)).alloc (.cells c2.toArray T2)) : Grow w_ w0 /\ Blk w0 w_.heap.size T1 c1 /\ Blk w0 (w_.heap.size + 1) T2 c2 := by
 refine ⟨?_, ?_, ?_⟩
 ·subst h; exact ((Grow.refl w_).alloc _).alloc _
 ·subst h; exact (Blk.new w_ _ _).alloc _
 ·have := Blk.new (w_.alloc (.cells c1.toArray T1)) T2 c2;have e9 : (w_.alloc (.cells c1.toArray T1)).heap.size = w_.heap.size + 1 := by simp
  rw [e9] at this;subst h; exact this
end Go.Proofs.YtmhepfehcakmjaaGreat
