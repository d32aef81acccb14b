import Derived.Test.YtmhepfehcakmjaaGreatKSp2
import Derived.Test.YtmhepfehcakmjaaGreatKRf2
import Derived.BigQuiet
namespace Go.Proofs.YtmhepfehcakmjaaGreat
open Go.RowKit
set_option maxRecDepth 100000 in
set_option maxHeartbeats 4000000 in
theorem sameInts_any (l : List Int) (v v2 : Value) (w_ : World) (hi : Row w_ 3 v l.length (iCells l)) (hj : Row w_ 3 v2 l.length (iCells l)) (hl : (l.length : Int) ≤ 4611686018427387904) :
  Calls Tryz.prog 45 #[v, v2] w_ fun x w' => x = .returned (.bool true) ∧ Below w_.heap.size w_ w' := by
 obtain ⟨ia, ic, rfl⟩ := row_slice hi
 obtain ⟨ja, jc, rfl⟩ := row_slice hj
 have HI0 := keep hi
 have HJ0 := keep hj
 clear hi hj
 go_enter Tryz.func45, Tryz.ntmps45
 go_wp2_with fail
 go_loopw [5] (fun i wr => ∃ n : Nat, n ≤ l.length ∧ i = .int .i64 n ∧ Kept (Grow w_ wr)) (fun i _ => l.length - (intOf i).toNat)
 case atStart => exact ⟨0, Nat.zero_le _, rfl, keep (Grow.refl _)⟩
 case round =>
  obtain ⟨n, hn, rfl, HG⟩ := hrel
  by_cases hlt : n < l.length
  ·obtain ⟨c1, off1, cap1, e1, hc1⟩ := ints_at HI0.out hlt
   obtain ⟨c2, off2, cap2, e2, hc2⟩ := ints_at HJ0.out hlt
   simp only [Value.slice.injEq] at e1 e2
   obtain ⟨rfl, x1, x2⟩ := e1
   obtain ⟨rfl, x3, x4⟩ := e2
   have d1 := hc1 wr HG.out
   have d2 := hc2 wr HG.out
   generalize l[n] = e at *
   clear hc1 hc2 x1 x2 x3 x4
   go_upto_region 6 with fail
   go_quiet (fail)
   go_wp2_with fail
   go_roundw
   case rel => exact ⟨n + 1, by omega, by go_num, keep (Grow.trans HG.out (below_drewN (Grow.refl _) _))⟩
   case measure => simp [intOf]; omega
  ·have e : n = l.length := by omega
   subst e
   go_wp2_with fail
   go_ret
   exact ⟨rfl, HG.out⟩
end Go.Proofs.YtmhepfehcakmjaaGreat
