import Derived.Test.YtmhepfehcakmjaaGreatKLexm
import Derived.Test.YtmhepfehcakmjaaGreatKSp2
import Derived.Test.YtmhepfehcakmjaaGreatKGr2
import Derived.Deep.CutRange
import Derived.Test.YtmhepfehcakmjaaGreatKPt1
import Derived.Maps.AppendAt
namespace Go.Proofs.YtmhepfehcakmjaaGreat
open Go.RowKit
attribute [local go_sem] givesV lookV knAt hgs
attribute [local go_sem] guard_entry
theorem sameE_self (e : En) : sameE e e = true := by simp [sameE]
attribute [local simp] neq_entry sameE_self
end Go.Proofs.YtmhepfehcakmjaaGreat
namespace Go.Proofs.YtmhepfehcakmjaaGreat
open Go.RowKit
theorem wpList_upon_append {P : Program} {ops : Array Oper} {rest : List Oper} {o : Oper} {a : Act} {Q : Exit -> Act -> World -> Prop} {w w' : World} {s x : Operand} {t : TypeId} {v xv v' : Value} (hgd : o.guard = none)
  (ho : o.op = .call { callee := .builtin .append, args := #[s, x], argTypes := #[t, t] }) (hs : a.eval s = v) (hx : a.eval x = xv)
  (hr : (Builtin.append_ #[t, t] o.type #[v, xv]).run P w = .ok v' w') (h : wpList P ops Q rest (a.put o.dst v') w') : wpList P ops Q (o :: rest) a w := by
 refine wpList_plain hgd fun K hK => ?_
 unfold Oper.wp execOp;simp only [ho, resolve, invoke, builtin, Sem.run_bind, Sem.run_pure, Result.andThen_ok, List.map_toArray, List.map_cons, List.map_nil, hs, hx, hr];exact hK _ _ h
end Go.Proofs.YtmhepfehcakmjaaGreat
