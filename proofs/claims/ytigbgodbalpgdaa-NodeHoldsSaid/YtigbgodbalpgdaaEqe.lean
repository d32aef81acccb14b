/- Entries compared by == and !=. -/
import Derived.Test.YtigbgodbalpgdaaNd4
import Derived.Laws.StructEq
namespace Go.Proofs.Ytigbgodbalpgdaa
open Go.RowKit

def isL (e : En) : Bool := decide (e = leastE)
def sameE (a b : En) : Bool := decide (a = b)
theorem neq_entry (x0 q0 : List UInt8) (x1 x2 q1 q2 : Int) (w : World) : (binOp .neq 23 (.agg #[.string (str x0), .int .i64 x1, .int .i64 x2]) (.agg #[.string (str q0), .int .i64 q1, .int .i64 q2])).run Try.prog w = .ok (.bool (!sameE (x0, x1, x2) (q0, q1, q2))) w := by
  unfold sameE
  have hf : Try.prog.underlying 23 = some (.struct (Try.prog.fieldsOf 23)) := by kernel_rfl
  have hs : Try.prog.stoodInHeld 23 = false := by kernel_rfl
  rw [run_neq_struct, run_equalIn_agg w _ _ _ _ hf hs]
  simp [go_sem, Program.fieldsOf, Try.underlying23]
  by_cases h0 : x0 = q0
  · by_cases h1 : x1 = q1
    · by_cases h2 : x2 = q2
      · simp [h0, h1, h2]
      · simp [h0, h1, h2]
    · simp [h0, h1]
  · have : ¬ (str x0).toList = (str q0).toList := by rw [str_list, str_list]; exact h0
    simp [h0, this]
theorem eql_entry (x0 q0 : List UInt8) (x1 x2 q1 q2 : Int) (w : World) : (binOp .eql 23 (.agg #[.string (str x0), .int .i64 x1, .int .i64 x2]) (.agg #[.string (str q0), .int .i64 q1, .int .i64 q2])).run Try.prog w = .ok (.bool (sameE (x0, x1, x2) (q0, q1, q2))) w := by
  unfold sameE
  have hf : Try.prog.underlying 23 = some (.struct (Try.prog.fieldsOf 23)) := by kernel_rfl
  have hs : Try.prog.stoodInHeld 23 = false := by kernel_rfl
  rw [run_eql_struct, run_equalIn_agg w _ _ _ _ hf hs]
  simp [go_sem, Program.fieldsOf, Try.underlying23]
  by_cases h0 : x0 = q0
  · by_cases h1 : x1 = q1
    · by_cases h2 : x2 = q2
      · simp [h0, h1, h2]
      · simp [h0, h1, h2]
    · simp [h0, h1]
  · have : ¬ (str x0).toList = (str q0).toList := by rw [str_list, str_list]; exact h0
    simp [h0, this]
theorem guard_entry : Try.prog.eqGuardType Try.prog.depth 23 = false := by kernel_rfl
theorem neq_least (k : List UInt8) (p s : Int) (w : World) : (binOp .neq 23 (.agg #[.string (str k), .int .i64 p, .int .i64 s]) (.agg #[.string (str []), .int .i64 0, .int .i64 0])).run Try.prog w = .ok (.bool (!isL (k, p, s))) w := neq_entry _ _ _ _ _ _ w
theorem eql_least (k : List UInt8) (p s : Int) (w : World) : (binOp .eql 23 (.agg #[.string (str k), .int .i64 p, .int .i64 s]) (.agg #[.string (str []), .int .i64 0, .int .i64 0])).run Try.prog w = .ok (.bool (isL (k, p, s))) w := eql_entry _ _ _ _ _ _ w

end Go.Proofs.Ytigbgodbalpgdaa
