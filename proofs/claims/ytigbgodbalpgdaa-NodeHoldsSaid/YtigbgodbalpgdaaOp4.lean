/- node.opened, of any page. -/
import Derived.Test.YtigbgodbalpgdaaOp3
namespace Go.Proofs.Ytigbgodbalpgdaa
open Go.RowKit

theorem opened_any (P : Pg) (iv : Value) (w_ : World) (hi : Items w_ iv P.items) (hs : ∀ x ∈ P.items, (x.length : Int) ≤ 140737488355328) (hh : (P.high.length : Int) ≤ 140737488355328) (hl : (P.items.length : Int) ≤ 140737488355328) (hlsn : P.lsn ≤ 9223372036854775807) :
    Calls Try.prog 58 #[pgV P iv] w_ (OpenPost P w_) := by
  by_cases hhead : headOk P = true
  · exact opened_in P iv w_ hi hs hh hl hlsn hhead
  · by_cases he : encOk P = true
    · by_cases hk : (decide (P.kind = 3) && inB P.right 0 65535) = true
      · have hk' := hk
        rw [Bool.and_eq_true, decide_eq_true_eq] at hk'
        have hbad : (decide (P.high = []) || decide ((decN P.high).2 = 0)) = false := by
          unfold headOk at hhead
          rw [he, hk] at hhead
          simpa using hhead
        rw [Bool.or_eq_false_iff, decide_eq_false_iff_not, decide_eq_false_iff_not] at hbad
        exact opened_high P iv w_ hi hs hh hl hlsn he hk'.1 hk'.2 hbad.1 hbad.2
      · exact opened_kind P iv w_ hi hs hh hl hlsn he (by simpa using hk)
    · exact opened_enc P iv w_ hi hs hh hl hlsn (by simpa using he)

end Go.Proofs.Ytigbgodbalpgdaa
