/- page.Encode: whether a page may be written, of any page. -/
import Derived.Test.YtigbgodbalpgdaaPe3
namespace Go.Proofs.Ytigbgodbalpgdaa
open Go.RowKit

theorem pageEnc_any (P : Pg) (iv : Value) (w : World) (hi : Items w iv P.items) (hs : ∀ x ∈ P.items, (x.length : Int) ≤ 140737488355328) (hh : (P.high.length : Int) ≤ 140737488355328) (hl : (P.items.length : Int) ≤ 140737488355328) (hlsn : P.lsn ≤ 9223372036854775807) :
    Calls Try.prog 79 #[pgV P iv] w (EncPost P w) := by
  cases hr : rangeP P with
  | false => exact pageEnc_range P iv w hi hs hh hl hr
  | true => exact pageEnc_in P iv w hi hs hh hl hr hlsn

theorem sumL_ge (l : List (List UInt8)) : ∀ x ∈ l, x.length ≤ sumL l := by
  intro x hx
  induction l with
  | nil => simp at hx
  | cons a l ih =>
    rw [sumL]
    rcases List.mem_cons.1 hx with rfl | h
    · omega
    · have := ih h; omega
/-- What a page that may be written is bound by. -/
theorem encOk_fine {P : Pg} (h : encOk P = true) : P.items.length ≤ 255 ∧ P.high.length ≤ 255 ∧ (∀ x ∈ P.items, x.length ≤ 512) ∧ 0 ≤ P.level ∧ P.level ≤ 255 ∧ 0 ≤ P.right := by
  simp only [encOk, rangeP, fitsP, Bool.and_eq_true, decide_eq_true_eq] at h
  refine ⟨by omega, by omega, fun x hx => ?_, by omega, by omega, by omega⟩
  have := sumL_ge P.items x hx
  unfold sizeP at h
  omega

end Go.Proofs.Ytigbgodbalpgdaa
