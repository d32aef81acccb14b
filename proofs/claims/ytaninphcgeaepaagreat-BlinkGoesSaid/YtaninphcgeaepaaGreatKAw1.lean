import Derived.Test.YtaninphcgeaepaaGreatKSp2
import Derived.Test.YtaninphcgeaepaaGreatKRt1
import Derived.Test.YtaninphcgeaepaaGreatKGr1
import Derived.BigQuiet
/- almonrylaw14.awake: the chapter's examples. -/
namespace Go.Proofs.YtaninphcgeaepaaGreat
open Go.RowKit
attribute [local simp] eql_entry
attribute [local go_sem] guard_entry

theorem aw1 : insN leafP ([98], 1, 0) = (⟨0, 3, 0, 0, [], [[1, 98, 1, 0]]⟩, 0) := by kernel_rfl
theorem aw2 : insN ⟨0, 3, 0, 0, [], [[1, 98, 1, 0]]⟩ ([97], 2, 0) = (⟨0, 3, 0, 0, [], [[1, 97, 2, 0], [1, 98, 1, 0]]⟩, 0) := by kernel_rfl
theorem aw3 : splitOk ⟨0, 3, 0, 0, [], [[1, 97, 2, 0], [1, 98, 1, 0]]⟩ 7 = true := by kernel_rfl
theorem aw4 : leftN ⟨0, 3, 0, 0, [], [[1, 97, 2, 0], [1, 98, 1, 0]]⟩ 7 = ⟨0, 3, 0, 7, [1, 97, 2, 0], [[1, 97, 2, 0]]⟩ := by kernel_rfl
theorem aw5 : rightN ⟨0, 3, 0, 0, [], [[1, 97, 2, 0], [1, 98, 1, 0]]⟩ = ⟨0, 3, 0, 0, [], [[1, 98, 1, 0]]⟩ := by kernel_rfl
theorem aw6 : borderN ⟨0, 3, 0, 0, [], [[1, 97, 2, 0], [1, 98, 1, 0]]⟩ = ([97], 2, 0) := by kernel_rfl
theorem aw7 : rootN 1 5 ([97], 2, 0) 7 = (⟨0, 3, 1, 0, [], [[0, 0, 0, 5], [1, 97, 2, 0, 7]]⟩, 0) := by kernel_rfl
theorem aw8 : childN ⟨0, 3, 1, 0, [], [[0, 0, 0, 5], [1, 97, 2, 0, 7]]⟩ ([97], 2, 0) = (5, 0) := by kernel_rfl
theorem aw9 : childN ⟨0, 3, 1, 0, [], [[0, 0, 0, 5], [1, 97, 2, 0, 7]]⟩ ([97], 2, 1) = (7, 0) := by kernel_rfl
theorem aw10 : encN ([107], 300, 2) = ([1, 107, 172, 2, 2], 0) := by kernel_rfl

theorem pgIn_of {w : World} {iv : Value} {P : Pg} (h : ItemsC w iv P.items) (hs : (P.items.all fun x => decide (x.length ≤ 1000)) = true) (hh : P.high.length ≤ 1000) (hl : P.items.length ≤ 1000) (hlsn : P.lsn ≤ 9223372036854775807) : PgIn w iv P :=
  ⟨h.1.weak, fun x hx => by have := List.all_eq_true.1 hs x hx; simp only [decide_eq_true_eq] at this; omega, by omega, by omega, hlsn⟩

end Go.Proofs.YtaninphcgeaepaaGreat
