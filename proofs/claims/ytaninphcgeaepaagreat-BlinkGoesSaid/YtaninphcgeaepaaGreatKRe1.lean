import Derived.Test.YtaninphcgeaepaaGreatKRu4
import Derived.Test.YtaninphcgeaepaaGreatKRk4
import Derived.Test.YtaninphcgeaepaaGreatKAw1
import Derived.Test.YtaninphcgeaepaaGreatKSm1
import Derived.Test.YtaninphcgeaepaaGreatKAp1
/- almonrylaw14.NodeReads. -/
namespace Go.Proofs.YtaninphcgeaepaaGreat
open Go.RowKit
attribute [local go_sem] givesF_none givesF_some evalF_tmp evalF_const evalF_global evalF_func lookL isB_bool isB_undef givesUpon_value givesUpon_skip givesUpon_enter

def entL (P : Pg) : List En := if entriesOk P then ensN P else []
def entC (P : Pg) : Int := if entriesOk P then 0 else 140
def kidL (P : Pg) : List En := if kidsOk P then ensN P else []
def kidQ (P : Pg) : List Int := if kidsOk P then kidsN P else []
def kidC (P : Pg) : Int := if kidsOk P then 0 else 140
theorem ent_uni {P : Pg} {w w' : World} {x : Ending} (h : EntPost P w x w') : ∃ a c, x = .returned (.tuple #[.slice a (entL P).length c, .int .i64 (entC P)]) ∧ EnsS w' (.slice a (entL P).length c) (entL P) ∧ Below w.heap.size w w' := by
  unfold EntPost at h
  unfold entL entC
  obtain ⟨h1, h2⟩ := h
  cases hE : entriesOk P with
  | false =>
    rw [hE, if_neg (by decide)] at h1
    exact ⟨none, 0, h1, .inl ⟨rfl, rfl, _, _, rfl⟩, h2⟩
  | true =>
    rw [hE, if_pos rfl] at h1
    obtain ⟨a, c, h3, h4⟩ := h1
    exact ⟨a, c, h3, h4, h2⟩
theorem kid_uni {P : Pg} {w w' : World} {x : Ending} (h : KidsPost P w x w') : ∃ a c a2 c2, x = .returned (.tuple #[.slice a (kidL P).length c, .slice a2 (kidQ P).length c2, .int .i64 (kidC P)]) ∧ EnsS w' (.slice a (kidL P).length c) (kidL P) ∧ IntsS w' (.slice a2 (kidQ P).length c2) (kidQ P) ∧ Below w.heap.size w w' := by
  unfold KidsPost at h
  unfold kidL kidQ kidC
  obtain ⟨h1, h2⟩ := h
  cases hE : kidsOk P with
  | false =>
    rw [hE, if_neg (by decide)] at h1
    exact ⟨none, 0, none, 0, h1, .inl ⟨rfl, rfl, _, _, rfl⟩, .inl ⟨rfl, rfl, _, _, rfl⟩, h2⟩
  | true =>
    rw [hE, if_pos rfl] at h1
    obtain ⟨a, c, a2, c2, h3, h4, h5⟩ := h1
    exact ⟨a, c, a2, c2, h3, h4, h5, h2⟩
theorem entL_len (P : Pg) : (entL P).length ≤ 255 := by
  unfold entL
  split
  · rename_i h
    unfold entriesOk at h
    rw [Bool.and_eq_true] at h
    rw [ensN_length]
    exact (open_fine h.1).1
  · simp
theorem kidL_len (P : Pg) : (kidL P).length ≤ 255 ∧ (kidQ P).length ≤ 255 := by
  unfold kidL kidQ
  cases hE : kidsOk P with
  | false => simp
  | true =>
    simp only [if_true]
    unfold kidsOk at hE
    have h2 : openOk P = true ∧ P.level ≠ 0 := by simpa using hE
    rw [ensN_length, kidsN_length h2.2]
    exact ⟨(open_fine h2.1).1, (open_fine h2.1).1⟩
theorem root_len (lv left : Int) (e : En) (right : Int) : (rootN lv left e right).1.items.length ≤ 2 := by
  unfold rootN
  split <;> simp [rootP, zeroP]

end Go.Proofs.YtaninphcgeaepaaGreat
