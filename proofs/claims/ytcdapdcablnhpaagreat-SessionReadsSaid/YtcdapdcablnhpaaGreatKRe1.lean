import Derived.Test.YtcdapdcablnhpaaGreatKLexn
import Derived.Test.YtcdapdcablnhpaaGreatKBl1
import Derived.Test.YtcdapdcablnhpaaGreatKRk4
import Derived.Test.YtcdapdcablnhpaaGreatKSp2
import Derived.Test.YtcdapdcablnhpaaGreatKCg2
namespace Go.Proofs.YtcdapdcablnhpaaGreat
open Go.RowKit
attribute [local go_sem] givesV lookV knAt hgs
def entL (P : Pg) : List En := if entriesOk P then ensN P else []
def entC (P : Pg) : Int := if entriesOk P then 0 else 140
theorem ent_uni {P : Pg} {w w' : World} {x : Ending} (h : EntPost P w x w') : ∃ a c, x = .returned (.tuple #[.slice a (entL P).length c, .int .i64 (entC P)]) /\ EnsS w' (.slice a (entL P).length c) (entL P) /\ Below w.heap.size w w' := by
 unfold EntPost at h;unfold entL entC;obtain ⟨h1, h2⟩ := h;cases hE : entriesOk P with
 | false =>
  rw [hE, if_neg (by decide)] at h1;exact ⟨none, 0, h1, .inl ⟨rfl, rfl, _, _, rfl⟩, h2⟩
 | true =>
  rw [hE, if_pos rfl] at h1;obtain ⟨a, c, h3, h4⟩ := h1;exact ⟨a, c, h3, h4, h2⟩
theorem entL_len (P : Pg) : (entL P).length <= 255 := by
 unfold entL
 split
 ·rename_i h
  unfold entriesOk at h;rw [Bool.and_eq_true] at h;rw [ensN_length];exact (open_fine h.1).1
 ·simp
end Go.Proofs.YtcdapdcablnhpaaGreat
