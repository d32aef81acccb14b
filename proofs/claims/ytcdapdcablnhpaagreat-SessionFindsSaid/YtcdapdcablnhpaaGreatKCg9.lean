import Derived.Test.YtcdapdcablnhpaaGreatKCg2
import Derived.Test.YtcdapdcablnhpaaGreatKBl1
import Derived.Test.YtcdapdcablnhpaaGreatKHl1
import Derived.Test.YtcdapdcablnhpaaGreatKLexn
import Derived.Test.YtcdapdcablnhpaaGreatKRu2
import Derived.Deep.CutRange
namespace Go.Proofs.YtcdapdcablnhpaaGreat
open Go.RowKit
def halfK (P : Pg) : Nat := (P.items.length + 1) / 2
def borderG (P : Pg) : En := (ensN P).getD (if P.level = 0 then halfK P - 1 else halfK P) leastE
def leftG (P : Pg) (r : Int) : Pg := { P with items := P.items.take (halfK P), right := r, high := enBytes (borderG P) [] }
def headG (P : Pg) : List UInt8 := enBytes leastE [(kidsN P).getD (halfK P) 0]
def rightI (P : Pg) : List (List UInt8) := if P.level = 0 then P.items.drop (halfK P) else headG P :: P.items.drop (halfK P + 1)
def rightG (P : Pg) : Pg := { P with items := rightI P }
theorem own_blk {N n c : Nat} {a : Option Addr} {w : World} {l : List (List UInt8)} (h : OwnS N w (.slice a n c) l) (hl : 0 < l.length) :
  ∃ g cur, a = some ⟨g, 0, none⟩ /\ N <= g /\ n = l.length /\ Blk w g 9 cur /\ cur.length = c /\ n <= c /\ c <= maxLen /\ cur.take n = sCells l := by
 rcases h.2 with ⟨h1, h2⟩ | ⟨g, cap, cur, h1, h2, h3, h4, h5, h6, h7⟩
 ·omega
 ·simp only [Value.slice.injEq] at h1;obtain ⟨rfl, rfl, rfl⟩ := h1;refine ⟨g, cur.toList, rfl, h2, rfl, ?_, by simpa using h6, h4, h5, by simpa using h7⟩;unfold Blk
  simpa using h3
theorem own_some {N n c : Nat} {a : Option Addr} {w : World} {l : List (List UInt8)} (h : OwnS N w (.slice a n c) l) (hl : 0 < l.length) :
  ∃ g, a = some ⟨g, 0, none⟩ /\ N <= g /\ (∀ j (hj : j < l.length), w.cell? ⟨g, j, none⟩ = some (.string (str l[j])) /\ w.frozen? ⟨g, j, none⟩ = false) := by
 obtain ⟨g, cur, rfl, h2, rfl, h3, h4, h5, _, h6⟩ := own_blk h hl;refine ⟨g, rfl, h2, fun j hj => ⟨?_, h3.free j⟩⟩;have hjc : j < cur.length := by omega
 rw [h3.cell j hjc];have h7 : (cur.take l.length)[j]? = (sCells l)[j]? := by rw [h6]
 rw [List.getElem?_take_of_lt hj, List.getElem?_eq_getElem hjc] at h7;rw [h7];simp [sCells, hj]
theorem own_set {N g n c : Nat} {w : World} {l : List (List UInt8)} (h : OwnS N w (.slice (some ⟨g, 0, none⟩) n c) l) {i : Nat} (hi : i < l.length) (y : List UInt8) :
  OwnS N (w.setCell ⟨g, i, none⟩ (.string (str y))) (.slice (some ⟨g, 0, none⟩) n c) (l.set i y) := by
 obtain ⟨g', cur, hg, h2, rfl, h3, h4, h5, h6, h7⟩ := own_blk h (by omega);simp only [Option.some.injEq, Addr.mk.injEq, and_true] at hg;subst hg;unfold OwnS;rw [List.length_set];refine owns_of h2 (h3.set i (.string (str y))) (by omega) h6 (by rw [List.length_set]; exact h4) ?_;rw [List.take_set, h7];simp [sCells, List.map_set]
theorem own_ne {N g n c b t : Nat} {w : World} {l : List (List UInt8)} {cs : List Value} (h : OwnS N w (.slice (some ⟨g, 0, none⟩) n c) l) (hb : Blk w b t cs) (ht : t ≠ 9) : b ≠ g := fun e => h.ne hb ht (by rw [e]; rfl)
theorem own_other {N g n c b i : Nat} {w : World} {v : Value} {l : List (List UInt8)} (h : OwnS N w (.slice (some ⟨g, 0, none⟩) n c) l) (hb : g ≠ b) : OwnS N (w.setCell ⟨b, i, none⟩ v) (.slice (some ⟨g, 0, none⟩) n c) l :=
 owns_but h ((But.refl b w).setCell i v) (fun e => hb (by simpa [Value.ownBlock] using e))
attribute [local go_sem] givesV lookV knAt hgs
end Go.Proofs.YtcdapdcablnhpaaGreat
