import Derived.Test.YtcdapdcablnhpaaGreatKCg9
import Derived.Test.YtcdapdcablnhpaaGreatKCg6
import Derived.Test.YtcdapdcablnhpaaGreatKHl1
namespace Go.Proofs.YtcdapdcablnhpaaGreat
open Go.RowKit
theorem own_any_set {N n c : Nat} {a : Option Addr} {w : World} {l : List (List UInt8)} (h : OwnS N w (.slice a n c) l) (g i : Nat) (y : List UInt8) :
  ∃ l', l'.length = l.length /\ OwnS N (w.setCell ⟨g, i, none⟩ (.string (str y))) (.slice a n c) l' := by
 rcases h.2 with ⟨h1, h2⟩ | ⟨g', cap, cur, h1, h2, h3, h4, h5, h6, h7⟩
 ·exact ⟨l, rfl, h.1, .inl ⟨h1, h2⟩⟩
 ·simp only [Value.slice.injEq] at h1;obtain ⟨rfl, rfl, rfl⟩ := h1
  by_cases hg : g' = g
  ·subst hg;have hb : Blk w g' 9 cur.toList := by unfold Blk; simpa using h3
   refine ⟨l.set i y, by simp, ?_⟩;unfold OwnS;rw [List.length_set];refine owns_of h2 (hb.set i (.string (str y))) h4 h5 (by rw [List.length_set]; simpa using h6) ?_;have h8 : cur.toList.take l.length = sCells l := by simpa using h7
   rw [List.take_set, h8];simp [sCells, List.map_set]
  ·exact ⟨l, rfl, own_other h hg⟩
def Sto (N : Nat) (w : World) (a : Option Addr) (n c : Nat) : Prop := n = 0 \/ ∃ l : List (List UInt8), l.length = n /\ OwnS N w (.slice a n c) l
theorem Sto.fits {N n c : Nat} {a : Option Addr} {w w' : World} (h : Sto N w a n c) (g : Grow w w') : Sto N w' a n c := h.imp id fun ⟨l, h1, h2⟩ => ⟨l, h1, h2.fits g⟩
theorem Sto.set {N n c : Nat} {a : Option Addr} {w : World} (h : Sto N w a n c) (g i : Nat) (y : List UInt8) : Sto N (w.setCell ⟨g, i, none⟩ (.string (str y))) a n c := by
 rcases h with h | ⟨l, h1, h2⟩
 ·exact .inl h
 ·obtain ⟨l', h3, h4⟩ := own_any_set h2 g i y;exact .inr ⟨l', by omega, h4⟩
theorem Sto.spot {N n c : Nat} {a : Option Addr} {w : World} (h : Sto N w a n c) {i : Nat} (hi : i < n) :
  ∃ g x, a = some ⟨g, 0, none⟩ /\ N <= g /\ w.cell? ⟨g, i, none⟩ = some (.string (str x)) /\ w.frozen? ⟨g, i, none⟩ = false /\ ∀ b t cs, Blk w b t cs -> t ≠ 9 -> b ≠ g := by
 rcases h with h | ⟨l, h1, h2⟩
 ·omega
 ·obtain ⟨g, rfl, h3, h4⟩ := own_some h2 (by omega);exact ⟨g, _, rfl, h3, (h4 i (by omega)).1, (h4 i (by omega)).2, fun b t cs hb ht => own_ne h2 hb ht⟩
def Lp (z : World) (b : Nat) (QX QY : Pg) (xa ya : Option Addr) (xc yc : Nat) (w : World) : Prop :=
 Blk w b 28 (pgCells QX (.slice xa QX.items.length xc)) /\ Blk w (b + 1) 28 (pgCells QY (.slice ya QY.items.length yc)) /\ Sto z.heap.size w xa QX.items.length xc /\ Sto z.heap.size w ya QY.items.length yc /\ Below z.heap.size z w
theorem Lp.set {z w : World} {b : Nat} {QX QY : Pg} {xa ya : Option Addr} {xc yc : Nat} (h : Lp z b QX QY xa ya xc yc w) (g i : Nat) (y : List UInt8) (hN : z.heap.size <= g) (h1 : b ≠ g) (h2 : b + 1 ≠ g) : Lp z b QX QY xa ya xc yc (w.setCell ⟨g, i, none⟩ (.string (str y))) :=
 ⟨h.1.but ((But.refl g w).setCell i _) h1, h.2.1.but ((But.refl g w).setCell i _) h2, h.2.2.1.set g i y, h.2.2.2.1.set g i y, But.below h.2.2.2.2 ((But.refl g w).setCell i _) hN h.2.2.2.2.size⟩
end Go.Proofs.YtcdapdcablnhpaaGreat
