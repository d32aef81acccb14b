import Derived.Test.YtaninphcgeaepaaKCg10
import Derived.Test.YtaninphcgeaepaaKLexr
namespace Go.Proofs.Ytaninphcgeaepaa
open Go.RowKit
abbrev Fr := List (Pg × Value)
def frC (p : Pg × Value) : List Value := pgCells p.1 p.2
def frS (D : Fr) : List Value := D.flatMap frC
def pgD (D : Fr) : List Pg := D.map (·.1)
theorem pflat_at {α : Type} (f : α → List Value) (s : Nat) (hs : ∀ x, (f x).length = s) (l : List α) (k : Nat) (hk : k < l.length) (j : Nat) (hj : j < s) : (l.flatMap f)[k * s + j]? = (f l[k])[j]? := by
 induction l generalizing k with
 | nil => simp at hk
 | cons x r ih =>
  rw [List.flatMap_cons]
  cases k with
  | zero => rw [Nat.zero_mul, Nat.zero_add, List.getElem?_append_left (by rw [hs]; exact hj)]; rfl
  | succ k =>
   rw [List.getElem?_append_right (by rw [hs, Nat.succ_mul]; omega), hs, show (k + 1) * s + j - s = k * s + j by rw [Nat.succ_mul]; omega]
   exact ih k (by simpa using hk)
theorem frS_length (D : Fr) : (frS D).length = D.length * 6 := by
 induction D with
 | nil => rfl
 | cons x r ih => rw [show frS (x :: r) = frC x ++ frS r from rfl, List.length_append, ih, List.length_cons, show (frC x).length = 6 from rfl]; omega
theorem frS_append (a b : Fr) : frS (a ++ b) = frS a ++ frS b := by simp [frS]
@[simp] theorem pgD_length (D : Fr) : (pgD D).length = D.length := by simp [pgD]
theorem pgD_at {D : Fr} {k : Nat} (hk : k < D.length) : (pgD D).getD k zeroP = D[k].1 := by simp [pgD, List.getD, hk]
def PgFine (P : Pg) : Prop := (∀ x ∈ P.items, (x.length : Int) ≤ 140737488355328) ∧ (P.high.length : Int) ≤ 140737488355328 ∧ (P.items.length : Int) ≤ 140737488355328 ∧ P.lsn ≤ 9223372036854775807
theorem PgFine.within {P : Pg} {w : World} {iv : Value} (h : PgFine P) (hi : ItemsC w iv P.items) : PgIn w iv P := ⟨hi.1.weak, h⟩
structure ForT (b : Nat) (w : World) (fr : Nat) (D : Fr) : Prop where
 low : b ≤ fr
 tab : ∃ v, Blk w fr 31 [v] ∧ w.ownsRow b 27 6 v D.length (frS D)
 items : ∀ p ∈ D, ItemsC w p.2 p.1.items ∧ PgFine p.1
theorem ForT.fits {b fr : Nat} {w w' : World} {D : Fr} (h : ForT b w fr D) (g : Grow w w') : ForT b w' fr D := by
 obtain ⟨v, h1, h2⟩ := h.tab
 exact ⟨h.low, ⟨v, h1.fits g, owns_fits h2 g⟩, fun p hp => ⟨(h.items p hp).1.fits g, (h.items p hp).2⟩⟩
theorem own_ne_blk {w : World} {b e s n c t : Nat} {v : Value} {xs cs : List Value} (h : w.ownsRow b e s v n xs) (hb : Blk w c t cs) (ht : t ≠ e) : v.ownBlock ≠ some c := by
 rcases h.2 with ⟨h0, _⟩ | ⟨g, cap, cur, h0, _, hh, _⟩
 ·rw [h0]; exact fun h => by cases h
 ·rw [h0]
  intro e
  have e9 : g = c := Option.some.inj e
  subst e9
  unfold Blk at hb
  rw [hh] at hb
  cases hb
  exact ht rfl
theorem ForT.but {b fr c t : Nat} {w w' : World} {D : Fr} {cs : List Value} (h : ForT b w fr D) (hb : Blk w c t cs) (h1 : t ≠ 31) (h2 : t ≠ 27) (h3 : t ≠ 9) (k : But c w w') : ForT b w' fr D := by
 obtain ⟨v, hv, ho⟩ := h.tab
 refine ⟨h.low, ⟨v, hv.but k ?_, owns_but ho k (own_ne_blk ho hb h2)⟩, fun p hp => ⟨itemsC_but (h.items p hp).1 k hb h3, (h.items p hp).2⟩⟩
 rintro rfl
 unfold Blk at hv hb
 rw [hv] at hb
 cases hb
 exact h1 rfl
theorem for_at {b : Nat} {w : World} {D : Fr} {v : Value} (h : w.ownsRow b 27 6 v D.length (frS D)) {k : Nat} (hk : k < D.length) : ∃ g cap, v = .slice (some ⟨g, 0, none⟩) D.length cap ∧ D.length ≤ cap ∧ b ≤ g ∧
  (w.cell? ⟨g, k * 6, none⟩ = some (.int .i64 D[k].1.lsn) ∧ w.cell? ⟨g, k * 6 + 1, none⟩ = some (.int .i64 D[k].1.kind) ∧ w.cell? ⟨g, k * 6 + 2, none⟩ = some (.int .i64 D[k].1.level) ∧ w.cell? ⟨g, k * 6 + 3, none⟩ = some (.int .i64 D[k].1.right) ∧ w.cell? ⟨g, k * 6 + 4, none⟩ = some (.string (str D[k].1.high)) ∧ w.cell? ⟨g, k * 6 + 5, none⟩ = some D[k].2) ∧
  ∀ j, w.frozen? ⟨g, j, none⟩ = false := by
 rcases h.2 with ⟨rfl, h0⟩ | ⟨g, cap, cur, rfl, hb, hh, hn, hcm, hcs, ht⟩
 ·omega
 ·refine ⟨g, cap, rfl, hn, hb, ?_, fun j => by simp [World.frozen?, hh]⟩
  have hl := frS_length D
  have hg : ∀ j (hj : j < 6), w.cell? ⟨g, k * 6 + j, none⟩ = some ((frC D[k])[j]'hj) := by
   intro j hj
   have hlt : k * 6 + j < (frS D).length := by omega
   have h2 := pflat_at frC 6 (fun _ => rfl) D k hk j hj
   have h3 : (cur.toList.take (D.length * 6))[k * 6 + j]? = (frS D)[k * 6 + j]? := by rw [ht]
   rw [List.getElem?_take, if_pos (by omega)] at h3
   have h4 : (frS D)[k * 6 + j]? = some ((frC D[k])[j]'hj) := by
    rw [show (frS D)[k * 6 + j]? = _ from h2]; exact List.getElem?_eq_getElem hj
   rw [h4] at h3
   simp only [World.cell?, hh]
   simpa using h3
  exact ⟨hg 0 (by decide), hg 1 (by decide), hg 2 (by decide), hg 3 (by decide), hg 4 (by decide), hg 5 (by decide)⟩
theorem frS_set (D : Fr) (k : Nat) (p : Pg × Value) (hk : k < D.length) : frS (D.set k p) = ((((((frS D).set (k * 6) (.int .i64 p.1.lsn)).set (k * 6 + 1) (.int .i64 p.1.kind)).set (k * 6 + 2) (.int .i64 p.1.level)).set (k * 6 + 3) (.int .i64 p.1.right)).set (k * 6 + 4) (.string (str p.1.high))).set (k * 6 + 5) p.2 := by
 induction D generalizing k with
 | nil => simp at hk
 | cons x r ih =>
  cases k with
  | zero => simp [frS, frC, pgCells]
  | succ k =>
   rw [List.set_cons_succ, show frS (x :: r.set k p) = frC x ++ frS (r.set k p) from rfl, ih k (by simpa using hk), show frS (x :: r) = frC x ++ frS r from rfl]
   have e : ∀ (l : List Value) (j : Nat) (y : Value), (frC x ++ l).set ((k + 1) * 6 + j) y = frC x ++ l.set (k * 6 + j) y := by
    intro l j y
    rw [List.set_append_right _ _ (by rw [show (frC x).length = 6 from rfl]; omega), show (frC x).length = 6 from rfl, show (k + 1) * 6 + j - 6 = k * 6 + j by omega]
   have e0 := e (frS r) 0 (.int .i64 p.1.lsn)
   simp only [Nat.add_zero] at e0
   rw [e0, e, e, e, e, e]
theorem ForT.set {b fr g cap : Nat} {w : World} {D : Fr} (h : ForT b w fr D) (hv : Blk w fr 31 [.slice (some ⟨g, 0, none⟩) D.length cap]) {k : Nat} (hk : k < D.length) {P : Pg} {iv : Value} (hi : ItemsC w iv P.items) (hf : PgFine P) :
  ForT b ((((((w.setCell ⟨g, k * 6, none⟩ (.int .i64 P.lsn)).setCell ⟨g, k * 6 + 1, none⟩ (.int .i64 P.kind)).setCell ⟨g, k * 6 + 2, none⟩ (.int .i64 P.level)).setCell ⟨g, k * 6 + 3, none⟩ (.int .i64 P.right)).setCell ⟨g, k * 6 + 4, none⟩ (.string (str P.high))).setCell ⟨g, k * 6 + 5, none⟩ iv) fr (D.set k (P, iv)) := by
 obtain ⟨v, hv', ho⟩ := h.tab
 have e : v = .slice (some ⟨g, 0, none⟩) D.length cap := by
  unfold Blk at hv hv'
  rw [hv] at hv'
  simp at hv'
  exact hv'.symm
 subst e
 have hne : fr ≠ g := by
  rintro rfl
  exact own_ne_blk ho hv (by decide) rfl
 rcases ho.2 with ⟨h0, _⟩ | ⟨g', cap', cur, h0, hb, hh, hn, hcm, hcs, ht⟩
 ·cases h0
 ·simp only [Value.slice.injEq, Option.some.injEq, Addr.mk.injEq, true_and, and_true] at h0
  obtain ⟨rfl, rfl⟩ := h0
  have hB : Blk w g 27 cur.toList := by unfold Blk; simpa using hh
  have k6 := ((((((But.refl g w).setCell (k * 6) (.int .i64 P.lsn)).setCell (k * 6 + 1) (.int .i64 P.kind)).setCell (k * 6 + 2) (.int .i64 P.level)).setCell (k * 6 + 3) (.int .i64 P.right)).setCell (k * 6 + 4) (.string (str P.high))).setCell (k * 6 + 5) iv
  have hB6 := (((((hB.set (k * 6) (.int .i64 P.lsn)).set (k * 6 + 1) (.int .i64 P.kind)).set (k * 6 + 2) (.int .i64 P.level)).set (k * 6 + 3) (.int .i64 P.right)).set (k * 6 + 4) (.string (str P.high))).set (k * 6 + 5) iv
  refine ⟨h.low, ⟨_, hv.but k6 hne, ?_⟩, fun p hp => ?_⟩
  ·rw [List.length_set]
   refine ⟨by rw [frS_length, List.length_set], .inr ⟨g, cap, _, rfl, hb, hB6, hn, hcm, by simpa using hcs, ?_⟩⟩
   rw [frS_set D k (P, iv) hk, ← ht]
   simp only [List.take_set]
  ·rcases List.mem_or_eq_of_mem_set hp with hp | rfl
   ·exact ⟨itemsC_but (h.items p hp).1 k6 hB (by decide), (h.items p hp).2⟩
   ·exact ⟨itemsC_but hi k6 hB (by decide), hf⟩
structure Fel (bs : Nat) (w w' : World) : Prop where
 low : Below bs w w'
 typ : ∀ (c : Nat) (blk : Array Value) (t : Nat) (f : Nat × Nat), w.heap[c]? = some (.cells blk t f) → t ≠ 31 → t ≠ 27 → w'.heap[c]? = some (.cells blk t f)
theorem Fel.refl (bs : Nat) (w : World) : Fel bs w w := ⟨Below.refl _ _, fun _ _ _ _ h _ _ => h⟩
theorem Fel.trans {bs : Nat} {u v w : World} (h : Fel bs u v) (k : Fel bs v w) : Fel bs u w := ⟨h.low.trans k.low, fun c blk t f hc h1 h2 => k.typ c blk t f (h.typ c blk t f hc h1 h2) h1 h2⟩
theorem Fel.of_grow {bs : Nat} {w w' : World} (hb : bs ≤ w.heap.size) (g : Grow w w') : Fel bs w w' := ⟨g.mono hb, fun c blk t f hc _ _ => by rw [g.block c (lt_of_block hc)]; exact hc⟩
theorem Fel.but {bs b t : Nat} {w w' : World} {cs : List Value} (k : But b w w') (hB : Blk w b t cs) (ht : t = 31 ∨ t = 27) (h1 : bs ≤ b) (h2 : bs ≤ w.heap.size) : Fel bs w w' := by
 refine ⟨But.below (Below.refl _ _) k h1 h2, fun c blk t' f hc n1 n2 => ?_⟩
 rw [k.block c (lt_of_block hc) ?_]
 ·exact hc
 ·rintro rfl
  unfold Blk at hB
  rw [hB] at hc
  simp at hc
  rcases ht with rfl | rfl
  ·exact n1 hc.2.1.symm
  ·exact n2 hc.2.1.symm
theorem own_page_blk {w : World} {b e s n m c g : Nat} {xs : List Value} (h : w.ownsRow b e s (.slice (some ⟨g, 0, none⟩) n c) m xs) : ∃ cs, Blk w g e cs := by
 rcases h.2 with ⟨h0, _⟩ | ⟨g', cap, cur, h0, _, hh, _⟩
 ·cases h0
 ·simp only [Value.slice.injEq, Option.some.injEq, Addr.mk.injEq, and_true] at h0
  obtain ⟨rfl, -, -⟩ := h0
  exact ⟨cur.toList, by unfold Blk; simpa using hh⟩
end Go.Proofs.Ytaninphcgeaepaa
