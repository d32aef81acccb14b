import Derived.Test.YtaninphcgeaepaaGreatKCg2
import Derived.Test.YtaninphcgeaepaaGreatKRu4
import Derived.Test.YtaninphcgeaepaaGreatKSp2
/- A node's halves: the plain facts. -/
namespace Go.Proofs.YtaninphcgeaepaaGreat
open Go.RowKit

def halfK (P : Pg) : Nat := (P.items.length + 1) / 2
def borderG (P : Pg) : En := (ensN P).getD (if P.level = 0 then halfK P - 1 else halfK P) leastE
def leftG (P : Pg) (r : Int) : Pg := { P with items := P.items.take (halfK P), right := r, high := enBytes (borderG P) [] }
def headG (P : Pg) : List UInt8 := enBytes leastE [(kidsN P).getD (halfK P) 0]
def rightI (P : Pg) : List (List UInt8) := if P.level = 0 then P.items.drop (halfK P) else headG P :: P.items.drop (halfK P + 1)
def rightG (P : Pg) : Pg := { P with items := rightI P }
def splitN (P : Pg) (r : Int) : Pg × Pg × En × Int := if splitOk P r then (leftG P r, rightG P, borderG P, 0) else (zeroP, zeroP, leastE, 140)

theorem round_at {P : Pg} (h : openOk P = true) {j : Nat} (hj : j < P.items.length) : roundOk P.level (hiN P) (bdN P) j (itemN P.level (P.items.getD (j - 1) [])) (itemN P.level P.items[j]) = true := by
  unfold openOk at h
  simp only [Bool.and_eq_true] at h
  have h1 := okTo_at h.2.1 j hj
  rwa [show P.items.getD j [] = P.items[j] by simp [hj]] at h1
theorem ens_item (P : Pg) {j : Nat} (hj : j < P.items.length) : (ensN P)[j]'(by rw [ensN_length]; exact hj) = (itemN P.level P.items[j]).1 := by simp [ensN, ensTo]
theorem ens_getD (P : Pg) {j : Nat} (hj : j < P.items.length) : (ensN P).getD j leastE = (itemN P.level P.items[j]).1 := by
  rw [← ens_item P hj]; simp [ensN_length, hj]
theorem kid_getD (P : Pg) (hlv : P.level ≠ 0) {j : Nat} (hj : j < P.items.length) : (kidsN P).getD j 0 = (itemN P.level P.items[j]).2.1 := by
  have : (kidsN P)[j]'(by rw [kidsN_length hlv]; exact hj) = (itemN P.level P.items[j]).2.1 := by simp [kidsN, kidsTo, hlv]
  rw [← this]; simp [kidsN_length hlv, hj]
theorem code_item {P : Pg} (h : openOk P = true) {j : Nat} (hj : j < P.items.length) : (itemN P.level P.items[j]).2.2 = 0 := by
  have h1 := round_at h hj
  simp only [roundOk, Bool.and_eq_true, decide_eq_true_eq] at h1
  exact h1.2.1
theorem items_ne {P : Pg} (h : openOk P = true) {i j : Nat} (hi : i < P.items.length) (hj : j < P.items.length) (hij : i < j) : P.items[i] ≠ P.items[j] := by
  intro e
  have h1 := (open_sorted h).at (show i < (ensN P).length by rw [ensN_length]; exact hi) (show j < (ensN P).length by rw [ensN_length]; exact hj) hij
  rw [ens_item P hi, ens_item P hj, e, cmpE_self] at h1
  exact absurd h1 (by decide)
/-- A leaf's item is its entry's bytes. -/
theorem leaf_item {P : Pg} (h : openOk P = true) (hlv : P.level = 0) {j : Nat} (hj : j < P.items.length) :
    enOk (itemN P.level P.items[j]).1 = true ∧ enBytes (itemN P.level P.items[j]).1 [] = P.items[j] := by
  have h1 := code_item h hj
  unfold itemN at *
  rw [if_pos hlv] at *
  have h2 : (decN P.items[j]).2 = 0 := h1
  refine ⟨decN_ok h2, ?_⟩
  unfold decN at h2 ⊢
  cases hd : decOkN P.items[j] with
  | false => rw [hd] at h2; simp at h2
  | true =>
    rw [if_pos rfl]
    unfold decOkN at hd
    rw [Bool.and_eq_true, decide_eq_true_eq] at hd
    exact dec_canon _ hd.1
/-- An inner node's item has a child, and behind the first one an entry. -/
theorem inner_item {P : Pg} (h : openOk P = true) (hlv : P.level ≠ 0) {j : Nat} (hj : j < P.items.length) :
    inB (itemN P.level P.items[j]).2.1 1 65535 = true ∧ (0 < j → enOk (itemN P.level P.items[j]).1 = true) := by
  have h1 := code_item h hj
  have h3 := round_at h hj
  simp only [roundOk, Bool.and_eq_true] at h3
  have h4 := h3.1
  rw [decide_eq_false hlv, Bool.false_or] at h4
  unfold itemN at *
  rw [if_neg hlv] at *
  unfold unsN at h1 h4 ⊢
  cases hd : unsOk P.items[j] with
  | false => rw [hd] at h1; simp at h1
  | true =>
    rw [hd] at h4
    simp only [if_true] at h4 ⊢
    unfold unsOk at hd
    simp only [Bool.and_eq_true, Bool.or_eq_true] at hd
    refine ⟨hd.2.1, fun h0 => ?_⟩
    have h5 : decide (partE P.items[j] = leastE) = decide (j = 0) := eq_of_beq h4
    rw [decide_eq_false (show ¬ j = 0 by omega)] at h5
    rcases hd.2.2 with h6 | h6
    · rw [h5] at h6; cases h6
    · exact h6
theorem split_facts {P : Pg} {r : Int} (h : splitOk P r = true) : openOk P = true ∧ 2 ≤ P.items.length ∧ inB r 1 65535 = true ∧ 1 ≤ halfK P ∧ halfK P < P.items.length := by
  obtain ⟨h1, h2, h3⟩ : openOk P = true ∧ 2 ≤ P.items.length ∧ inB r 1 65535 = true := by simpa [splitOk, and_assoc] using h
  refine ⟨h1, h2, h3, ?_, ?_⟩ <;> unfold halfK <;> omega
theorem border_ok {P : Pg} {r : Int} (h : splitOk P r = true) : enOk (borderG P) = true := by
  obtain ⟨h1, _, _, h2, h3⟩ := split_facts h
  unfold borderG
  by_cases hlv : P.level = 0
  · rw [if_pos hlv, ens_getD P (show halfK P - 1 < P.items.length by omega)]
    exact (leaf_item h1 hlv _).1
  · rw [if_neg hlv, ens_getD P h3]
    exact (inner_item h1 hlv _).2 (by omega)
theorem kid_ok {P : Pg} {r : Int} (h : splitOk P r = true) (hlv : P.level ≠ 0) : inB ((kidsN P).getD (halfK P) 0) 1 65535 = true := by
  obtain ⟨h1, _, _, h2, h3⟩ := split_facts h
  rw [kid_getD P hlv h3]
  exact (inner_item h1 hlv _).1
theorem rightI_length {P : Pg} {r : Int} (h : splitOk P r = true) : (rightI P).length = P.items.length - halfK P := by
  obtain ⟨h1, _, _, h2, h3⟩ := split_facts h
  unfold rightI
  split
  · simp
  · simp; omega

theorem own_blk {N n c : Nat} {a : Option Addr} {w : World} {l : List (List UInt8)} (h : OwnS N w (.slice a n c) l) (hl : 0 < l.length) :
    ∃ g cur, a = some ⟨g, 0, none⟩ ∧ N ≤ g ∧ n = l.length ∧ Blk w g 9 cur ∧ cur.length = c ∧ n ≤ c ∧ c ≤ maxLen ∧ cur.take n = sCells l := by
  rcases h.2 with ⟨h1, h2⟩ | ⟨g, cap, cur, h1, h2, h3, h4, h5, h6, h7⟩
  · omega
  · simp only [Value.slice.injEq] at h1
    obtain ⟨rfl, rfl, rfl⟩ := h1
    refine ⟨g, cur.toList, rfl, h2, rfl, ?_, by simpa using h6, h4, h5, by simpa using h7⟩
    unfold Blk
    simpa using h3
theorem own_some {N n c : Nat} {a : Option Addr} {w : World} {l : List (List UInt8)} (h : OwnS N w (.slice a n c) l) (hl : 0 < l.length) :
    ∃ g, a = some ⟨g, 0, none⟩ ∧ N ≤ g ∧ (∀ j (hj : j < l.length), w.cell? ⟨g, j, none⟩ = some (.string (str l[j])) ∧ w.frozen? ⟨g, j, none⟩ = false) := by
  obtain ⟨g, cur, rfl, h2, rfl, h3, h4, h5, _, h6⟩ := own_blk h hl
  refine ⟨g, rfl, h2, fun j hj => ⟨?_, h3.free j⟩⟩
  have hjc : j < cur.length := by omega
  rw [h3.cell j hjc]
  have h7 : (cur.take l.length)[j]? = (sCells l)[j]? := by rw [h6]
  rw [List.getElem?_take_of_lt hj, List.getElem?_eq_getElem hjc] at h7
  rw [h7]
  simp [sCells, hj]
theorem own_set {N g n c : Nat} {w : World} {l : List (List UInt8)} (h : OwnS N w (.slice (some ⟨g, 0, none⟩) n c) l) {i : Nat} (hi : i < l.length) (y : List UInt8) :
    OwnS N (w.setCell ⟨g, i, none⟩ (.string (str y))) (.slice (some ⟨g, 0, none⟩) n c) (l.set i y) := by
  obtain ⟨g', cur, hg, h2, rfl, h3, h4, h5, h6, h7⟩ := own_blk h (by omega)
  simp only [Option.some.injEq, Addr.mk.injEq, and_true] at hg
  subst hg
  unfold OwnS
  rw [List.length_set]
  refine owns_of h2 (h3.set i (.string (str y))) (by omega) h6 (by rw [List.length_set]; exact h4) ?_
  rw [List.take_set, h7]
  simp [sCells, List.map_set]
theorem own_apart {N M g g' n n' c c' : Nat} {w : World} {l l' : List (List UInt8)} (h : OwnS N w (.slice (some ⟨g, 0, none⟩) n c) l) (h' : OwnS M w (.slice (some ⟨g', 0, none⟩) n' c') l') (hl : 0 < l.length) (hl' : 0 < l'.length) (hne : l[0] ≠ l'[0]) : g ≠ g' := by
  rintro rfl
  obtain ⟨g1, e1, _, h1⟩ := own_some h hl
  obtain ⟨g2, e2, _, h2⟩ := own_some h' hl'
  simp only [Option.some.injEq, Addr.mk.injEq, and_true] at e1 e2
  subst e1 e2
  have h3 := (h1 0 hl).1
  rw [(h2 0 hl').1] at h3
  simp only [Option.some.injEq, Value.string.injEq] at h3
  have h4 := congrArg (fun s => s.toList) h3
  simp only [str_list] at h4
  exact hne h4.symm
theorem own_ne {N g n c b t : Nat} {w : World} {l : List (List UInt8)} {cs : List Value} (h : OwnS N w (.slice (some ⟨g, 0, none⟩) n c) l) (hb : Blk w b t cs) (ht : t ≠ 9) : b ≠ g := fun e => h.ne hb ht (by rw [e]; rfl)
theorem own_other {N g n c b i : Nat} {w : World} {v : Value} {l : List (List UInt8)} (h : OwnS N w (.slice (some ⟨g, 0, none⟩) n c) l) (hb : g ≠ b) : OwnS N (w.setCell ⟨b, i, none⟩ v) (.slice (some ⟨g, 0, none⟩) n c) l :=
  owns_but h ((But.refl b w).setCell i v) (fun e => hb (by simpa [Value.ownBlock] using e))

end Go.Proofs.YtaninphcgeaepaaGreat
