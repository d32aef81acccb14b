import Derived.Test.YtaninphcgeaepaaKBe9
import Derived.Test.YtaninphcgeaepaaKCg10
import Derived.Test.YtaninphcgeaepaaKSl1
import Derived.Deep.CutRange
namespace Go.Proofs.Ytaninphcgeaepaa
open Go.RowKit
def lsn0 (P : Pg) : Pg := { P with lsn := 0 }
abbrev Rc := (Int × Int × List UInt8 × List (Int × Pg)) × Int
def rc0 (c : Int) : Rc := ((0, 0, [], []), c)
def growC (n k f0 r : Int) (sp : Bool) (A B : Pg) (out : Bool) (HA HB : Pg × En × Int) (RT : Pg × Int) : Rc :=
 if sp = false then rc0 140
 else if (if out then HB else HA).2.2 ≠ 0 then rc0 121
 else if k = 1 then ((5, 0, [], [(n, if out then A else HA.1), (r, if out then HB.1 else B)]), 0)
 else if RT.2 ≠ 0 then rc0 RT.2
 else ((5, 0, [], [(f0, if out then A else HA.1), (r, if out then HB.1 else B), (n, RT.1)]), 0)
def growN (P : Pg) (n : Int) (item : List UInt8) (f0 r k : Int) : Rc :=
 growC n k f0 r (splitOk (lsn0 P) r) (leftG (lsn0 P) r) (rightG (lsn0 P)) (beyondN (leftG (lsn0 P) r) (layN (lsn0 P) item).2.1).1 (layN (leftG (lsn0 P) r) item) (layN (rightG (lsn0 P)) item) (rootN (P.level + 1) f0 (borderG (lsn0 P)) r)
def enterN (P : Pg) (n : Int) (item : List UInt8) (fr : List Int) : Rc :=
 if (needN P n item).2 ≠ 0 then rc0 (needN P n item).2
 else if apartN fr (needN P n item).1 = false then rc0 1
 else if (needN P n item).1 = 0 then ((3, n, item, []), 0)
 else growN P n item (fr.getD 0 0) (fr.getD ((needN P n item).1.toNat - 1) 0) (needN P n item).1
theorem need_cases (P : Pg) (n : Int) (item : List UInt8) : ((needN P n item).1 = 0 ∧ (needN P n item).2 = (layN P item).2.2 ∧ (layN P item).2.2 ≠ 3) ∨ ((layN P item).2.2 = 3 ∧ (needN P n item = (1, 0) ∨ needN P n item = (2, 0))) := by
 unfold needN
 by_cases h : (layN P item).2.2 = 3
 ·rw [if_neg (fun h2 => h2 h)]
  refine .inr ⟨h, ?_⟩
  by_cases hn : n = 1
  ·rw [if_pos hn]; exact .inr rfl
  ·rw [if_neg hn]; exact .inl rfl
 ·rw [if_pos h]
  exact .inl ⟨rfl, rfl, h⟩
theorem lay_open {P : Pg} {item : List UInt8} (h : (layN P item).2.2 = 3) : openOk P = true := by
 cases ho : openOk P with
 | true => rfl
 | false =>
  unfold layN at h
  rw [ho] at h
  simp at h
theorem turned_fine (P : Pg) (l : List (List UInt8)) : (turnedN P l).1.items.length ≤ l.length ∧ (turnedN P l).1.high.length ≤ P.high.length := by
 unfold turnedN
 split
 ·exact ⟨Nat.le_refl _, Nat.le_refl _⟩
 ·exact ⟨Nat.zero_le _, Nat.zero_le _⟩
theorem ins_fine (P : Pg) (e : En) : (insN P e).1.items.length ≤ P.items.length + 1 ∧ (insN P e).1.high.length ≤ P.high.length := by
 unfold insN
 split
 ·split
  ·exact ⟨Nat.zero_le _, Nat.zero_le _⟩
  ·refine ⟨Nat.le_trans (turned_fine _ _).1 ?_, (turned_fine _ _).2⟩
   simp
   omega
 ·exact ⟨Nat.zero_le _, Nat.zero_le _⟩
theorem post_fine (P : Pg) (e : En) (c : Int) : (postN P e c).1.items.length ≤ P.items.length + 1 ∧ (postN P e c).1.high.length ≤ P.high.length := by
 unfold postN
 split
 ·split
  ·exact ⟨Nat.zero_le _, Nat.zero_le _⟩
  ·refine ⟨Nat.le_trans (turned_fine _ _).1 ?_, (turned_fine _ _).2⟩
   simp
   omega
 ·exact ⟨Nat.zero_le _, Nat.zero_le _⟩
theorem lay_fine (P : Pg) (item : List UInt8) : (layN P item).1.items.length ≤ P.items.length + 1 ∧ (layN P item).1.high.length ≤ P.high.length := by
 unfold layN
 split
 ·split
  ·split
   ·exact ⟨Nat.zero_le _, Nat.zero_le _⟩
   ·split
    ·exact ⟨Nat.zero_le _, Nat.zero_le _⟩
    ·exact ins_fine _ _
  ·split
   ·exact ⟨Nat.zero_le _, Nat.zero_le _⟩
   ·split
    ·exact ⟨Nat.zero_le _, Nat.zero_le _⟩
    ·exact post_fine _ _ _
 ·exact ⟨Nat.zero_le _, Nat.zero_le _⟩
theorem left_small {P : Pg} {r : Int} (h : splitOk P r = true) : (leftG P r).items.length ≤ 255 ∧ (leftG P r).high.length ≤ 255 ∧ ∀ x ∈ (leftG P r).items, x.length ≤ 512 := by
 obtain ⟨ho, h2, h3, h4, h5⟩ := split_facts h
 obtain ⟨f1, f2, f3, _⟩ := open_fine ho
 refine ⟨?_, ?_, ?_⟩
 ·simp only [leftG, List.length_take]; omega
 ·have := enBytes_length (borderG P) (border_ok h)
  simp only [leftG]; omega
 ·intro x hx
  exact f3 x (List.mem_of_mem_take hx)
theorem head_small (P : Pg) : (headG P).length ≤ 512 := by
 have h1 := sev_length leastE.1.length
 have h2 := sevs_length [leastE.2.1, leastE.2.2]
 have h3 := sevs_length [(kidsN P).getD (halfK P) 0]
 simp [headG, enBytes, txt, sevs, leastE] at *
 omega
theorem right_small {P : Pg} {r : Int} (h : splitOk P r = true) : (rightG P).items.length ≤ 255 ∧ (rightG P).high.length ≤ 255 ∧ ∀ x ∈ (rightG P).items, x.length ≤ 512 := by
 obtain ⟨ho, h2, h3, h4, h5⟩ := split_facts h
 obtain ⟨f1, f2, f3, _⟩ := open_fine ho
 refine ⟨?_, f2, ?_⟩
 ·have := rightI_length h
  simp only [rightG]; omega
 ·intro x hx
  simp only [rightG, rightI] at hx
  split at hx
  ·exact f3 x (List.mem_of_mem_drop hx)
  ·rcases List.mem_cons.1 hx with rfl | hx
   ·exact head_small P
   ·exact f3 x (List.mem_of_mem_drop hx)
theorem small_in {P : Pg} {w : World} {v : Value} (h : P.items.length ≤ 255 ∧ P.high.length ≤ 255 ∧ ∀ x ∈ P.items, x.length ≤ 512) (hl : P.lsn ≤ 9223372036854775807) (hi : Items w v P.items) : PgIn w v P :=
 ⟨hi, fun x hx => by have := h.2.2 x hx; omega, by have := h.2.1; omega, by have := h.1; omega, hl⟩
theorem small_fine {P : Pg} (h : P.items.length ≤ 255 ∧ P.high.length ≤ 255) : imFine P := ⟨by have := h.1; omega, by have := h.2; omega⟩
theorem lay_imFine {P : Pg} {item : List UInt8} (h : P.items.length ≤ 255 ∧ P.high.length ≤ 255) : imFine (layN P item).1 := ⟨by have := (lay_fine P item).1; omega, by have := (lay_fine P item).2; omega⟩
theorem root_fine (lv left : Int) (e : En) (r : Int) : imFine (rootN lv left e r).1 := by
 unfold rootN
 split
 ·exact ⟨by simp [rootP], by simp [rootP]⟩
 ·exact ⟨by simp [zeroP], by simp [zeroP]⟩
theorem open_lsn0 {P : Pg} (h : openOk P = true) : openOk (lsn0 P) = true := by
 unfold openOk headOk encOk rangeP at *
 simp only [Bool.and_eq_true] at h ⊢
 obtain ⟨⟨⟨⟨h1, h2⟩, h3⟩, h4⟩, h5⟩ := h
 refine ⟨⟨⟨⟨?_, h2⟩, h3⟩, h4⟩, h5⟩
 obtain ⟨⟨⟨⟨⟨⟨g1, g2⟩, g3⟩, g4⟩, g5⟩, g6⟩, g7⟩ := h1
 exact ⟨⟨⟨⟨⟨⟨rfl, g2⟩, g3⟩, g4⟩, g5⟩, g6⟩, g7⟩
theorem turned_lsn0 (P : Pg) (l : List (List UInt8)) : (turnedN (lsn0 P) l).2 = (turnedN P l).2 := by
 have e : fitsP { lsn0 P with items := l } = fitsP { P with items := l } := rfl
 unfold turnedN
 rw [e]
 split <;> rfl
theorem ins_lsn0 {P : Pg} (e : En) (h : openOk P = true) : (insN (lsn0 P) e).2 = (insN P e).2 := by
 unfold insN
 rw [h, open_lsn0 h]
 show (if true && (decide (P.level = 0) && (enOk e && !beyN (bdN P) (hiN P) e)) then (if decide (e ∈ ensN P) then (zeroP, (140 : Int)) else putN (lsn0 P) (posE (ensN P) e) (enBytes e [])) else (zeroP, 140)).2 = _
 split
 ·split
  ·rfl
  ·exact turned_lsn0 P _
 ·rfl
theorem post_lsn0 {P : Pg} (e : En) (c : Int) (h : openOk P = true) : (postN (lsn0 P) e c).2 = (postN P e c).2 := by
 have hp : postOk (lsn0 P) e c = postOk P e c := by
  unfold postOk
  rw [h, open_lsn0 h]
  rfl
 unfold postN
 rw [hp]
 show (if postOk P e c then (if decide (e ∈ ensN P) then (zeroP, (140 : Int)) else putN (lsn0 P) (posE (ensN P) e) (enBytes e [c])) else (zeroP, 140)).2 = _
 split
 ·split
  ·rfl
  ·exact turned_lsn0 P _
 ·rfl
theorem lay_lsn0 {P : Pg} (item : List UInt8) (h : openOk P = true) : (layN (lsn0 P) item).2 = (layN P item).2 := by
 unfold layN
 rw [h, open_lsn0 h]
 have e1 : (lsn0 P).level = P.level := rfl
 have e2 : ensN (lsn0 P) = ensN P := rfl
 rw [e1, e2, if_pos rfl, if_pos rfl]
 split
 ·split
  ·rfl
  ·split
   ·rfl
   ·rw [ins_lsn0 _ h]
 ·split
  ·rfl
  ·split
   ·rfl
   ·rw [post_lsn0 _ _ h]
end Go.Proofs.Ytaninphcgeaepaa
