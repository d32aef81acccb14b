import Derived.Test.YtaninphcgeaepaaKBe10
import Derived.Test.YtaninphcgeaepaaKBl1
import Derived.Test.YtaninphcgeaepaaKSl1
import Derived.Test.YtaninphcgeaepaaKCg6
namespace Go.Proofs.Ytaninphcgeaepaa
open Go.RowKit
abbrev Ks := List (En × Int)
def itB (lv : Int) (k : En × Int) : List UInt8 := if lv = 0 then enBytes k.1 [] else enBytes k.1 [k.2]
def hiB (h : Option En) : List UInt8 := match h with | none => [] | some e => enBytes e []
def nodeP (lv : Int) (ks : Ks) (r : Int) (h : Option En) : Pg := ⟨0, 3, lv, r, hiB h, ks.map (itB lv)⟩
def itOk (lv : Int) (j : Nat) (k : En × Int) : Prop := if lv = 0 then enOk k.1 = true ∧ k.2 = 0 else inB k.2 1 65535 = true ∧ (if j = 0 then k.1 = leastE else enOk k.1 = true)
structure NodeOk (lv : Int) (ks : Ks) (r : Int) (h : Option En) : Prop where
 lev : 0 ≤ lv ∧ lv ≤ 255
 rt : inB r 0 65535 = true
 up : Sorted (ks.map (·.1))
 ok : ∀ j (hj : j < ks.length), itOk lv j ks[j]
 hi : ∀ e, h = some e → enOk e = true ∧ ∀ k ∈ ks, cmpE k.1 e ≤ 0 ∧ (lv ≠ 0 → cmpE k.1 e < 0)
 fit : fitsP (nodeP lv ks r h) = true
 ne : lv = 0 ∨ 0 < ks.length
theorem item_nd {lv : Int} {j : Nat} {k : En × Int} (h : itOk lv j k) : itemN lv (itB lv k) = (k.1, k.2, 0) := by
 unfold itOk at h
 unfold itemN itB
 by_cases h0 : lv = 0
 ·rw [if_pos h0] at h
  rw [if_pos h0, if_pos h0, decN_of h.1, h.2]
 ·rw [if_neg h0] at h
  rw [if_neg h0, if_neg h0]
  refine unsN_of ?_ h.1
  by_cases hj : j = 0
  ·rw [if_pos hj] at h; exact .inl h.2
  ·rw [if_neg hj] at h; exact .inr h.2
theorem enBytes_ne {e : En} (h : enOk e = true) : enBytes e [] ≠ [] := by
 intro h1
 have := (enBytes_31 h).2
 rw [h1] at this
 simp at this
variable {lv r : Int} {ks : Ks} {h : Option En}
theorem nd_hi (H : NodeOk lv ks r h) : hiN (nodeP lv ks r h) = h.getD leastE ∧ bdN (nodeP lv ks r h) = h.isSome := by
 unfold hiN bdN nodeP hiB
 cases h with
 | none => exact ⟨rfl, rfl⟩
 | some e =>
  dsimp only
  have hne := enBytes_ne (H.hi e rfl).1
  rw [if_neg hne, decN_of (H.hi e rfl).1]
  refine ⟨rfl, ?_⟩
  simp [hne]
theorem nd_items (lv r : Int) (ks : Ks) (h : Option En) : (nodeP lv ks r h).items.length = ks.length := by simp [nodeP]
theorem nd_item (H : NodeOk lv ks r h) {j : Nat} (hj : j < ks.length) : itemN lv ((nodeP lv ks r h).items.getD j []) = (ks[j].1, ks[j].2, 0) := by
 have e : (nodeP lv ks r h).items.getD j [] = itB lv ks[j] := by simp [nodeP, hj]
 rw [e]
 exact item_nd (H.ok j hj)
theorem nd_ens (H : NodeOk lv ks r h) : ensN (nodeP lv ks r h) = ks.map (·.1) := by
 unfold ensN ensTo
 rw [List.take_of_length_le (Nat.le_refl _)]
 refine List.ext_getElem (by simp [nodeP]) fun j h1 h2 => ?_
 have hj : j < ks.length := by simpa using h2
 simp only [List.getElem_map]
 show (itemN lv ((nodeP lv ks r h).items[j]'(by simpa [nodeP] using hj))).1 = _
 rw [show (nodeP lv ks r h).items[j]'(by simpa [nodeP] using hj) = itB lv ks[j] by simp [nodeP], item_nd (H.ok j hj)]
theorem nd_kids (H : NodeOk lv ks r h) : kidsN (nodeP lv ks r h) = if lv = 0 then [] else ks.map (·.2) := by
 unfold kidsN kidsTo
 rw [show (nodeP lv ks r h).level = lv from rfl]
 split
 ·rfl
 ·rw [List.take_of_length_le (Nat.le_refl _)]
  refine List.ext_getElem (by simp [nodeP]) fun j h1 h2 => ?_
  have hj : j < ks.length := by simpa using h2
  simp only [List.getElem_map]
  rw [show (nodeP lv ks r h).items[j]'(by simpa [nodeP] using hj) = itB lv ks[j] by simp [nodeP], item_nd (H.ok j hj)]
theorem hiB_len {h : Option En} (hh : ∀ e, h = some e → enOk e = true) : (hiB h).length ≤ 31 := by
 cases h with
 | none => simp [hiB]
 | some e => exact (enBytes_31 (hh e rfl)).1
theorem nd_okTo (H : NodeOk lv ks r h) : ∀ k, k ≤ ks.length → okTo lv (h.getD leastE) h.isSome (nodeP lv ks r h).items k = true := by
 intro k
 induction k with
 | zero => intro _; rfl
 | succ k ih =>
  intro hk
  rw [okTo, ih (by omega), Bool.true_and, nd_item H (show k < ks.length by omega)]
  have hok := H.ok k (by omega)
  have hlo : lv = 0 ∨ decide (ks[k].1 = leastE) = decide (k = 0) := by
   rcases Decidable.em (lv = 0) with h0 | h0
   ·exact .inl h0
   ·refine .inr ?_
    unfold itOk at hok
    rw [if_neg h0] at hok
    by_cases hk0 : k = 0
    ·subst hk0
     have := hok.2
     simp only [if_true] at this
     simp [this]
    ·have := hok.2
     rw [if_neg hk0] at this
     have hne : ks[k].1 ≠ leastE := by
      intro e
      rw [e] at this
      exact absurd this (by decide)
     simp [hne, hk0]
  have hhi : h.isSome = false ∨ (¬ 0 < cmpE ks[k].1 (h.getD leastE) ∧ (lv ≠ 0 → cmpE ks[k].1 (h.getD leastE) < 0)) := by
   cases h with
   | none => exact .inl rfl
   | some e =>
    have := (H.hi e rfl).2 _ (List.getElem_mem (show k < ks.length by omega))
    exact .inr ⟨by simp only [Option.getD_some]; omega, this.2⟩
  have hpv : k = 0 ∨ cmpE (itemN lv ((nodeP lv ks r h).items.getD (k - 1) [])).1 ks[k].1 < 0 := by
   rcases Decidable.em (k = 0) with h0 | h0
   ·exact .inl h0
   ·refine .inr ?_
    rw [nd_item H (show k - 1 < ks.length by omega)]
    have := H.up.at (i := k - 1) (j := k) (by simp; omega) (by simp; omega) (by omega)
    simp only [List.getElem_map] at this
    show cmpE ks[k - 1].1 ks[k].1 < 0
    omega
  unfold roundOk
  dsimp only
  simp only [Bool.and_eq_true, Bool.or_eq_true, decide_eq_true_eq, beq_iff_eq, Bool.not_eq_true', Bool.or_eq_false_iff, decide_eq_false_iff_not, Bool.and_eq_false_iff]
  refine ⟨hlo.imp id id, trivial, hpv, ?_⟩
  rcases hhi with h1 | ⟨h1, h2⟩
  ·exact .inl h1
  ·refine .inr ⟨h1, ?_⟩
   rcases Decidable.em (lv = 0) with h0 | h0
   ·right; have := H.lev; omega
   ·left; have := h2 h0; omega
theorem nd_open (H : NodeOk lv ks r h) : openOk (nodeP lv ks r h) = true := by
 have h1 : encOk (nodeP lv ks r h) = true := by
  unfold encOk
  rw [H.fit]
  have := hiB_len (fun e he => (H.hi e he).1)
  have hr := H.rt
  unfold inB at hr
  unfold rangeP nodeP
  simp at hr ⊢
  have := H.lev
  omega
 have h2 : headOk (nodeP lv ks r h) = true := by
  unfold headOk
  rw [h1]
  have hr := H.rt
  have hd : (nodeP lv ks r h).high = [] ∨ (decN (nodeP lv ks r h).high).2 = 0 := by
   unfold nodeP hiB
   cases h with
   | none => exact .inl rfl
   | some e => exact .inr (by dsimp only; rw [decN_of (H.hi e rfl).1])
  simp only [Bool.and_eq_true, Bool.or_eq_true, decide_eq_true_eq]
  exact ⟨⟨trivial, rfl, hr⟩, hd⟩
 unfold openOk
 rw [h2, (nd_hi H).1, (nd_hi H).2, nd_items]
 have h3 := nd_okTo H ks.length (Nat.le_refl _)
 rw [show (nodeP lv ks r h).level = lv from rfl, h3]
 have := H.ne
 simpa using this
end Go.Proofs.Ytaninphcgeaepaa
namespace Go.Proofs.Ytaninphcgeaepaa
open Go.RowKit
def keysK (ks : Ks) : List En := ks.map (·.1)
def beyH (h : Option En) (e : En) : Bool := match h with | none => false | some b => decide (0 < cmpE e b)
def childK (ks : Ks) (e : En) : Int := (ks.map (·.2)).getD (posE (keysK ks) e - 1) 0
def insK (ks : Ks) (k : En × Int) : Ks := ks.take (posE (keysK ks) k.1) ++ k :: ks.drop (posE (keysK ks) k.1)
theorem keys_ins (ks : Ks) (k : En × Int) : keysK (insK ks k) = insL (keysK ks) k.1 := by
 unfold keysK insK insL
 rw [List.map_append, List.map_cons, List.map_take, List.map_drop]
 rfl
theorem insK_perm (ks : Ks) (k : En × Int) : (insK ks k).Perm (k :: ks) := by
 unfold insK
 have := List.perm_middle (a := k) (l₁ := ks.take (posE (keysK ks) k.1)) (l₂ := ks.drop (posE (keysK ks) k.1))
 rwa [List.take_append_drop] at this
variable {lv r : Int} {ks : Ks} {h : Option En}
theorem bey_nd (H : NodeOk lv ks r h) (e : En) : beyN (bdN (nodeP lv ks r h)) (hiN (nodeP lv ks r h)) e = beyH h e := by
 rw [(nd_hi H).1, (nd_hi H).2]
 unfold beyN beyH
 cases h with
 | none => rfl
 | some b => simp
theorem way_nd (H : NodeOk lv ks r h) (t : Int) (e : En) (he : enOk e = true) (ht : 0 ≤ t ∧ t ≤ lv) :
  wayN (nodeP lv ks r h) t e = if beyH h e then (r, false, 0) else if lv = t then (0, true, 0) else (childK ks e, false, 0) := by
 unfold wayN beyondN
 rw [nd_open H, he, bey_nd H e]
 have ht1 : decide (0 ≤ t) = true := decide_eq_true ht.1
 have ht2 : decide (t ≤ (nodeP lv ks r h).level) = true := decide_eq_true ht.2
 rw [ht1, ht2]
 simp only [Bool.and_self, if_true]
 rw [show (nodeP lv ks r h).right = r from rfl, show (nodeP lv ks r h).level = lv from rfl]
 cases hb : beyH h e with
 | true => simp
 | false =>
  simp only [Bool.false_eq_true, if_false]
  by_cases hl : lv = t
  ·rw [if_pos hl, if_pos hl]
  ·rw [if_neg hl, if_neg hl]
   have h0 : lv ≠ 0 := by omega
   unfold childN childOk
   rw [nd_open H, he, bey_nd H e, hb, nd_ens H, nd_kids H, if_neg h0, show (nodeP lv ks r h).level = lv from rfl, decide_eq_false h0]
   rfl
theorem put_items (k : En × Int) : (nodeP lv ks r h).items.take (posE (keysK ks) k.1) ++ itB lv k :: (nodeP lv ks r h).items.drop (posE (keysK ks) k.1) = (nodeP lv (insK ks k) r h).items := by
 unfold nodeP insK
 simp only [List.map_append, List.map_cons, List.map_take, List.map_drop]
theorem put_nd (H : NodeOk lv ks r h) (k : En × Int) : putN (nodeP lv ks r h) (posE (ensN (nodeP lv ks r h)) k.1) (itB lv k) = if fitsP (nodeP lv (insK ks k) r h) then (nodeP lv (insK ks k) r h, 0) else (zeroP, 3) := by
 have e : ∀ L, L = (nodeP lv (insK ks k) r h).items → ({ nodeP lv ks r h with items := L } : Pg) = nodeP lv (insK ks k) r h := by rintro L rfl; rfl
 unfold putN turnedN
 rw [nd_ens H, show ks.map (·.1) = keysK ks from rfl, e _ (put_items k)]
theorem layL_nd (H : NodeOk 0 ks r h) (e : En) (he : enOk e = true) (hb : beyH h e = false) :
  layN (nodeP 0 ks r h) (enBytes e []) = if e ∈ keysK ks then (zeroP, e, 150) else if fitsP (nodeP 0 (insK ks (e, 0)) r h) then (nodeP 0 (insK ks (e, 0)) r h, e, 0) else (zeroP, e, 3) := by
 unfold layN
 rw [nd_open H, decN_of he, nd_ens H]
 simp only [if_true, ne_eq, not_true_eq_false, if_false]
 rw [if_pos (show (nodeP 0 ks r h).level = 0 from rfl)]
 by_cases hm : e ∈ keysK ks
 ·rw [if_pos (show e ∈ ks.map (·.1) from hm), if_pos hm]
 ·rw [if_neg (show ¬ e ∈ ks.map (·.1) from hm), if_neg hm]
  unfold insN
  rw [nd_open H, he, bey_nd H e, hb]
  have hm2 : decide (e ∈ ensN (nodeP 0 ks r h)) = false := by rw [nd_ens H]; exact decide_eq_false hm
  rw [hm2, show enBytes e [] = itB 0 (e, 0) from rfl, put_nd H (e, 0)]
  simp only [show decide ((nodeP 0 ks r h).level = 0) = true from rfl, Bool.and_self, Bool.not_false, if_true, Bool.false_eq_true, if_false]
  split <;> rfl
theorem layI_nd (H : NodeOk lv ks r h) (hlv : lv ≠ 0) (e : En) (c : Int) (he : enOk e = true) (hc : inB c 1 65535 = true) (hb : ∀ b, h = some b → cmpE e b < 0) :
  layN (nodeP lv ks r h) (enBytes e [c]) = if e ∈ keysK ks then (zeroP, e, 150) else if fitsP (nodeP lv (insK ks (e, c)) r h) then (nodeP lv (insK ks (e, c)) r h, e, 0) else (zeroP, e, 3) := by
 have hnl : e ≠ leastE := by rintro rfl; exact absurd he (by decide)
 have hmt : e ∈ (ensN (nodeP lv ks r h)).drop 1 ↔ e ∈ keysK ks := by
  rw [least_tail (nd_open H) hlv, nd_ens H]
  exact ⟨fun h => h.1, fun h => ⟨h, hnl⟩⟩
 unfold layN
 rw [nd_open H, unsN_of (.inr he) hc]
 simp only [if_true, ne_eq, not_true_eq_false, if_false]
 rw [if_neg (show ¬ (nodeP lv ks r h).level = 0 from hlv)]
 by_cases hm : e ∈ keysK ks
 ·rw [if_pos (hmt.2 hm), if_pos hm]
 ·rw [if_neg (fun h => hm (hmt.1 h)), if_neg hm]
  have hbd : (bdN (nodeP lv ks r h) && decide (0 ≤ cmpE e (hiN (nodeP lv ks r h)))) = false := by
   rw [(nd_hi H).1, (nd_hi H).2]
   cases h with
   | none => rfl
   | some b =>
    have := hb b rfl
    simp only [Option.isSome_some, Option.getD_some, Bool.true_and, decide_eq_false_iff_not]
    omega
  have hm2 : decide (e ∈ ensN (nodeP lv ks r h)) = false := by rw [nd_ens H]; exact decide_eq_false hm
  unfold postN postOk
  rw [nd_open H, he, hc, hbd, hm2, show enBytes e [c] = itB lv (e, c) by unfold itB; rw [if_neg hlv], put_nd H (e, c), show (nodeP lv ks r h).level = lv from rfl, decide_eq_false hlv]
  simp only [Bool.not_false, Bool.and_self, if_true, Bool.false_eq_true, if_false]
  split <;> rfl
theorem ins_get1 {ks : Ks} {k : En × Int} {j : Nat} (hj : j < (insK ks k).length) (h1 : j < ks.length) (h2 : j < posE (keysK ks) k.1) : (insK ks k)[j] = ks[j] := by
 refine Option.some.inj ?_
 rw [← List.getElem?_eq_getElem hj, ← List.getElem?_eq_getElem h1]
 unfold insK
 rw [List.getElem?_append_left (by rw [List.length_take]; omega), List.getElem?_take, if_pos h2]
theorem ins_get2 {ks : Ks} {k : En × Int} {j : Nat} (hj : j < (insK ks k).length) (hp : posE (keysK ks) k.1 ≤ ks.length) (h2 : j = posE (keysK ks) k.1) : (insK ks k)[j] = k := by
 refine Option.some.inj ?_
 rw [← List.getElem?_eq_getElem hj]
 unfold insK
 have hl : (ks.take (posE (keysK ks) k.1)).length = j := by rw [List.length_take]; omega
 rw [List.getElem?_append_right (by omega), hl, Nat.sub_self]
 rfl
theorem ins_get3 {ks : Ks} {k : En × Int} {j : Nat} (hj : j < (insK ks k).length) (h1 : j - 1 < ks.length) (h2 : posE (keysK ks) k.1 < j) : (insK ks k)[j] = ks[j - 1] := by
 refine Option.some.inj ?_
 rw [← List.getElem?_eq_getElem hj, ← List.getElem?_eq_getElem h1]
 unfold insK
 have hl : (ks.take (posE (keysK ks) k.1)).length = posE (keysK ks) k.1 := by rw [List.length_take]; omega
 rw [List.getElem?_append_right (by omega), hl, List.getElem?_cons, if_neg (by omega), List.getElem?_drop]
 congr 1
 omega
theorem ins_nd (H : NodeOk lv ks r h) (k : En × Int) (hk : enOk k.1 = true) (hi : if lv = 0 then k.2 = 0 else inB k.2 1 65535 = true) (hb : ∀ b, h = some b → cmpE k.1 b ≤ 0 ∧ (lv ≠ 0 → cmpE k.1 b < 0)) (hn : k.1 ∉ keysK ks) (hf : fitsP (nodeP lv (insK ks k) r h) = true) : NodeOk lv (insK ks k) r h := by
 have hp := insK_perm ks k
 refine ⟨H.lev, H.rt, ?_, ?_, ?_, hf, ?_⟩
 ·rw [show (insK ks k).map (·.1) = insL (keysK ks) k.1 from keys_ins ks k]
  exact insL_sorted H.up hn
 ·intro j hj
  by_cases h0 : lv = 0
  ·have hall : ∀ x ∈ insK ks k, enOk x.1 = true ∧ x.2 = 0 := by
    intro x hx
    rcases List.mem_cons.1 (hp.mem_iff.1 hx) with rfl | hx
    ·rw [if_pos h0] at hi; exact ⟨hk, hi⟩
    ·obtain ⟨i, hi2, rfl⟩ := List.getElem_of_mem hx
     have := H.ok i hi2
     unfold itOk at this
     rwa [if_pos h0] at this
   unfold itOk
   rw [if_pos h0]
   exact hall _ (List.getElem_mem hj)
  ·have hne : 0 < ks.length := H.ne.elim (fun h => absurd h h0) id
   have h1 := H.ok 0 hne
   unfold itOk at h1
   rw [if_neg h0, if_pos rfl] at h1
   have hpos : 1 ≤ posE (keysK ks) k.1 := by
    have hx := pos_one (nd_open H) h0 hk
    rwa [nd_ens H] at hx
   have hple : posE (keysK ks) k.1 ≤ ks.length := by have := posE_le (keysK ks) k.1; simpa [keysK] using this
   unfold itOk
   rw [if_neg h0]
   rw [if_neg h0] at hi
   by_cases hj0 : j = 0
   ·subst hj0
    have e : (insK ks k)[0] = ks[0] := ins_get1 hj hne (by omega)
    rw [if_pos rfl, e]
    exact h1
   ·rw [if_neg hj0]
    have hall : ∀ i (hi2 : i < ks.length), i ≠ 0 → inB ks[i].2 1 65535 = true ∧ enOk ks[i].1 = true := by
     intro i hi2 hi0
     have := H.ok i hi2
     unfold itOk at this
     rwa [if_neg h0, if_neg hi0] at this
    rcases Nat.lt_trichotomy j (posE (keysK ks) k.1) with hlt | heq | hgt
    ·have e : (insK ks k)[j] = ks[j]'(by omega) := ins_get1 hj (by omega) hlt
     rw [e]
     exact hall j (by omega) hj0
    ·have e : (insK ks k)[j] = k := ins_get2 hj hple heq
     rw [e]
     exact ⟨hi, hk⟩
    ·have hlj : j < ks.length + 1 := by have := hp.length_eq; simp at this; omega
     have e : (insK ks k)[j] = ks[j - 1]'(by omega) := ins_get3 hj (by omega) hgt
     rw [e]
     exact hall (j - 1) (by omega) (by omega)
 ·intro b hb2
  refine ⟨(H.hi b hb2).1, fun x hx => ?_⟩
  rcases List.mem_cons.1 (hp.mem_iff.1 hx) with rfl | hx
  ·exact hb b hb2
  ·exact (H.hi b hb2).2 x hx
 ·have := hp.length_eq
  rcases H.ne with h0 | h0
  ·exact .inl h0
  ·exact .inr (by simp at this; omega)
end Go.Proofs.Ytaninphcgeaepaa
namespace Go.Proofs.Ytaninphcgeaepaa
open Go.RowKit
theorem sev_one {n : Nat} (h : n < 9223372036854775808) : 1 ≤ (sev n).length := by
 rcases Nat.lt_or_ge n 128 with h1 | h1
 ·rw [sev_small n h1]; simp
 ·rw [sev_big n h1 h]; simp
theorem enBytes_4 {e : En} (h : enOk e = true) : 4 ≤ (enBytes e []).length := by
 simp only [enOk, inB, Bool.and_eq_true, decide_eq_true_eq] at h
 have h1 := sev_one (n := e.1.length) (by omega)
 have h2 := sev_one (n := e.2.1.toNat) (by omega)
 have h3 := sev_one (n := e.2.2.toNat) (by omega)
 simp only [enBytes, sevs, List.flatMap_cons, List.flatMap_nil, List.length_append, List.length_nil, txt_len]
 omega
theorem child_len {c : Int} (h : inB c 1 65535 = true) : 1 ≤ (sevs [c]).length ∧ (sevs [c]).length ≤ 3 := by
 simp only [inB, Bool.and_eq_true, decide_eq_true_eq] at h
 have h1 := sev_one (n := c.toNat) (by omega)
 have h2 := sev_upto (n := c.toNat) (f := 3) (by omega) (by omega) (by omega)
 simp only [sevs, List.flatMap_cons, List.flatMap_nil, List.append_nil]
 exact ⟨h1, h2⟩
theorem enBytes_add (e : En) (c : Int) : (enBytes e [c]).length = (enBytes e []).length + (sevs [c]).length := by
 simp [enBytes, sevs]
 omega
theorem least_len : (enBytes leastE []).length = 3 := by kernel_rfl
theorem it_len {lv : Int} {j : Nat} {k : En × Int} (h : itOk lv j k) : 4 ≤ (itB lv k).length ∧ (lv = 0 → (itB lv k).length ≤ 31) ∧ (itB lv k).length ≤ 34 ∧ (lv ≠ 0 → j ≠ 0 → 5 ≤ (itB lv k).length) := by
 unfold itOk at h
 unfold itB
 by_cases h0 : lv = 0
 ·rw [if_pos h0] at h ⊢
  have h1 := enBytes_31 h.1
  have h2 := enBytes_4 h.1
  exact ⟨h2, fun _ => h1.1, by omega, fun h => absurd h0 h⟩
 ·rw [if_neg h0] at h ⊢
  have hc := child_len h.1
  rw [enBytes_add]
  by_cases hj : j = 0
  ·rw [if_pos hj] at h
   rw [h.2, least_len]
   exact ⟨by omega, fun h => absurd h h0, by omega, fun _ h => absurd hj h⟩
  ·rw [if_neg hj] at h
   have h1 := enBytes_31 h.2
   have h2 := enBytes_4 h.2
   exact ⟨by omega, fun h => absurd h h0, by omega, fun _ _ => by omega⟩
theorem sumL_low {l : List (List UInt8)} {a : Nat} (h : ∀ x ∈ l, a ≤ x.length) : (2 + a) * l.length ≤ sumL l := by
 induction l with
 | nil => simp [sumL]
 | cons x l ih =>
  have h1 := h x (by simp)
  have h2 := ih fun y hy => h y (by simp [hy])
  simp only [sumL, List.length_cons, Nat.mul_succ]
  omega
theorem sumL_high {l : List (List UInt8)} {a : Nat} (h : ∀ x ∈ l, x.length ≤ a) : sumL l ≤ (2 + a) * l.length := by
 induction l with
 | nil => simp [sumL]
 | cons x l ih =>
  have h1 := h x (by simp)
  have h2 := ih fun y hy => h y (by simp [hy])
  simp only [sumL, List.length_cons, Nat.mul_succ]
  omega
def sumK (lv : Int) (ks : Ks) : Nat := sumL (ks.map (itB lv))
theorem sumK_append (lv : Int) (a b : Ks) : sumK lv (a ++ b) = sumK lv a + sumK lv b := by unfold sumK; rw [List.map_append, sumL_append]
theorem sumK_cons (lv : Int) (k : En × Int) (a : Ks) : sumK lv (k :: a) = 2 + (itB lv k).length + sumK lv a := rfl
theorem sumK_take (lv : Int) (ks : Ks) (m : Nat) : sumK lv (ks.take m) + sumK lv (ks.drop m) = sumK lv ks := by
 rw [← sumK_append, List.take_append_drop]
theorem sumK_ins (lv : Int) (ks : Ks) (k : En × Int) : sumK lv (insK ks k) = sumK lv ks + (2 + (itB lv k).length) := by
 unfold insK
 rw [sumK_append, sumK_cons, ← sumK_take lv ks (posE (keysK ks) k.1)]
 omega
theorem fit_iff (lv : Int) (ks : Ks) (r : Int) (h : Option En) : fitsP (nodeP lv ks r h) = true ↔ ks.length ≤ 255 ∧ 20 + (hiB h).length + sumK lv ks ≤ 512 := by
 unfold fitsP sizeP
 simp only [Bool.and_eq_true, decide_eq_true_eq, nd_items]
 exact Iff.rfl
variable {lv r : Int} {ks : Ks} {h : Option En}
theorem ks_low (H : NodeOk lv ks r h) {m : Nat} : 6 * (ks.take m).length ≤ sumK lv (ks.take m) := by
 have := sumL_low (l := (ks.take m).map (itB lv)) (a := 4) (by
  intro x hx
  obtain ⟨k, hk, rfl⟩ := List.mem_map.1 hx
  obtain ⟨j, hj, rfl⟩ := List.getElem_of_mem (List.mem_of_mem_take hk)
  exact (it_len (H.ok j hj)).1)
 simpa [sumK] using this
theorem ks_high (H : NodeOk lv ks r h) {m : Nat} : sumK lv (ks.take m) ≤ 36 * (ks.take m).length ∧ (lv = 0 → sumK lv (ks.take m) ≤ 33 * (ks.take m).length) := by
 constructor
 ·have := sumL_high (l := (ks.take m).map (itB lv)) (a := 34) (by
   intro x hx
   obtain ⟨k, hk, rfl⟩ := List.mem_map.1 hx
   obtain ⟨j, hj, rfl⟩ := List.getElem_of_mem (List.mem_of_mem_take hk)
   exact (it_len (H.ok j hj)).2.2.1)
  simpa [sumK] using this
 ·intro h0
  have := sumL_high (l := (ks.take m).map (itB lv)) (a := 31) (by
   intro x hx
   obtain ⟨k, hk, rfl⟩ := List.mem_map.1 hx
   obtain ⟨j, hj, rfl⟩ := List.getElem_of_mem (List.mem_of_mem_take hk)
   exact (it_len (H.ok j hj)).2.1 h0)
  simpa [sumK] using this
theorem ks_tail (H : NodeOk lv ks r h) {m : Nat} (hm : m ≠ 0) : 6 * (ks.drop m).length ≤ sumK lv (ks.drop m) ∧ (lv ≠ 0 → 7 * (ks.drop m).length ≤ sumK lv (ks.drop m)) := by
 have hd : ∀ k ∈ ks.drop m, ∃ j, ∃ hj : j < ks.length, j ≠ 0 ∧ ks[j] = k := by
  intro k hk
  obtain ⟨i, hi, rfl⟩ := List.getElem_of_mem hk
  rw [List.length_drop] at hi
  exact ⟨m + i, by omega, by omega, by simp⟩
 constructor
 ·have := sumL_low (l := (ks.drop m).map (itB lv)) (a := 4) (by
   intro x hx
   obtain ⟨k, hk, rfl⟩ := List.mem_map.1 hx
   obtain ⟨j, hj, _, rfl⟩ := hd k hk
   exact (it_len (H.ok j hj)).1)
  simpa [sumK] using this
 ·intro h0
  have := sumL_low (l := (ks.drop m).map (itB lv)) (a := 5) (by
   intro x hx
   obtain ⟨k, hk, rfl⟩ := List.mem_map.1 hx
   obtain ⟨j, hj, hj0, rfl⟩ := hd k hk
   exact (it_len (H.ok j hj)).2.2.2 h0 hj0)
  simpa [sumK] using this
theorem full_len (H : NodeOk lv ks r h) {x : Nat} (hx : x ≤ 34) (hf : ¬ (ks.length + 1 ≤ 255 ∧ 20 + (hiB h).length + (sumK lv ks + (2 + x)) ≤ 512)) : 12 ≤ ks.length := by
 have h1 := (fit_iff lv ks r h).1 H.fit
 have h2 := (ks_high H (m := ks.length)).1
 have h3 := ks_low H (m := ks.length)
 have h4 := hiB_len (fun e he => (H.hi e he).1)
 rw [List.take_length] at h2 h3
 omega
def halfM (ks : Ks) : Nat := (ks.length + 1) / 2
def bordK (lv : Int) (ks : Ks) : En := (keysK ks).getD (if lv = 0 then halfM ks - 1 else halfM ks) leastE
def leftK (ks : Ks) : Ks := ks.take (halfM ks)
def rightK (lv : Int) (ks : Ks) : Ks := if lv = 0 then ks.drop (halfM ks) else (leastE, (ks.map (·.2)).getD (halfM ks) 0) :: ks.drop (halfM ks + 1)
theorem lsn0_nd (lv r : Int) (ks : Ks) (h : Option En) : lsn0 (nodeP lv ks r h) = nodeP lv ks r h := rfl
theorem border_nd (H : NodeOk lv ks r h) : borderG (nodeP lv ks r h) = bordK lv ks := by
 unfold borderG halfK bordK halfM
 rw [nd_ens H, nd_items]
 rfl
theorem left_nd (H : NodeOk lv ks r h) (r' : Int) : leftG (nodeP lv ks r h) r' = nodeP lv (leftK ks) r' (some (bordK lv ks)) := by
 unfold leftG
 rw [border_nd H]
 unfold halfK nodeP leftK halfM hiB
 simp only [List.map_take, List.length_map]
theorem right_nd (H : NodeOk lv ks r h) : rightG (nodeP lv ks r h) = nodeP lv (rightK lv ks) r h := by
 unfold rightG rightI headG halfK
 rw [nd_kids H, nd_items]
 rw [show (nodeP lv ks r h).level = lv from rfl]
 unfold rightK
 by_cases h0 : lv = 0
 ·rw [if_pos h0, if_pos h0]
  unfold nodeP halfM
  simp only [List.map_drop]
 ·rw [if_neg h0, if_neg h0, if_neg h0]
  unfold nodeP halfM
  simp only [List.map_cons, List.map_drop]
  congr 1
  unfold itB
  rw [if_neg h0]
theorem split_nd (H : NodeOk lv ks r h) (h2 : 2 ≤ ks.length) {r' : Int} (hr : inB r' 1 65535 = true) : splitOk (nodeP lv ks r h) r' = true := by
 unfold splitOk
 rw [nd_open H, nd_items, hr]
 simpa using h2
end Go.Proofs.Ytaninphcgeaepaa
namespace Go.Proofs.Ytaninphcgeaepaa
open Go.RowKit
variable {lv r : Int} {ks : Ks} {h : Option En}
theorem half_sizes (h12 : 12 ≤ ks.length) : 6 ≤ halfM ks ∧ halfM ks ≤ ks.length ∧ 6 ≤ ks.length - halfM ks ∧ halfM ks ≤ (ks.length - halfM ks) + 1 := by
 unfold halfM
 omega
theorem nd_enOk (H : NodeOk lv ks r h) {j : Nat} (hj : j < ks.length) (h0 : lv = 0 ∨ j ≠ 0) : enOk ks[j].1 = true := by
 have := H.ok j hj
 unfold itOk at this
 by_cases hl : lv = 0
 ·rw [if_pos hl] at this; exact this.1
 ·rw [if_neg hl, if_neg (h0.elim (fun h => absurd h hl) id)] at this; exact this.2
theorem bord_at (_H : NodeOk lv ks r h) (h12 : 12 ≤ ks.length) : ∃ j, ∃ hj : j < ks.length, bordK lv ks = ks[j].1 ∧ j = (if lv = 0 then halfM ks - 1 else halfM ks) ∧ j ≠ 0 := by
 obtain ⟨a, b, c, _⟩ := half_sizes h12
 by_cases h0 : lv = 0
 ·refine ⟨halfM ks - 1, by omega, ?_, by rw [if_pos h0], by omega⟩
  unfold bordK keysK
  rw [if_pos h0]
  simp [show halfM ks - 1 < ks.length by omega]
 ·refine ⟨halfM ks, by omega, ?_, by rw [if_neg h0], by omega⟩
  unfold bordK keysK
  rw [if_neg h0]
  simp [show halfM ks < ks.length by omega]
theorem bord_ok (H : NodeOk lv ks r h) (h12 : 12 ≤ ks.length) : enOk (bordK lv ks) = true ∧ bordK lv ks ∈ keysK ks := by
 obtain ⟨j, hj, e, _, h0⟩ := bord_at H h12
 rw [e]
 exact ⟨nd_enOk H hj (.inr h0), List.mem_map.2 ⟨_, List.getElem_mem hj, rfl⟩⟩
theorem nd_lt (H : NodeOk lv ks r h) {i j : Nat} (hi : i < ks.length) (hj : j < ks.length) (hij : i < j) : cmpE ks[i].1 ks[j].1 = -1 := by
 have := H.up.at (i := i) (j := j) (by simpa using hi) (by simpa using hj) hij
 simpa using this
theorem left_ok (H : NodeOk lv ks r h) (h12 : 12 ≤ ks.length) {r' : Int} (hr : inB r' 0 65535 = true) : NodeOk lv (leftK ks) r' (some (bordK lv ks)) := by
 obtain ⟨a, b, c, _⟩ := half_sizes h12
 obtain ⟨jb, hjb, eb, ejb, hjb0⟩ := bord_at H h12
 have hll : (leftK ks).length = halfM ks := by unfold leftK; rw [List.length_take]; omega
 have hget : ∀ j (hj : j < (leftK ks).length), (leftK ks)[j] = ks[j]'(by omega) := fun j hj => by
  refine Option.some.inj ?_
  rw [← List.getElem?_eq_getElem hj, ← List.getElem?_eq_getElem (by omega)]
  unfold leftK
  rw [List.getElem?_take, if_pos (by omega)]
 refine ⟨H.lev, hr, ?_, ?_, ?_, ?_, .inr (by omega)⟩
 ·have : (leftK ks).map (·.1) = (ks.map (·.1)).take (halfM ks) := by unfold leftK; rw [List.map_take]
  rw [this]
  exact List.Pairwise.sublist (List.take_sublist _ _) H.up
 ·intro j hj
  rw [hget j hj]
  exact H.ok j (by omega)
 ·rintro e ⟨⟩
  refine ⟨(bord_ok H h12).1, fun k hk => ?_⟩
  obtain ⟨j, hj, rfl⟩ := List.getElem_of_mem hk
  rw [hget j hj, eb]
  rcases Nat.lt_or_ge j jb with hlt | hge
  ·have := nd_lt H (show j < ks.length by omega) hjb hlt
   exact ⟨by omega, fun _ => by omega⟩
  ·by_cases h0 : lv = 0
   ·rw [if_pos h0] at ejb
    have : j = jb := by omega
    subst this
    rw [cmpE_self]
    exact ⟨Int.le_refl _, fun h => absurd h0 h⟩
   ·rw [if_neg h0] at ejb
    omega
 ·rw [fit_iff]
  have h1 := (fit_iff lv ks r h).1 H.fit
  have h2 := (ks_tail H (m := halfM ks) (by omega)).1
  have h3 := sumK_take lv ks (halfM ks)
  have h4 : (hiB (some (bordK lv ks))).length ≤ 31 := (enBytes_31 (bord_ok H h12).1).1
  rw [List.length_drop] at h2
  refine ⟨by omega, ?_⟩
  unfold leftK
  omega
theorem right_sum (H : NodeOk lv ks r h) (h12 : 12 ≤ ks.length) : sumK lv (rightK lv ks) ≤ sumK lv (ks.drop (halfM ks)) ∧ (rightK lv ks).length = ks.length - halfM ks := by
 obtain ⟨a, b, c, _⟩ := half_sizes h12
 unfold rightK
 by_cases h0 : lv = 0
 ·rw [if_pos h0]; exact ⟨Nat.le_refl _, List.length_drop ..⟩
 ·rw [if_neg h0]
  have hm : halfM ks < ks.length := by omega
  have hd : ks.drop (halfM ks) = ks[halfM ks] :: ks.drop (halfM ks + 1) := List.drop_eq_getElem_cons hm
  rw [hd, sumK_cons, sumK_cons]
  have e : (ks.map (·.2)).getD (halfM ks) 0 = ks[halfM ks].2 := by simp [hm]
  rw [e]
  have h1 := nd_enOk H hm (.inr (by omega))
  have h2 : (itB lv (leastE, ks[halfM ks].2)).length ≤ (itB lv ks[halfM ks]).length := by
   unfold itB
   rw [if_neg h0, if_neg h0, enBytes_add, enBytes_add, least_len]
   have := enBytes_4 h1
   dsimp only
   omega
  refine ⟨by omega, ?_⟩
  rw [List.length_cons, List.length_drop]
  omega
theorem right_get (hl : lv ≠ 0) {j : Nat} (hj : j < (rightK lv ks).length) (h0 : j ≠ 0) : ∃ hk : halfM ks + j < ks.length, (rightK lv ks)[j] = ks[halfM ks + j] := by
 have hk : halfM ks + j < ks.length := by
  unfold rightK at hj
  rw [if_neg hl, List.length_cons, List.length_drop] at hj
  omega
 refine ⟨hk, Option.some.inj ?_⟩
 rw [← List.getElem?_eq_getElem hj, ← List.getElem?_eq_getElem hk]
 unfold rightK
 rw [if_neg hl, List.getElem?_cons, if_neg h0, List.getElem?_drop]
 congr 1
 omega
theorem right_zero (hl : lv ≠ 0) (hj : 0 < (rightK lv ks).length) : (rightK lv ks)[0] = (leastE, (ks.map (·.2)).getD (halfM ks) 0) := by
 refine Option.some.inj ?_
 rw [← List.getElem?_eq_getElem hj]
 unfold rightK
 rw [if_neg hl]
 rfl
theorem right_ok (H : NodeOk lv ks r h) (h12 : 12 ≤ ks.length) : NodeOk lv (rightK lv ks) r h := by
 obtain ⟨a, b, c, _⟩ := half_sizes h12
 obtain ⟨hsum, hlen⟩ := right_sum H h12
 have hfit : fitsP (nodeP lv (rightK lv ks) r h) = true := by
  rw [fit_iff]
  have h1 := (fit_iff lv ks r h).1 H.fit
  have h3 := sumK_take lv ks (halfM ks)
  exact ⟨by omega, by omega⟩
 by_cases h0 : lv = 0
 ·have e : rightK lv ks = ks.drop (halfM ks) := by unfold rightK; rw [if_pos h0]
  have hget : ∀ j (hj : j < (rightK lv ks).length), (rightK lv ks)[j] = ks[halfM ks + j]'(by omega) := fun j hj => by
   refine Option.some.inj ?_
   rw [← List.getElem?_eq_getElem hj, ← List.getElem?_eq_getElem (by omega), e, List.getElem?_drop]
  refine ⟨H.lev, H.rt, ?_, ?_, ?_, hfit, .inl h0⟩
  ·rw [e, List.map_drop]
   exact List.Pairwise.sublist (List.drop_sublist _ _) H.up
  ·intro j hj
   rw [hget j hj]
   have := H.ok (halfM ks + j) (by omega)
   unfold itOk at this ⊢
   rw [if_pos h0] at this ⊢
   exact this
  ·intro b hb
   refine ⟨(H.hi b hb).1, fun k hk => (H.hi b hb).2 k ?_⟩
   rw [e] at hk
   exact List.mem_of_mem_drop hk
 ·refine ⟨H.lev, H.rt, ?_, ?_, ?_, hfit, .inr (by omega)⟩
  ·refine List.pairwise_iff_getElem.2 fun i j hi hj hij => ?_
   have hj2 : j < (rightK lv ks).length := by simpa using hj
   obtain ⟨hk, ej⟩ := right_get h0 hj2 (by omega)
   simp only [List.getElem_map]
   rw [ej]
   by_cases hi0 : i = 0
   ·subst hi0
    rw [right_zero h0 (by omega)]
    have := least_lt (nd_enOk H hk (.inr (by omega)))
    have h3 := cmpE_three leastE ks[halfM ks + j].1
    dsimp only
    omega
   ·obtain ⟨hki, ei⟩ := right_get h0 (show i < (rightK lv ks).length by omega) hi0
    rw [ei]
    exact nd_lt H hki hk (by omega)
  ·intro j hj
   unfold itOk
   rw [if_neg h0]
   by_cases hj0 : j = 0
   ·subst hj0
    rw [right_zero h0 hj, if_pos rfl]
    have := H.ok (halfM ks) (by omega)
    unfold itOk at this
    rw [if_neg h0] at this
    simp only [List.getD_eq_getElem?_getD, List.getElem?_map, List.getElem?_eq_getElem (show halfM ks < ks.length by omega), Option.map_some, Option.getD_some]
    exact ⟨this.1, trivial⟩
   ·obtain ⟨hk, e⟩ := right_get h0 hj hj0
    rw [e, if_neg hj0]
    have := H.ok (halfM ks + j) hk
    unfold itOk at this
    rw [if_neg h0, if_neg (by omega)] at this
    exact this
  ·intro b hb
   refine ⟨(H.hi b hb).1, fun k hk => ?_⟩
   obtain ⟨j, hj, rfl⟩ := List.getElem_of_mem hk
   by_cases hj0 : j = 0
   ·subst hj0
    rw [right_zero h0 hj]
    have := least_lt (H.hi b hb).1
    dsimp only
    exact ⟨by omega, fun _ => this⟩
   ·obtain ⟨hk2, e⟩ := right_get h0 hj hj0
    rw [e]
    exact (H.hi b hb).2 _ (List.getElem_mem hk2)
theorem left_fits (H : NodeOk lv ks r h) (h12 : 12 ≤ ks.length) (r' : Int) (k : En × Int) (hk : enOk k.1 = true) (hc : lv ≠ 0 → inB k.2 1 65535 = true) : fitsP (nodeP lv (insK (leftK ks) k) r' (some (bordK lv ks))) = true := by
 obtain ⟨a, b, c, d⟩ := half_sizes h12
 rw [fit_iff, sumK_ins, (insK_perm (leftK ks) k).length_eq]
 have h1 := (fit_iff lv ks r h).1 H.fit
 have h2 := ks_tail H (m := halfM ks) (by omega)
 have h3 := sumK_take lv ks (halfM ks)
 have h4 : (hiB (some (bordK lv ks))).length ≤ 31 := (enBytes_31 (bord_ok H h12).1).1
 have h5 := ks_high H (m := halfM ks)
 have h6 : (leftK ks).length = halfM ks := by unfold leftK; rw [List.length_take]; omega
 have h7 : sumK lv (leftK ks) = sumK lv (ks.take (halfM ks)) := rfl
 have h8 : (ks.take (halfM ks)).length = halfM ks := by rw [List.length_take]; omega
 rw [List.length_drop] at h2
 rw [h8] at h5
 have hen := enBytes_31 hk
 rw [List.length_cons, h6, h7]
 by_cases h0 : lv = 0
 ·have h9 : (itB lv k).length ≤ 31 := by unfold itB; rw [if_pos h0]; exact hen.1
  have h10 := h5.2 h0
  exact ⟨by omega, by omega⟩
 ·have h9 : (itB lv k).length ≤ 34 := by unfold itB; rw [if_neg h0, enBytes_add]; have := child_len (hc h0); omega
  have h10 := h2.2 h0
  exact ⟨by omega, by omega⟩
theorem right_fits (H : NodeOk lv ks r h) (h12 : 12 ≤ ks.length) (k : En × Int) (hk : enOk k.1 = true) (hc : lv ≠ 0 → inB k.2 1 65535 = true) : fitsP (nodeP lv (insK (rightK lv ks) k) r h) = true := by
 obtain ⟨a, b, c, d⟩ := half_sizes h12
 obtain ⟨hsum, hlen⟩ := right_sum H h12
 rw [fit_iff, sumK_ins, (insK_perm (rightK lv ks) k).length_eq]
 have h1 := (fit_iff lv ks r h).1 H.fit
 have h2 := ks_low H (m := halfM ks)
 have h3 := sumK_take lv ks (halfM ks)
 have h8 : (ks.take (halfM ks)).length = halfM ks := by rw [List.length_take]; omega
 rw [h8] at h2
 have hen := enBytes_31 hk
 have h9 : (itB lv k).length ≤ 34 := by
  unfold itB
  by_cases h0 : lv = 0
  ·rw [if_pos h0]; omega
  ·rw [if_neg h0, enBytes_add]; have := child_len (hc h0); omega
 rw [List.length_cons, hlen]
 exact ⟨by omega, by omega⟩
end Go.Proofs.Ytaninphcgeaepaa
namespace Go.Proofs.Ytaninphcgeaepaa
open Go.RowKit
structure Comes (lv : Int) (h : Option En) (e : En) (c : Int) : Prop where
 ok : enOk e = true
 ch : if lv = 0 then c = 0 else inB c 1 65535 = true
 bd : if lv = 0 then beyH h e = false else ∀ b, h = some b → cmpE e b < 0
variable {lv r : Int} {ks : Ks} {h : Option En} {e : En} {c : Int}
theorem lay_nd (H : NodeOk lv ks r h) (F : Comes lv h e c) :
  layN (nodeP lv ks r h) (itB lv (e, c)) = if e ∈ keysK ks then (zeroP, e, 150) else if fitsP (nodeP lv (insK ks (e, c)) r h) then (nodeP lv (insK ks (e, c)) r h, e, 0) else (zeroP, e, 3) := by
 by_cases h0 : lv = 0
 ·subst h0
  have hc := F.ch
  have hb := F.bd
  rw [if_pos rfl] at hc hb
  subst hc
  exact layL_nd H e F.ok hb
 ·have hc := F.ch
  have hb := F.bd
  rw [if_neg h0] at hc hb
  rw [show itB lv (e, c) = enBytes e [c] by unfold itB; rw [if_neg h0]]
  exact layI_nd H h0 e c F.ok hc hb
theorem comes_ok (H : NodeOk lv ks r h) (F : Comes lv h e c) (hn : e ∉ keysK ks) (hf : fitsP (nodeP lv (insK ks (e, c)) r h) = true) : NodeOk lv (insK ks (e, c)) r h := by
 refine ins_nd H (e, c) F.ok F.ch (fun b hb => ?_) hn hf
 have h1 := F.bd
 by_cases h0 : lv = 0
 ·rw [if_pos h0] at h1
  rw [hb] at h1
  have h2 : ¬ 0 < cmpE e b := by simpa [beyH] using h1
  exact ⟨by dsimp only; omega, fun h => absurd h0 h⟩
 ·rw [if_neg h0] at h1
  have := h1 b hb
  exact ⟨by dsimp only; omega, fun _ => this⟩
theorem itB_le (F : Comes lv h e c) : (itB lv (e, c)).length ≤ 34 := by
 have hc := F.ch
 have hen := enBytes_31 F.ok
 unfold itB
 by_cases h0 : lv = 0
 ·rw [if_pos h0]; dsimp only; omega
 ·rw [if_neg h0] at hc ⊢
  rw [enBytes_add]
  have := child_len hc
  dsimp only
  omega
theorem full_12 (H : NodeOk lv ks r h) (F : Comes lv h e c) (hf : ¬ fitsP (nodeP lv (insK ks (e, c)) r h) = true) : 12 ≤ ks.length := by
 refine full_len H (itB_le F) fun hx => hf ?_
 rw [fit_iff, sumK_ins, (insK_perm ks (e, c)).length_eq, List.length_cons]
 exact hx
theorem need_nd (H : NodeOk lv ks r h) (F : Comes lv h e c) (n : Int) :
  needN (nodeP lv ks r h) n (itB lv (e, c)) = if e ∈ keysK ks then (0, 150) else if fitsP (nodeP lv (insK ks (e, c)) r h) then (0, 0) else if n = 1 then (2, 0) else (1, 0) := by
 unfold needN
 rw [lay_nd H F]
 by_cases hm : e ∈ keysK ks
 ·rw [if_pos hm, if_pos hm]; rfl
 ·rw [if_neg hm, if_neg hm]
  split
  ·rfl
  ·rfl
def outH (lv : Int) (ks : Ks) (e : En) : Bool := decide (0 < cmpE e (bordK lv ks))
def listA (lv : Int) (ks : Ks) (e : En) (c : Int) : Ks := if outH lv ks e then leftK ks else insK (leftK ks) (e, c)
def listB (lv : Int) (ks : Ks) (e : En) (c : Int) : Ks := if outH lv ks e then insK (rightK lv ks) (e, c) else rightK lv ks
theorem left_keys {x : En} (hx : x ∈ keysK (leftK ks)) : x ∈ keysK ks := by
 obtain ⟨k, hk, rfl⟩ := List.mem_map.1 hx
 exact List.mem_map.2 ⟨k, List.mem_of_mem_take hk, rfl⟩
theorem right_keys {x : En} (hx : x ∈ keysK (rightK lv ks)) : x = leastE ∨ x ∈ keysK ks := by
 obtain ⟨k, hk, rfl⟩ := List.mem_map.1 hx
 unfold rightK at hk
 split at hk
 ·exact .inr (List.mem_map.2 ⟨k, List.mem_of_mem_drop hk, rfl⟩)
 ·rcases List.mem_cons.1 hk with rfl | hk
  ·exact .inl rfl
  ·exact .inr (List.mem_map.2 ⟨k, List.mem_of_mem_drop hk, rfl⟩)
theorem comes_left (H : NodeOk lv ks r h) (F : Comes lv h e c) (h12 : 12 ≤ ks.length) (hn : e ∉ keysK ks) (ho : outH lv ks e = false) : Comes lv (some (bordK lv ks)) e c := by
 have h1 : ¬ 0 < cmpE e (bordK lv ks) := by simpa [outH] using ho
 refine ⟨F.ok, F.ch, ?_⟩
 by_cases h0 : lv = 0
 ·rw [if_pos h0]
  simpa [beyH] using h1
 ·rw [if_neg h0]
  rintro b ⟨⟩
  have h2 : cmpE e (bordK lv ks) ≠ 0 := fun hz => hn (by rw [cmpE_eq.1 hz]; exact (bord_ok H h12).2)
  omega
theorem halves (H : NodeOk lv ks r h) (F : Comes lv h e c) (h12 : 12 ≤ ks.length) (hn : e ∉ keysK ks) {r' : Int} (hr : inB r' 0 65535 = true) :
  NodeOk lv (listA lv ks e c) r' (some (bordK lv ks)) ∧ NodeOk lv (listB lv ks e c) r h := by
 have hL := left_ok H h12 hr
 have hR := right_ok H h12
 have hc2 : lv ≠ 0 → inB c 1 65535 = true := fun h0 => by have := F.ch; rwa [if_neg h0] at this
 have hne : e ≠ leastE := by rintro rfl; exact absurd F.ok (by decide)
 unfold listA listB
 cases ho : outH lv ks e with
 | true =>
  simp only [if_true]
  exact ⟨hL, comes_ok hR F (fun hx => (right_keys hx).elim hne hn) (right_fits H h12 (e, c) F.ok hc2)⟩
 | false =>
  simp only [Bool.false_eq_true, if_false]
  exact ⟨comes_ok hL (comes_left H F h12 hn ho) (fun hx => hn (left_keys hx)) (left_fits H h12 r' (e, c) F.ok hc2), hR⟩
theorem grow_nd (H : NodeOk lv ks r h) (F : Comes lv h e c) (h12 : 12 ≤ ks.length) (hn : e ∉ keysK ks) (hf : ¬ fitsP (nodeP lv (insK ks (e, c)) r h) = true) (n f0 k : Int) {r' : Int} (hr : inB r' 1 65535 = true) :
  growN (nodeP lv ks r h) n (itB lv (e, c)) f0 r' k = if k = 1 then ((5, 0, [], [(n, nodeP lv (listA lv ks e c) r' (some (bordK lv ks))), (r', nodeP lv (listB lv ks e c) r h)]), 0)
   else if (rootN (lv + 1) f0 (bordK lv ks) r').2 ≠ 0 then rc0 (rootN (lv + 1) f0 (bordK lv ks) r').2
   else ((5, 0, [], [(f0, nodeP lv (listA lv ks e c) r' (some (bordK lv ks))), (r', nodeP lv (listB lv ks e c) r h), (n, (rootN (lv + 1) f0 (bordK lv ks) r').1)]), 0) := by
 have hr0 : inB r' 0 65535 = true := by unfold inB at hr ⊢; simp at hr ⊢; omega
 have hL := left_ok H h12 hr0
 have hR := right_ok H h12
 have hc2 : lv ≠ 0 → inB c 1 65535 = true := fun h0 => by have := F.ch; rwa [if_neg h0] at this
 have hne : e ≠ leastE := by rintro rfl; exact absurd F.ok (by decide)
 have hout : (beyondN (nodeP lv (leftK ks) r' (some (bordK lv ks))) e).1 = outH lv ks e := by
  unfold beyondN
  rw [nd_open hL, F.ok, bey_nd hL e]
  rfl
 have hle : (layN (nodeP lv ks r h) (itB lv (e, c))).2.1 = e := by
  rw [lay_nd H F, if_neg hn, if_neg hf]
 unfold growN
 rw [lsn0_nd, split_nd H (by omega) hr, left_nd H, right_nd H, border_nd H, hle, hout, show (nodeP lv ks r h).level = lv from rfl]
 unfold growC
 rw [if_neg (by decide)]
 unfold listA listB
 cases ho : outH lv ks e with
 | true =>
  have hn2 : e ∉ keysK (rightK lv ks) := fun hx => (right_keys hx).elim hne hn
  rw [lay_nd hR F, if_neg hn2, if_pos (right_fits H h12 (e, c) F.ok hc2)]
  simp only [if_true, ne_eq, not_true_eq_false, if_false]
 | false =>
  have hn2 : e ∉ keysK (leftK ks) := fun hx => hn (left_keys hx)
  rw [lay_nd hL (comes_left H F h12 hn ho), if_neg hn2, if_pos (left_fits H h12 r' (e, c) F.ok hc2)]
  simp only [Bool.false_eq_true, if_false, ne_eq, not_true_eq_false]
theorem root_nd (hl : 0 ≤ lv ∧ lv < 255) {f0 r' : Int} (hf : inB f0 1 65535 = true) (hr : inB r' 1 65535 = true) {b : En} (hb : enOk b = true) :
  rootN (lv + 1) f0 b r' = (nodeP (lv + 1) [(leastE, f0), (b, r')] 0 none, 0) ∧ NodeOk (lv + 1) [(leastE, f0), (b, r')] 0 none := by
 have h1 : inB (lv + 1) 1 255 = true := by unfold inB; simp; omega
 have hnz : lv + 1 ≠ 0 := by omega
 refine ⟨?_, ⟨by omega, by decide, ?_, ?_, by simp, ?_, .inr (by simp)⟩⟩
 ·unfold rootN rootOk
  rw [h1, hb, hf, hr]
  simp only [Bool.and_self, if_true]
  unfold rootP nodeP hiB
  simp only [List.map_cons, List.map_nil]
  unfold itB
  rw [if_neg hnz, if_neg hnz]
 ·have h2 := least_lt hb
  have h3 := cmpE_three leastE b
  show Sorted [leastE, b]
  unfold Sorted
  simp only [List.pairwise_cons, List.mem_singleton, List.not_mem_nil, false_imp_iff, implies_true, List.Pairwise.nil, and_true, forall_eq]
  omega
 ·intro j hj
  unfold itOk
  rw [if_neg hnz]
  match j, hj with
  | 0, _ => exact ⟨hf, by simp⟩
  | 1, _ => exact ⟨hr, by simpa using hb⟩
 ·rw [fit_iff]
  have h4 := enBytes_31 hb
  have h5 := child_len hf
  have h6 := child_len hr
  have h7 : sumK (lv + 1) [(leastE, f0), (b, r')] = (2 + (itB (lv + 1) (leastE, f0)).length) + (2 + (itB (lv + 1) (b, r')).length) := by rw [sumK_cons, sumK_cons]; simp [sumK, sumL]
  have h8 : (itB (lv + 1) (leastE, f0)).length = 3 + (sevs [f0]).length := by unfold itB; rw [if_neg hnz, enBytes_add, least_len]
  have h9 : (itB (lv + 1) (b, r')).length = (enBytes b []).length + (sevs [r']).length := by unfold itB; rw [if_neg hnz, enBytes_add]
  refine ⟨by simp, ?_⟩
  rw [h7, h8, h9]
  simp only [hiB, List.length_nil]
  omega
end Go.Proofs.Ytaninphcgeaepaa
namespace Go.Proofs.Ytaninphcgeaepaa
open Go.RowKit
structure Nv where
 lv : Int
 lo : Option En
 hi : Option En
 ks : Ks
 nx : Int
 rk : Nat
def heft (F : List Pg) : Nat := (F.map fun P => P.items.length - 6).sum
structure Fo (F : List Pg) (I : Int → Option Nv) (top : Int) (q : Nat) : Prop where
 here : ∀ n v, I n = some v → 1 ≤ n ∧ n < F.length ∧ F[n.toNat]? = some (nodeP v.lv v.ks v.nx v.hi) ∧ NodeOk v.lv v.ks v.nx v.hi
 low : ∀ n v, I n = some v → ∀ l, v.lo = some l → (∀ k ∈ v.ks, (v.lv = 0 ∨ k.1 ≠ leastE) → cmpE l k.1 < 0) ∧ ∀ b, v.hi = some b → cmpE l b < 0
 last : ∀ n v, I n = some v → v.hi = none → v.nx = 0
 next : ∀ n v, I n = some v → ∀ b, v.hi = some b → ∃ w, I v.nx = some w ∧ w.lv = v.lv ∧ w.lo = some b ∧ w.rk < v.rk
 kid : ∀ n v, I n = some v → v.lv ≠ 0 → ∀ k ∈ v.ks, ∃ w, I k.2 = some w ∧ w.lv = v.lv - 1 ∧ w.lo = (if k.1 = leastE then v.lo else some k.1)
 rank : ∀ n v m w, I n = some v → I m = some w → v.lv < w.lv → v.rk < w.rk
 root : ∃ v, I 1 = some v ∧ v.lv = top ∧ v.lo = none ∧ v.hi = none
 alone : ∀ n v, I n = some v → v.lv ≤ top ∧ (v.lv = top → n = 1)
 bord : ∀ n v, I n = some v → v.lv ≠ 0 → ∀ b, v.hi = some b → ∃ m w, I m = some w ∧ w.lv = v.lv - 1 ∧ w.lo = some b
 sep : ∀ n v m w, I n = some v → I m = some w → v.lv = w.lv → n ≠ m → (∃ b l, v.hi = some b ∧ w.lo = some l ∧ cmpE b l ≤ 0) ∨ (∃ b l, w.hi = some b ∧ v.lo = some l ∧ cmpE b l ≤ 0)
 size : 2 * F.length + heft F ≤ 4 + q
 tops : 2 * top + 2 ≤ F.length
 rkb : ∀ n v, I n = some v → v.rk < F.length
def inR (lo hi : Option En) (e : En) : Prop := (∀ l, lo = some l → cmpE l e < 0) ∧ ∀ b, hi = some b → cmpE e b ≤ 0
def findF (F : List Pg) (t : Int) (e : En) : Nat → Int → Int
 | 0, _ => 0
 | k + 1, n => if n < 1 ∨ (F.length : Int) ≤ n then 0
  else if (wayN (F.getD n.toNat zeroP) t e).2.2 ≠ 0 then 0
  else if (wayN (F.getD n.toNat zeroP) t e).2.1 then n
  else findF F t e k (wayN (F.getD n.toNat zeroP) t e).1
variable {F : List Pg} {I : Int → Option Nv} {top : Int} {q : Nat}
theorem cmp_lt_trans {a b c : En} (h1 : cmpE a b < 0) (h2 : cmpE b c < 0) : cmpE a c < 0 := by
 have h3 := cmpE_three a b
 have h4 := cmpE_three b c
 have := cmpE_trans (a := a) (b := b) (c := c) (by omega) (by omega)
 omega
theorem Fo.page (H : Fo F I top q) {n : Int} {v : Nv} (hv : I n = some v) : F.getD n.toNat zeroP = nodeP v.lv v.ks v.nx v.hi := by
 obtain ⟨_, _, h3, _⟩ := H.here n v hv
 rw [List.getD_eq_getElem?_getD, h3]
 rfl
theorem child_at {lv r : Int} {ks : Ks} {h : Option En} (H : NodeOk lv ks r h) (hl : lv ≠ 0) {e : En} (he : enOk e = true) : ∃ k ∈ ks, childK ks e = k.2 ∧ cmpE k.1 e < 0 := by
 have hpos : 1 ≤ posE (keysK ks) e := by
  have hx := pos_one (nd_open H) hl he
  rwa [nd_ens H] at hx
 have hle : posE (keysK ks) e ≤ ks.length := by have := posE_le (keysK ks) e; simpa [keysK] using this
 obtain ⟨h1, _, _⟩ := pos_split (l := keysK ks) H.up e
 have hj : posE (keysK ks) e - 1 < ks.length := by omega
 refine ⟨ks[posE (keysK ks) e - 1], List.getElem_mem hj, ?_, ?_⟩
 ·unfold childK
  simp [hj]
 ·have := h1 (posE (keysK ks) e - 1) (by simpa [keysK] using hj) (by omega)
  simpa [keysK] using this
theorem bey_iff {h : Option En} {e : En} : beyH h e = true ↔ ∃ b, h = some b ∧ 0 < cmpE e b := by
 unfold beyH
 cases h with
 | none => simp
 | some b => simp
theorem find_ok (H : Fo F I top q) {t : Int} (ht : 0 ≤ t ∧ t ≤ top) {e : En} (he : enOk e = true) :
  ∀ (k : Nat) (n : Int) (v : Nv), I n = some v → t ≤ v.lv → (∀ l, v.lo = some l → cmpE l e < 0) → v.rk < k →
   ∃ w, I (findF F t e k n) = some w ∧ w.lv = t ∧ inR w.lo w.hi e := by
 intro k
 induction k with
 | zero => intro n v _ _ _ h; omega
 | succ k ih =>
  intro n v hv hlv hlo hrk
  obtain ⟨h1, h2, _, hok⟩ := H.here n v hv
  have hw := way_nd hok t e he ⟨ht.1, hlv⟩
  rw [findF, if_neg (by omega), H.page hv, hw]
  cases hb : beyH v.hi e with
  | true =>
   obtain ⟨b, hb1, hb2⟩ := bey_iff.1 hb
   obtain ⟨w, hw1, hw2, hw3, hw4⟩ := H.next n v hv b hb1
   simp only [if_true, ne_eq, not_true_eq_false, if_false, Bool.false_eq_true]
   refine ih v.nx w hw1 (by omega) (fun l hl => ?_) (by omega)
   rw [hw3] at hl
   cases hl
   have := cmpE_neg e b
   omega
  | false =>
   simp only [Bool.false_eq_true, if_false]
   by_cases hl : v.lv = t
   ·rw [if_pos hl]
    simp only [ne_eq, not_true_eq_false, if_false, if_true]
    refine ⟨v, hv, hl, hlo, fun b hb1 => ?_⟩
    have : ¬ 0 < cmpE e b := fun h => by
     have := bey_iff.2 ⟨b, hb1, h⟩
     rw [hb] at this; cases this
    omega
   ·rw [if_neg hl]
    simp only [ne_eq, not_true_eq_false, if_false, Bool.false_eq_true]
    have hl0 : v.lv ≠ 0 := by omega
    obtain ⟨x, hx, hc, hlt⟩ := child_at hok hl0 he
    obtain ⟨w, hw1, hw2, hw3⟩ := H.kid n v hv hl0 x hx
    rw [hc]
    have hr := H.rank _ _ _ _ hw1 hv (by omega)
    refine ih x.2 w hw1 (by omega) (fun l hl => ?_) (by omega)
    rw [hw3] at hl
    split at hl
    ·exact hlo l hl
    ·cases hl
     exact hlt
theorem find_root (H : Fo F I top q) {t : Int} (ht : 0 ≤ t ∧ t ≤ top) {e : En} (he : enOk e = true) (hq : q ≤ 19000) :
  ∃ w, I (findF F t e 10000 1) = some w ∧ w.lv = t ∧ inR w.lo w.hi e := by
 obtain ⟨v, hv, h1, h2, h3⟩ := H.root
 refine find_ok H ht he 10000 1 v hv (by omega) (fun l hl => by rw [h2] at hl; cases hl) ?_
 have := H.rkb 1 v hv
 have := H.size
 omega
theorem Fo.one (H : Fo F I top q) {n m : Int} {v w : Nv} (hv : I n = some v) (hw : I m = some w) (hl : v.lv = w.lv) {e : En} (h1 : inR v.lo v.hi e) (h2 : inR w.lo w.hi e) : n = m := by
 rcases Decidable.em (n = m) with h | h
 ·exact h
 ·exfalso
  rcases H.sep n v m w hv hw hl h with ⟨b, l, a1, a2, a3⟩ | ⟨b, l, a1, a2, a3⟩
  ·have h5 := h1.2 b a1
   have h6 := h2.1 l a2
   have h7 := cmpE_three e b
   have h8 := cmpE_three b l
   rcases Decidable.em (cmpE b l = 0) with h0 | h0
   ·rw [cmpE_eq.1 h0] at h5
    have := cmpE_neg e l
    omega
   ·have h9 := cmp_lt_trans (show cmpE b l < 0 by omega) h6
    have := cmpE_neg e b
    omega
  ·have h5 := h2.2 b a1
   have h6 := h1.1 l a2
   rcases Decidable.em (cmpE b l = 0) with h0 | h0
   ·rw [cmpE_eq.1 h0] at h5
    have := cmpE_neg e l
    omega
   ·have h9 := cmp_lt_trans (show cmpE b l < 0 by omega) h6
    have := cmpE_neg e b
    omega
end Go.Proofs.Ytaninphcgeaepaa
namespace Go.Proofs.Ytaninphcgeaepaa
open Go.RowKit
def updI (I : Int → Option Nv) (n : Int) (v : Nv) : Int → Option Nv := fun m => if m = n then some v else I m
theorem updI_same (I : Int → Option Nv) (n : Int) (v : Nv) : updI I n v n = some v := by unfold updI; rw [if_pos rfl]
theorem updI_other (I : Int → Option Nv) {n m : Int} (v : Nv) (h : m ≠ n) : updI I n v m = I m := by unfold updI; rw [if_neg h]
theorem heft_set {F : List Pg} {i : Nat} {P Q : Pg} (h : F[i]? = some P) : heft (F.set i Q) + (P.items.length - 6) = heft F + (Q.items.length - 6) := by
 unfold heft
 induction F generalizing i with
 | nil => simp at h
 | cons x r ih =>
  cases i with
  | zero =>
   simp at h
   subst h
   simp
   omega
  | succ i =>
   have := ih (i := i) (by simpa using h)
   simp at this ⊢
   omega
theorem heft_append (F G : List Pg) : heft (F ++ G) = heft F + heft G := by simp [heft]
theorem heft_one (P : Pg) : heft [P] = P.items.length - 6 := by simp [heft]
variable {F : List Pg} {I : Int → Option Nv} {top : Int} {q : Nat} {n : Int} {v : Nv} {e : En} {c : Int}
def like (v w : Nv) : Prop := w.lv = v.lv ∧ w.lo = v.lo ∧ w.hi = v.hi ∧ w.nx = v.nx ∧ w.rk = v.rk
theorem upd_back {v' : Nv} (hv : I n = some v) (hl : like v v') {m : Int} {w : Nv} (h : updI I n v' m = some w) : ∃ w0, I m = some w0 ∧ like w0 w ∧ (m = n → w = v') ∧ (m ≠ n → w = w0) := by
 by_cases hm : m = n
 ·subst hm
  rw [updI_same] at h
  cases h
  exact ⟨v, hv, hl, fun _ => rfl, fun h => absurd rfl h⟩
 ·rw [updI_other I v' hm] at h
  exact ⟨w, h, ⟨rfl, rfl, rfl, rfl, rfl⟩, fun h => absurd h hm, fun _ => rfl⟩
theorem upd_forth {v' : Nv} (hv : I n = some v) (hl : like v v') {m : Int} {w : Nv} (h : I m = some w) : ∃ w', updI I n v' m = some w' ∧ like w w' := by
 by_cases hm : m = n
 ·subst hm
  rw [hv] at h
  cases h
  exact ⟨v', updI_same _ _ _, hl⟩
 ·exact ⟨w, by rw [updI_other I v' hm]; exact h, rfl, rfl, rfl, rfl, rfl⟩
theorem Fo.ins (H : Fo F I top q) (hv : I n = some v) (hC : Comes v.lv v.hi e c) (hnew : e ∉ keysK v.ks) (hfit : fitsP (nodeP v.lv (insK v.ks (e, c)) v.nx v.hi) = true)
  (hlo : ∀ l, v.lo = some l → cmpE l e < 0) (hkid : v.lv ≠ 0 → ∃ w, I c = some w ∧ w.lv = v.lv - 1 ∧ w.lo = some e) :
  Fo (F.set n.toNat (nodeP v.lv (insK v.ks (e, c)) v.nx v.hi)) (updI I n { v with ks := insK v.ks (e, c) }) top (q + 1) := by
 have hl : like v { v with ks := insK v.ks (e, c) } := ⟨rfl, rfl, rfl, rfl, rfl⟩
 obtain ⟨hn1, hn2, hn3, hok⟩ := H.here n v hv
 have hok' := comes_ok hok hC hnew hfit
 have hne : e ≠ leastE := by rintro rfl; exact absurd hC.ok (by decide)
 have hlen : (F.set n.toNat (nodeP v.lv (insK v.ks (e, c)) v.nx v.hi)).length = F.length := by simp
 refine ⟨?_, ?_, ?_, ?_, ?_, ?_, ?_, ?_, ?_, ?_, ?_, ?_, ?_⟩
 ·intro m w hw
  obtain ⟨w0, h0, ⟨l1, l2, l3, l4, l5⟩, hs, ho⟩ := upd_back hv hl hw
  obtain ⟨a1, a2, a3, a4⟩ := H.here m w0 h0
  rw [hlen]
  refine ⟨a1, a2, ?_, ?_⟩
  ·by_cases hm : m = n
   ·subst hm
    rw [hs rfl, List.getElem?_set_self (by omega)]
   ·rw [ho hm, List.getElem?_set_ne (by omega)]
    exact a3
  ·by_cases hm : m = n
   ·rw [hs hm]; exact hok'
   ·rw [ho hm]; exact a4
 ·intro m w hw l hwl
  obtain ⟨w0, h0, ⟨l1, l2, l3, l4, l5⟩, hs, ho⟩ := upd_back hv hl hw
  rw [l2] at hwl
  obtain ⟨a1, a2⟩ := H.low m w0 h0 l hwl
  rw [l3]
  refine ⟨fun k hk hkl => ?_, a2⟩
  by_cases hm : m = n
  ·subst hm
   rw [hv] at h0
   cases h0
   rw [hs rfl] at hk hkl
   rcases List.mem_cons.1 ((insK_perm v.ks (e, c)).mem_iff.1 hk) with rfl | hk
   ·exact hlo l hwl
   ·exact a1 k hk hkl
  ·rw [ho hm] at hk hkl
   exact a1 k hk hkl
 ·intro m w hw hh
  obtain ⟨w0, h0, ⟨l1, l2, l3, l4, l5⟩, -, -⟩ := upd_back hv hl hw
  rw [l4]
  exact H.last m w0 h0 (by rw [← l3]; exact hh)
 ·intro m w hw b hb
  obtain ⟨w0, h0, ⟨l1, l2, l3, l4, l5⟩, -, -⟩ := upd_back hv hl hw
  obtain ⟨x, x1, x2, x3, x4⟩ := H.next m w0 h0 b (by rw [← l3]; exact hb)
  obtain ⟨x', y1, ⟨y2, y3, y4, y5, y6⟩⟩ := upd_forth hv hl x1
  rw [l4]
  exact ⟨x', y1, by omega, by rw [y3]; exact x3, by omega⟩
 ·intro m w hw hwl k hk
  obtain ⟨w0, h0, ⟨l1, l2, l3, l4, l5⟩, hs, ho⟩ := upd_back hv hl hw
  have hold : ∀ k ∈ w0.ks, ∃ x, updI I n { v with ks := insK v.ks (e, c) } k.2 = some x ∧ x.lv = w.lv - 1 ∧ x.lo = (if k.1 = leastE then w.lo else some k.1) := by
   intro k hk
   obtain ⟨x, x1, x2, x3⟩ := H.kid m w0 h0 (by omega) k hk
   obtain ⟨x', y1, ⟨y2, y3, y4, y5, y6⟩⟩ := upd_forth hv hl x1
   exact ⟨x', y1, by omega, by rw [y3, x3, l2]⟩
  by_cases hm : m = n
  ·subst hm
   rw [hv] at h0
   cases h0
   rw [hs rfl] at hk
   rcases List.mem_cons.1 ((insK_perm v.ks (e, c)).mem_iff.1 hk) with rfl | hk
   ·obtain ⟨x, x1, x2, x3⟩ := hkid (by omega)
    obtain ⟨x', y1, ⟨y2, y3, y4, y5, y6⟩⟩ := upd_forth hv hl x1
    exact ⟨x', y1, by omega, by rw [y3, x3, if_neg hne]⟩
   ·exact hold k hk
  ·rw [ho hm] at hk
   exact hold k hk
 ·intro m w m' w' hw hw' hlt
  obtain ⟨w0, h0, ⟨l1, l2, l3, l4, l5⟩, -, -⟩ := upd_back hv hl hw
  obtain ⟨z0, g0, ⟨k1, k2, k3, k4, k5⟩, -, -⟩ := upd_back hv hl hw'
  have := H.rank m w0 m' z0 h0 g0 (by omega)
  omega
 ·obtain ⟨x, x1, x2, x3, x4⟩ := H.root
  obtain ⟨x', y1, ⟨y2, y3, y4, y5, y6⟩⟩ := upd_forth hv hl x1
  exact ⟨x', y1, by omega, by rw [y3]; exact x3, by rw [y4]; exact x4⟩
 ·intro m w hw
  obtain ⟨w0, h0, ⟨l1, l2, l3, l4, l5⟩, -, -⟩ := upd_back hv hl hw
  obtain ⟨a1, a2⟩ := H.alone m w0 h0
  exact ⟨by omega, fun h => a2 (by omega)⟩
 ·intro m w hw hwl b hb
  obtain ⟨w0, h0, ⟨l1, l2, l3, l4, l5⟩, -, -⟩ := upd_back hv hl hw
  obtain ⟨m', x, x1, x2, x3⟩ := H.bord m w0 h0 (by omega) b (by rw [← l3]; exact hb)
  obtain ⟨x', y1, ⟨y2, y3, y4, y5, y6⟩⟩ := upd_forth hv hl x1
  exact ⟨m', x', y1, by omega, by rw [y3]; exact x3⟩
 ·intro m w m' w' hw hw' hlt hmm
  obtain ⟨w0, h0, ⟨l1, l2, l3, l4, l5⟩, -, -⟩ := upd_back hv hl hw
  obtain ⟨z0, g0, ⟨k1, k2, k3, k4, k5⟩, -, -⟩ := upd_back hv hl hw'
  rw [l2, l3, k2, k3]
  exact H.sep m w0 m' z0 h0 g0 (by omega) hmm
 ·rw [hlen]
  have h1 := heft_set (Q := nodeP v.lv (insK v.ks (e, c)) v.nx v.hi) hn3
  rw [nd_items, nd_items, (insK_perm v.ks (e, c)).length_eq, List.length_cons] at h1
  have := H.size
  omega
 ·rw [hlen]; exact H.tops
 ·intro m w hw
  obtain ⟨w0, h0, ⟨l1, l2, l3, l4, l5⟩, -, -⟩ := upd_back hv hl hw
  rw [hlen]
  have := H.rkb m w0 h0
  omega
end Go.Proofs.Ytaninphcgeaepaa
namespace Go.Proofs.Ytaninphcgeaepaa
open Go.RowKit
variable {lv r : Int} {ks : Ks} {h : Option En} {e : En} {c : Int}
theorem cmp_lt_le {a b d : En} (h1 : cmpE a b < 0) (h2 : cmpE b d ≤ 0) : cmpE a d < 0 := by
 rcases Decidable.em (cmpE b d = 0) with h0 | h0
 ·rw [← cmpE_eq.1 h0]; exact h1
 ·exact cmp_lt_trans h1 (by omega)
theorem cmp_le_lt {a b d : En} (h1 : cmpE a b ≤ 0) (h2 : cmpE b d < 0) : cmpE a d < 0 := by
 rcases Decidable.em (cmpE a b = 0) with h0 | h0
 ·rw [cmpE_eq.1 h0]; exact h2
 ·exact cmp_lt_trans (by omega) h2
theorem en_ne_least {e : En} (h : enOk e = true) : e ≠ leastE := by rintro rfl; exact absurd h (by decide)
theorem bord_hi (H : NodeOk lv ks r h) (h12 : 12 ≤ ks.length) : ∀ d, h = some d → cmpE (bordK lv ks) d < 0 := by
 intro d hd
 obtain ⟨a, b, c, _⟩ := half_sizes h12
 obtain ⟨j, hj, eb, ej, hj0⟩ := bord_at H h12
 rw [eb]
 by_cases h0 : lv = 0
 ·rw [if_pos h0] at ej
  have h1 := nd_lt H hj (show j + 1 < ks.length by omega) (by omega)
  have h2 := ((H.hi d hd).2 _ (List.getElem_mem (show j + 1 < ks.length by omega))).1
  exact cmp_lt_le (by omega) h2
 ·exact ((H.hi d hd).2 _ (List.getElem_mem hj)).2 h0
theorem listA_mem {k : En × Int} (hk : k ∈ listA lv ks e c) : k ∈ ks ∨ k = (e, c) := by
 unfold listA at hk
 split at hk
 ·exact .inl (List.mem_of_mem_take hk)
 ·rcases List.mem_cons.1 ((insK_perm _ _).mem_iff.1 hk) with h | h
  ·exact .inr h
  ·exact .inl (List.mem_of_mem_take h)
theorem right_mem (H : NodeOk lv ks r h) (h12 : 12 ≤ ks.length) {k : En × Int} (hk : k ∈ rightK lv ks) : (k ∈ ks ∧ cmpE (bordK lv ks) k.1 < 0) ∨ (lv ≠ 0 ∧ k.1 = leastE ∧ (bordK lv ks, k.2) ∈ ks) := by
 obtain ⟨a, b, c, _⟩ := half_sizes h12
 obtain ⟨j, hj, eb, ej, hj0⟩ := bord_at H h12
 unfold rightK at hk
 by_cases h0 : lv = 0
 ·rw [if_pos h0] at hk ej
  obtain ⟨i, hi, rfl⟩ := List.getElem_of_mem hk
  rw [List.length_drop] at hi
  rw [List.getElem_drop]
  refine .inl ⟨List.getElem_mem _, ?_⟩
  rw [eb]
  have := nd_lt H hj (show halfM ks + i < ks.length by omega) (by omega)
  omega
 ·rw [if_neg h0] at hk ej
  rcases List.mem_cons.1 hk with rfl | hk
  ·refine .inr ⟨h0, rfl, ?_⟩
   have hm : halfM ks < ks.length := by omega
   have e1 : (bordK lv ks, (ks.map (·.2)).getD (halfM ks) 0) = ks[halfM ks] := by
    rw [eb]
    subst ej
    simp [hm]
   dsimp only
   rw [e1]
   exact List.getElem_mem hm
  ·obtain ⟨i, hi, rfl⟩ := List.getElem_of_mem hk
   rw [List.length_drop] at hi
   rw [List.getElem_drop]
   refine .inl ⟨List.getElem_mem _, ?_⟩
   rw [eb]
   have := nd_lt H hj (show halfM ks + 1 + i < ks.length by omega) (by omega)
   omega
theorem listB_mem (H : NodeOk lv ks r h) (h12 : 12 ≤ ks.length) {k : En × Int} (hk : k ∈ listB lv ks e c) : (k ∈ ks ∧ cmpE (bordK lv ks) k.1 < 0) ∨ (lv ≠ 0 ∧ k.1 = leastE ∧ (bordK lv ks, k.2) ∈ ks) ∨ (k = (e, c) ∧ cmpE (bordK lv ks) e < 0) := by
 unfold listB at hk
 split at hk
 ·rename_i ho
  rcases List.mem_cons.1 ((insK_perm _ _).mem_iff.1 hk) with h1 | h1
  ·refine .inr (.inr ⟨h1, ?_⟩)
   have : 0 < cmpE e (bordK lv ks) := by simpa [outH] using ho
   have := cmpE_neg e (bordK lv ks)
   omega
  ·rcases right_mem H h12 h1 with h2 | h2
   ·exact .inl h2
   ·exact .inr (.inl h2)
 ·rcases right_mem H h12 hk with h2 | h2
  ·exact .inl h2
  ·exact .inr (.inl h2)
theorem list_lens (H : NodeOk lv ks r h) (h12 : 12 ≤ ks.length) : (listA lv ks e c).length + (listB lv ks e c).length = ks.length + 1 ∧ 6 ≤ (listA lv ks e c).length ∧ 6 ≤ (listB lv ks e c).length := by
 obtain ⟨a, b, d, _⟩ := half_sizes h12
 have h1 : (leftK ks).length = halfM ks := by unfold leftK; rw [List.length_take]; omega
 have h2 := (right_sum H h12).2
 have h3 := (insK_perm (leftK ks) (e, c)).length_eq
 have h4 := (insK_perm (rightK lv ks) (e, c)).length_eq
 rw [List.length_cons] at h3 h4
 unfold listA listB
 split <;> omega
theorem list_all (_H : NodeOk lv ks r h) (_h12 : 12 ≤ ks.length) (x : En) (hx : x ≠ leastE) : (x ∈ keysK ks ∨ x = e) → lv = 0 → x ∈ keysK (listA lv ks e c) ∨ x ∈ keysK (listB lv ks e c) := by
 intro hm h0
 have hr : rightK lv ks = ks.drop (halfM ks) := by unfold rightK; rw [if_pos h0]
 have hold : x ∈ keysK ks → x ∈ keysK (leftK ks) ∨ x ∈ keysK (rightK lv ks) := by
  intro hx
  obtain ⟨k, hk, rfl⟩ := List.mem_map.1 hx
  have hk2 : k ∈ ks.take (halfM ks) ++ ks.drop (halfM ks) := by rw [List.take_append_drop]; exact hk
  rcases List.mem_append.1 hk2 with h1 | h1
  ·exact .inl (List.mem_map.2 ⟨k, h1, rfl⟩)
  ·exact .inr (by rw [hr]; exact List.mem_map.2 ⟨k, h1, rfl⟩)
 have hin : ∀ (l : Ks) (y : En), y ∈ keysK l ∨ y = e → y ∈ keysK (insK l (e, c)) := by
  intro l y hy
  rcases hy with hy | rfl
  ·obtain ⟨k, hk, rfl⟩ := List.mem_map.1 hy
   exact List.mem_map.2 ⟨k, (insK_perm l (e, c)).mem_iff.2 (List.mem_cons_of_mem _ hk), rfl⟩
  ·exact List.mem_map.2 ⟨(y, c), (insK_perm l (y, c)).mem_iff.2 (List.mem_cons_self ..), rfl⟩
 unfold listA listB
 split
 ·rcases hm with hm | hm
  ·rcases hold hm with h1 | h1
   ·exact .inl h1
   ·exact .inr (hin _ _ (.inl h1))
  ·exact .inr (hin _ _ (.inr hm))
 ·rcases hm with hm | hm
  ·rcases hold hm with h1 | h1
   ·exact .inl (hin _ _ (.inl h1))
   ·exact .inr h1
  ·exact .inl (hin _ _ (.inr hm))
end Go.Proofs.Ytaninphcgeaepaa
namespace Go.Proofs.Ytaninphcgeaepaa
open Go.RowKit
def shR (x : Nat) (w : Nv) : Nv := { w with rk := if x ≤ w.rk then w.rk + 1 else w.rk }
def spI (I : Int → Option Nv) (n r : Int) (a b : Nv) (x : Nat) : Int → Option Nv := fun m => if m = n then some a else if m = r then some b else (I m).map (shR x)
variable {F : List Pg} {I : Int → Option Nv} {top : Int} {q : Nat} {n : Int} {v : Nv} {e : En} {c : Int}
theorem sp_cases {n r : Int} {a b : Nv} {x : Nat} {m : Int} {w : Nv} (h : spI I n r a b x m = some w) : (m = n ∧ w = a) ∨ (m ≠ n ∧ m = r ∧ w = b) ∨ (m ≠ n ∧ m ≠ r ∧ ∃ w0, I m = some w0 ∧ w = shR x w0) := by
 unfold spI at h
 by_cases h1 : m = n
 ·rw [if_pos h1] at h; cases h; exact .inl ⟨h1, rfl⟩
 ·rw [if_neg h1] at h
  by_cases h2 : m = r
  ·rw [if_pos h2] at h; cases h; exact .inr (.inl ⟨h1, h2, rfl⟩)
  ·rw [if_neg h2] at h
   obtain ⟨w0, h3, rfl⟩ := Option.map_eq_some_iff.1 h
   exact .inr (.inr ⟨h1, h2, w0, h3, rfl⟩)
theorem Fo.fresh (H : Fo F I top q) : I (F.length : Int) = none := by
 cases hi : I (F.length : Int) with
 | none => rfl
 | some w => have := (H.here _ w hi).2.1; omega
def spA (v : Nv) (e : En) (c r : Int) : Nv := ⟨v.lv, v.lo, some (bordK v.lv v.ks), listA v.lv v.ks e c, r, v.rk + 1⟩
def spB (v : Nv) (e : En) (c : Int) : Nv := ⟨v.lv, some (bordK v.lv v.ks), v.hi, listB v.lv v.ks e c, v.nx, v.rk⟩
theorem sp_forth {r : Int} (hv : I n = some v) (hr : I r = none) {m : Int} {w : Nv} (h : I m = some w) : ∃ w', spI I n r (spA v e c r) (spB v e c) v.rk m = some w' ∧ w'.lv = w.lv ∧ w'.lo = w.lo ∧ (m ≠ n → w' = shR v.rk w) ∧ (m = n → w' = spA v e c r) := by
 by_cases h1 : m = n
 ·subst h1
  rw [hv] at h
  cases h
  exact ⟨spA v e c r, by unfold spI; rw [if_pos rfl], rfl, rfl, fun h => absurd rfl h, fun _ => rfl⟩
 ·have h2 : m ≠ r := by rintro rfl; rw [hr] at h; cases h
  exact ⟨shR v.rk w, by unfold spI; rw [if_neg h1, if_neg h2, h]; rfl, rfl, rfl, fun _ => rfl, fun h => absurd h h1⟩
theorem Fo.split (H : Fo F I top q) (hv : I n = some v) (hC : Comes v.lv v.hi e c) (hnew : e ∉ keysK v.ks) (hfull : ¬ fitsP (nodeP v.lv (insK v.ks (e, c)) v.nx v.hi) = true)
  (hlo : ∀ l, v.lo = some l → cmpE l e < 0) (hkid : v.lv ≠ 0 → ∃ w, I c = some w ∧ w.lv = v.lv - 1 ∧ w.lo = some e) (hnr : v.lv < top) (hF : F.length ≤ 65535) :
  Fo (F.set n.toNat (nodeP v.lv (listA v.lv v.ks e c) F.length (some (bordK v.lv v.ks))) ++ [nodeP v.lv (listB v.lv v.ks e c) v.nx v.hi])
   (spI I n F.length (spA v e c F.length) (spB v e c) v.rk) top q := by
 obtain ⟨hn1, hn2, hn3, hok⟩ := H.here n v hv
 have h12 := full_12 hok hC hfull
 have hr0 : inB (F.length : Int) 0 65535 = true := by unfold inB; simp; omega
 obtain ⟨hA, hB⟩ := halves hok hC h12 hnew hr0
 have hbo := bord_ok hok h12
 have hbne := en_ne_least hbo.1
 have hene := en_ne_least hC.ok
 have hbhi := bord_hi hok h12
 have hll := list_lens (e := e) (c := c) hok h12
 have hfr := H.fresh
 have hblo : ∀ l, v.lo = some l → cmpE l (bordK v.lv v.ks) < 0 := by
  intro l hl
  obtain ⟨k, hk, hke⟩ := List.mem_map.1 hbo.2
  have := (H.low n v hv l hl).1 k hk (.inr (by rw [hke]; exact hbne))
  rwa [hke] at this
 have hlen : (F.set n.toNat (nodeP v.lv (listA v.lv v.ks e c) F.length (some (bordK v.lv v.ks))) ++ [nodeP v.lv (listB v.lv v.ks e c) v.nx v.hi]).length = F.length + 1 := by simp
 have hkd : ∀ m w, I m = some w → w.lv ≠ 0 → ∀ k ∈ w.ks, ∃ y, spI I n F.length (spA v e c F.length) (spB v e c) v.rk k.2 = some y ∧ y.lv = w.lv - 1 ∧ y.lo = (if k.1 = leastE then w.lo else some k.1) := by
  intro m w hw hwl k hk
  obtain ⟨y, y1, y2, y3⟩ := H.kid m w hw hwl k hk
  obtain ⟨y', z1, z2, z3, -, -⟩ := sp_forth (e := e) (c := c) hv hfr y1
  exact ⟨y', z1, by omega, by rw [z3]; exact y3⟩
 refine ⟨?_, ?_, ?_, ?_, ?_, ?_, ?_, ?_, ?_, ?_, ?_, ?_, ?_⟩
 ·intro m w hw
  rw [hlen]
  rcases sp_cases hw with ⟨rfl, rfl⟩ | ⟨h1, rfl, rfl⟩ | ⟨h1, h2, w0, h3, rfl⟩
  ·refine ⟨hn1, by omega, ?_, hA⟩
   rw [List.getElem?_append_left (by simp; omega), List.getElem?_set_self (by omega)]
   rfl
  ·refine ⟨by omega, by omega, ?_, hB⟩
   rw [List.getElem?_append_right (by simp)]
   simp [spB]
  ·obtain ⟨a1, a2, a3, a4⟩ := H.here m w0 h3
   refine ⟨a1, by omega, ?_, a4⟩
   rw [List.getElem?_append_left (by simp; omega), List.getElem?_set_ne (by omega)]
   exact a3
 ·intro m w hw l hwl
  rcases sp_cases hw with ⟨rfl, rfl⟩ | ⟨h1, rfl, rfl⟩ | ⟨h1, h2, w0, h3, rfl⟩
  ·refine ⟨fun k hk hkl => ?_, fun b hb => ?_⟩
   ·rcases listA_mem hk with h | rfl
    ·exact (H.low m v hv l hwl).1 k h hkl
    ·exact hlo l hwl
   ·cases hb
    exact hblo l hwl
  ·cases hwl
   refine ⟨fun k hk hkl => ?_, fun b hb => hbhi b hb⟩
   rcases listB_mem hok h12 hk with ⟨_, h⟩ | ⟨h, h9, _⟩ | ⟨rfl, h⟩
   ·exact h
   ·exact absurd hkl (fun hk2 => hk2.elim (fun h8 => h h8) (fun h8 => h8 h9))
   ·exact h
  ·exact H.low m w0 h3 l hwl
 ·intro m w hw hh
  rcases sp_cases hw with ⟨rfl, rfl⟩ | ⟨h1, rfl, rfl⟩ | ⟨h1, h2, w0, h3, rfl⟩
  ·cases hh
  ·exact H.last n v hv hh
  ·exact H.last m w0 h3 hh
 ·intro m w hw b hb
  rcases sp_cases hw with ⟨rfl, rfl⟩ | ⟨h1, rfl, rfl⟩ | ⟨h1, h2, w0, h3, rfl⟩
  ·cases hb
   refine ⟨spB v e c, ?_, rfl, rfl, by unfold spA spB; dsimp only; omega⟩
   show spI I m F.length _ _ _ (F.length : Int) = _
   unfold spI
   rw [if_neg (by omega), if_pos rfl]
  ·obtain ⟨y, y1, y2, y3, y4⟩ := H.next n v hv b hb
   have hyn : v.nx ≠ n := by intro hh; rw [hh, hv] at y1; cases y1; omega
   obtain ⟨y', z1, z2, z3, z4, -⟩ := sp_forth (e := e) (c := c) hv hfr y1
   refine ⟨y', z1, by rw [z2, y2]; rfl, by rw [z3, y3], ?_⟩
   rw [z4 hyn]
   unfold shR spB
   dsimp only
   split <;> omega
  ·obtain ⟨y, y1, y2, y3, y4⟩ := H.next m w0 h3 b hb
   obtain ⟨y', z1, z2, z3, z4, z5⟩ := sp_forth (e := e) (c := c) hv hfr y1
   refine ⟨y', z1, by rw [z2, y2]; rfl, by rw [z3, y3], ?_⟩
   by_cases hyn : w0.nx = n
   ·rw [z5 hyn]
    rw [hyn, hv] at y1
    cases y1
    unfold shR spA
    dsimp only
    split <;> omega
   ·rw [z4 hyn]
    unfold shR
    dsimp only
    split <;> split <;> omega
 ·intro m w hw hwl k hk
  rcases sp_cases hw with ⟨rfl, rfl⟩ | ⟨h1, rfl, rfl⟩ | ⟨h1, h2, w0, h3, rfl⟩
  ·rcases listA_mem hk with h | rfl
   ·exact hkd m v hv hwl k h
   ·obtain ⟨y, y1, y2, y3⟩ := hkid hwl
    obtain ⟨y', z1, z2, z3, -, -⟩ := sp_forth (e := e) (c := c) hv hfr y1
    exact ⟨y', z1, by rw [z2, y2]; rfl, by rw [z3, y3, if_neg hene]⟩
  ·rcases listB_mem hok h12 hk with ⟨h, h8⟩ | ⟨h, h9, h10⟩ | ⟨rfl, h⟩
   ·obtain ⟨y, y1, y2, y3⟩ := hkd n v hv hwl k h
    refine ⟨y, y1, y2, ?_⟩
    have hkne : k.1 ≠ leastE := by
     intro hh
     rw [hh] at h8
     have := least_lt hbo.1
     have := cmpE_neg leastE (bordK v.lv v.ks)
     omega
    rw [y3, if_neg hkne, if_neg hkne]
   ·obtain ⟨y, y1, y2, y3⟩ := hkd n v hv hwl _ h10
    exact ⟨y, y1, y2, by rw [y3, if_neg hbne, if_pos h9]; rfl⟩
   ·obtain ⟨y, y1, y2, y3⟩ := hkid hwl
    obtain ⟨y', z1, z2, z3, -, -⟩ := sp_forth (e := e) (c := c) hv hfr y1
    exact ⟨y', z1, by rw [z2, y2]; rfl, by rw [z3, y3, if_neg hene]⟩
  ·exact hkd m w0 h3 hwl k hk
 ·intro m w m' w' hw hw' hlt
  have hrk : ∀ m0 w0, I m0 = some w0 → (w0.lv < v.lv → w0.rk < v.rk) ∧ (v.lv < w0.lv → v.rk < w0.rk) := fun m0 w0 h0 => ⟨fun h => H.rank m0 w0 n v h0 hv h, fun h => H.rank n v m0 w0 hv h0 h⟩
  rcases sp_cases hw with ⟨rfl, rfl⟩ | ⟨h1, rfl, rfl⟩ | ⟨h1, h2, w0, h3, rfl⟩ <;> rcases sp_cases hw' with ⟨rfl, rfl⟩ | ⟨g1, rfl, rfl⟩ | ⟨g1, g2, x0, g3, rfl⟩
  ·exact absurd hlt (Int.lt_irrefl _)
  ·exact absurd hlt (Int.lt_irrefl _)
  ·have := (hrk _ _ g3).2 hlt
   unfold spA shR
   dsimp only
   split <;> omega
  ·exact absurd hlt (Int.lt_irrefl _)
  ·exact absurd hlt (Int.lt_irrefl _)
  ·have := (hrk _ _ g3).2 hlt
   unfold spB shR
   dsimp only
   split <;> omega
  ·have := (hrk _ _ h3).1 hlt
   unfold spA shR
   dsimp only
   split <;> omega
  ·have := (hrk _ _ h3).1 hlt
   unfold spB shR
   dsimp only
   split <;> omega
  ·have := H.rank m w0 m' x0 h3 g3 hlt
   unfold shR
   dsimp only
   split <;> split <;> omega
 ·obtain ⟨y, y1, y2, y3, y4⟩ := H.root
  have h1n : (1 : Int) ≠ n := by rintro rfl; rw [hv] at y1; cases y1; omega
  obtain ⟨y', z1, z2, z3, z4, -⟩ := sp_forth (e := e) (c := c) hv hfr y1
  exact ⟨y', z1, by omega, by rw [z3, y3], by rw [z4 h1n]; exact y4⟩
 ·intro m w hw
  rcases sp_cases hw with ⟨rfl, rfl⟩ | ⟨h1, rfl, rfl⟩ | ⟨h1, h2, w0, h3, rfl⟩
  ·exact ⟨by unfold spA; dsimp only; omega, fun h => by unfold spA at h; dsimp only at h; omega⟩
  ·exact ⟨by unfold spB; dsimp only; omega, fun h => by unfold spB at h; dsimp only at h; omega⟩
  ·exact H.alone m w0 h3
 ·intro m w hw hwl b hb
  rcases sp_cases hw with ⟨rfl, rfl⟩ | ⟨h1, rfl, rfl⟩ | ⟨h1, h2, w0, h3, rfl⟩
  ·cases hb
   obtain ⟨k, hk, hke⟩ := List.mem_map.1 hbo.2
   obtain ⟨y, y1, y2, y3⟩ := hkd m v hv hwl k hk
   exact ⟨k.2, y, y1, y2, by rw [y3, hke, if_neg hbne]⟩
  ·obtain ⟨m', y, y1, y2, y3⟩ := H.bord n v hv hwl b hb
   obtain ⟨y', z1, z2, z3, -, -⟩ := sp_forth (e := e) (c := c) hv hfr y1
   exact ⟨m', y', z1, by rw [z2, y2]; rfl, by rw [z3, y3]⟩
  ·obtain ⟨m', y, y1, y2, y3⟩ := H.bord m w0 h3 hwl b hb
   obtain ⟨y', z1, z2, z3, -, -⟩ := sp_forth (e := e) (c := c) hv hfr y1
   exact ⟨m', y', z1, by rw [z2, y2]; rfl, by rw [z3, y3]⟩
 ·have hself : cmpE (bordK v.lv v.ks) (bordK v.lv v.ks) ≤ 0 := by rw [cmpE_self]; exact Int.le_refl _
  have hA1 : ∀ m x0, I m = some x0 → v.lv = x0.lv → n ≠ m → (∃ b l, (spA v e c F.length).hi = some b ∧ (shR v.rk x0).lo = some l ∧ cmpE b l ≤ 0) ∨ (∃ b l, (shR v.rk x0).hi = some b ∧ (spA v e c F.length).lo = some l ∧ cmpE b l ≤ 0) := by
   intro m x0 hx hlv hne
   rcases H.sep n v m x0 hv hx hlv hne with ⟨b, l, a1, a2, a3⟩ | ⟨b, l, a1, a2, a3⟩
   ·exact .inl ⟨_, l, rfl, a2, Int.le_of_lt (cmp_lt_le (hbhi b a1) a3)⟩
   ·exact .inr ⟨b, l, a1, a2, a3⟩
  have hB1 : ∀ m x0, I m = some x0 → v.lv = x0.lv → n ≠ m → (∃ b l, (spB v e c).hi = some b ∧ (shR v.rk x0).lo = some l ∧ cmpE b l ≤ 0) ∨ (∃ b l, (shR v.rk x0).hi = some b ∧ (spB v e c).lo = some l ∧ cmpE b l ≤ 0) := by
   intro m x0 hx hlv hne
   rcases H.sep n v m x0 hv hx hlv hne with ⟨b, l, a1, a2, a3⟩ | ⟨b, l, a1, a2, a3⟩
   ·exact .inl ⟨b, l, a1, a2, a3⟩
   ·exact .inr ⟨b, _, a1, rfl, Int.le_of_lt (cmp_le_lt a3 (hblo l a2))⟩
  intro m w m' w' hw hw' hlt hmm
  rcases sp_cases hw with ⟨rfl, rfl⟩ | ⟨h1, rfl, rfl⟩ | ⟨h1, h2, w0, h3, rfl⟩ <;> rcases sp_cases hw' with ⟨g0, rfl⟩ | ⟨g1, g0, rfl⟩ | ⟨g1, g2, x0, g3, rfl⟩
  ·exact absurd g0.symm hmm
  ·exact .inl ⟨_, _, rfl, rfl, hself⟩
  ·exact hA1 m' x0 g3 hlt (fun h => g1 h.symm)
  ·exact .inr ⟨_, _, rfl, rfl, hself⟩
  ·exact absurd g0.symm hmm
  ·exact hB1 m' x0 g3 hlt (fun h => g1 h.symm)
  ·exact (hA1 m w0 h3 hlt.symm (fun h => h1 h.symm)).symm
  ·exact (hB1 m w0 h3 hlt.symm (fun h => h1 h.symm)).symm
  ·exact H.sep m w0 m' x0 h3 g3 hlt hmm
 ·rw [hlen, heft_append, heft_one]
  have h1 := heft_set (Q := nodeP v.lv (listA v.lv v.ks e c) F.length (some (bordK v.lv v.ks))) hn3
  rw [nd_items, nd_items] at h1
  rw [nd_items]
  have := H.size
  omega
 ·rw [hlen]
  have := H.tops
  omega
 ·intro m w hw
  rw [hlen]
  have hvr := H.rkb n v hv
  rcases sp_cases hw with ⟨rfl, rfl⟩ | ⟨h1, rfl, rfl⟩ | ⟨h1, h2, w0, h3, rfl⟩
  ·unfold spA; dsimp only; omega
  ·unfold spB; dsimp only; omega
  ·have := H.rkb m w0 h3
   unfold shR
   dsimp only
   split <;> omega
end Go.Proofs.Ytaninphcgeaepaa
namespace Go.Proofs.Ytaninphcgeaepaa
open Go.RowKit
variable {F : List Pg} {I : Int → Option Nv} {top : Int} {q : Nat} {v : Nv} {e : En} {c : Int}
def rtI (I : Int → Option Nv) (f r : Int) (t a b : Nv) : Int → Option Nv := fun m => if m = 1 then some t else if m = f then some a else if m = r then some b else I m
def rtT (v : Nv) (f r : Int) : Nv := ⟨v.lv + 1, none, none, [(leastE, f), (bordK v.lv v.ks, r)], 0, v.rk + 2⟩
def rtA (v : Nv) (e : En) (c r : Int) : Nv := ⟨v.lv, none, some (bordK v.lv v.ks), listA v.lv v.ks e c, r, v.rk + 1⟩
def rtB (v : Nv) (e : En) (c : Int) : Nv := ⟨v.lv, some (bordK v.lv v.ks), none, listB v.lv v.ks e c, 0, v.rk⟩
theorem rt_cases {f r : Int} {t a b : Nv} {m : Int} {w : Nv} (h : rtI I f r t a b m = some w) : (m = 1 ∧ w = t) ∨ (m ≠ 1 ∧ m = f ∧ w = a) ∨ (m ≠ 1 ∧ m ≠ f ∧ m = r ∧ w = b) ∨ (m ≠ 1 ∧ m ≠ f ∧ m ≠ r ∧ I m = some w) := by
 unfold rtI at h
 by_cases h1 : m = 1
 ·rw [if_pos h1] at h; cases h; exact .inl ⟨h1, rfl⟩
 ·rw [if_neg h1] at h
  by_cases h2 : m = f
  ·rw [if_pos h2] at h; cases h; exact .inr (.inl ⟨h1, h2, rfl⟩)
  ·rw [if_neg h2] at h
   by_cases h3 : m = r
   ·rw [if_pos h3] at h; cases h; exact .inr (.inr (.inl ⟨h1, h2, h3, rfl⟩))
   ·rw [if_neg h3] at h; exact .inr (.inr (.inr ⟨h1, h2, h3, h⟩))
theorem Fo.raise (H : Fo F I top q) (hv : I 1 = some v) (hC : Comes v.lv v.hi e c) (hnew : e ∉ keysK v.ks) (hfull : ¬ fitsP (nodeP v.lv (insK v.ks (e, c)) v.nx v.hi) = true)
  (hkid : v.lv ≠ 0 → ∃ w, I c = some w ∧ w.lv = v.lv - 1 ∧ w.lo = some e) (hF : F.length ≤ 510) :
  Fo ((F ++ [nodeP v.lv (listA v.lv v.ks e c) (F.length + 1 : Nat) (some (bordK v.lv v.ks))] ++ [nodeP v.lv (listB v.lv v.ks e c) 0 none]).set 1 (nodeP (v.lv + 1) [(leastE, (F.length : Int)), (bordK v.lv v.ks, ((F.length + 1 : Nat) : Int))] 0 none))
   (rtI I F.length (F.length + 1 : Nat) (rtT v F.length (F.length + 1 : Nat)) (rtA v e c (F.length + 1 : Nat)) (rtB v e c)) (top + 1) q := by
 obtain ⟨hn1, hn2, hn3, hok⟩ := H.here 1 v hv
 obtain ⟨v', hv', hvt, hvlo, hvhi⟩ := H.root
 rw [hv] at hv'
 cases hv'
 have hnx := H.last 1 v hv hvhi
 have h12 := full_12 hok hC hfull
 have hlv := hok.lev
 have htop := H.tops
 have hr1 : inB ((F.length + 1 : Nat) : Int) 1 65535 = true := by unfold inB; simp; omega
 have hr0 : inB ((F.length + 1 : Nat) : Int) 0 65535 = true := by unfold inB; simp; omega
 have hf1 : inB (F.length : Int) 1 65535 = true := by unfold inB; simp; omega
 obtain ⟨hA, hB⟩ := halves hok hC h12 hnew hr0
 rw [hnx, hvhi] at hB
 have hbo := bord_ok hok h12
 have hbne := en_ne_least hbo.1
 have hene := en_ne_least hC.ok
 have hll := list_lens (e := e) (c := c) hok h12
 obtain ⟨-, hT⟩ := root_nd (lv := v.lv) (by omega) hf1 hr1 hbo.1
 have hlen : ((F ++ [nodeP v.lv (listA v.lv v.ks e c) (F.length + 1 : Nat) (some (bordK v.lv v.ks))] ++ [nodeP v.lv (listB v.lv v.ks e c) 0 none]).set 1 (nodeP (v.lv + 1) [(leastE, (F.length : Int)), (bordK v.lv v.ks, ((F.length + 1 : Nat) : Int))] 0 none)).length = F.length + 2 := by simp
 have hold : ∀ m w, I m = some w → m ≠ 1 → w.lv < v.lv ∧ m ≠ (F.length : Int) ∧ m ≠ ((F.length + 1 : Nat) : Int) ∧ w.rk < v.rk := by
  intro m w hw hm
  obtain ⟨a1, a2⟩ := H.alone m w hw
  have a3 := (H.here m w hw).2.1
  have a4 : w.lv < v.lv := by
   rcases Decidable.em (w.lv = top) with h | h
   ·exact absurd (a2 h) hm
   ·omega
  exact ⟨a4, by omega, by omega, H.rank m w 1 v hw hv a4⟩
 have hin : ∀ m w, I m = some w → m ≠ 1 → rtI I F.length (F.length + 1 : Nat) (rtT v F.length (F.length + 1 : Nat)) (rtA v e c (F.length + 1 : Nat)) (rtB v e c) m = some w := by
  intro m w hw hm
  obtain ⟨-, h2, h3, -⟩ := hold m w hw hm
  unfold rtI
  rw [if_neg hm, if_neg h2, if_neg h3, hw]
 have hiA : rtI I F.length (F.length + 1 : Nat) (rtT v F.length (F.length + 1 : Nat)) (rtA v e c (F.length + 1 : Nat)) (rtB v e c) (F.length : Int) = some (rtA v e c (F.length + 1 : Nat)) := by
  unfold rtI
  rw [if_neg (by omega), if_pos rfl]
 have hiB : rtI I F.length (F.length + 1 : Nat) (rtT v F.length (F.length + 1 : Nat)) (rtA v e c (F.length + 1 : Nat)) (rtB v e c) ((F.length + 1 : Nat) : Int) = some (rtB v e c) := by
  unfold rtI
  rw [if_neg (by omega), if_neg (by omega), if_pos rfl]
 have hkd : ∀ w, v.lv ≠ 0 → (∃ k ∈ v.ks, I k.2 = some w ∧ w.lv = v.lv - 1) ∨ (I c = some w ∧ w.lv = v.lv - 1) → ∃ m, m ≠ 1 ∧ I m = some w := by
  intro w h0 h
  rcases h with ⟨k, _, h1, h2⟩ | ⟨h1, h2⟩
  ·exact ⟨k.2, fun hh => by rw [hh, hv] at h1; cases h1; omega, h1⟩
  ·exact ⟨c, fun hh => by rw [hh, hv] at h1; cases h1; omega, h1⟩
 have hkid1 : ∀ k ∈ v.ks, v.lv ≠ 0 → ∃ w, rtI I F.length (F.length + 1 : Nat) (rtT v F.length (F.length + 1 : Nat)) (rtA v e c (F.length + 1 : Nat)) (rtB v e c) k.2 = some w ∧ w.lv = v.lv - 1 ∧ w.lo = (if k.1 = leastE then none else some k.1) := by
  intro k hk h0
  obtain ⟨w, w1, w2, w3⟩ := H.kid 1 v hv h0 k hk
  refine ⟨w, hin _ _ w1 (fun hh => by rw [hh, hv] at w1; cases w1; omega), w2, ?_⟩
  rw [w3, hvlo]
 have hkid2 : v.lv ≠ 0 → ∃ w, rtI I F.length (F.length + 1 : Nat) (rtT v F.length (F.length + 1 : Nat)) (rtA v e c (F.length + 1 : Nat)) (rtB v e c) c = some w ∧ w.lv = v.lv - 1 ∧ w.lo = some e := by
  intro h0
  obtain ⟨w, w1, w2, w3⟩ := hkid h0
  exact ⟨w, hin _ _ w1 (fun hh => by rw [hh, hv] at w1; cases w1; omega), w2, w3⟩
 refine ⟨?_, ?_, ?_, ?_, ?_, ?_, ?_, ?_, ?_, ?_, ?_, ?_, ?_⟩
 ·intro m w hw
  rw [hlen]
  rcases rt_cases hw with ⟨rfl, rfl⟩ | ⟨h1, rfl, rfl⟩ | ⟨h1, h2, rfl, rfl⟩ | ⟨h1, h2, h3, h4⟩
  ·refine ⟨by omega, by omega, ?_, hT⟩
   rw [show (1 : Int).toNat = 1 from rfl, List.getElem?_set_self (by simp)]
   rfl
  ·refine ⟨by omega, by omega, ?_, hA⟩
   rw [List.getElem?_set_ne (by omega), List.getElem?_append_left (by simp), List.getElem?_append_right (by simp)]
   simp [rtA]
  ·refine ⟨by omega, by omega, ?_, hB⟩
   rw [List.getElem?_set_ne (by omega), List.getElem?_append_right (by simp)]
   simp [rtB]
  ·obtain ⟨a1, a2, a3, a4⟩ := H.here m w h4
   refine ⟨a1, by omega, ?_, a4⟩
   rw [List.getElem?_set_ne (by omega), List.getElem?_append_left (by simp; omega), List.getElem?_append_left (by omega)]
   exact a3
 ·intro m w hw l hwl
  rcases rt_cases hw with ⟨rfl, rfl⟩ | ⟨h1, rfl, rfl⟩ | ⟨h1, h2, rfl, rfl⟩ | ⟨h1, h2, h3, h4⟩
  ·cases hwl
  ·cases hwl
  ·cases hwl
   refine ⟨fun k hk hkl => ?_, fun b hb => by cases hb⟩
   rcases listB_mem hok h12 hk with ⟨_, h⟩ | ⟨h, h9, _⟩ | ⟨rfl, h⟩
   ·exact h
   ·exact absurd hkl (fun hk2 => hk2.elim (fun h8 => h h8) (fun h8 => h8 h9))
   ·exact h
  ·exact H.low m w h4 l hwl
 ·intro m w hw hh
  rcases rt_cases hw with ⟨rfl, rfl⟩ | ⟨h1, rfl, rfl⟩ | ⟨h1, h2, rfl, rfl⟩ | ⟨h1, h2, h3, h4⟩
  ·rfl
  ·cases hh
  ·rfl
  ·exact H.last m w h4 hh
 ·intro m w hw b hb
  rcases rt_cases hw with ⟨rfl, rfl⟩ | ⟨h1, rfl, rfl⟩ | ⟨h1, h2, rfl, rfl⟩ | ⟨h1, h2, h3, h4⟩
  ·cases hb
  ·cases hb
   exact ⟨rtB v e c, hiB, rfl, rfl, by unfold rtA rtB; dsimp only; omega⟩
  ·cases hb
  ·obtain ⟨y, y1, y2, y3, y4⟩ := H.next m w h4 b hb
   have := hold m w h4 h1
   exact ⟨y, hin _ _ y1 (fun hh => by rw [hh, hv] at y1; cases y1; omega), y2, y3, y4⟩
 ·intro m w hw hwl k hk
  rcases rt_cases hw with ⟨rfl, rfl⟩ | ⟨h1, rfl, rfl⟩ | ⟨h1, h2, rfl, rfl⟩ | ⟨h1, h2, h3, h4⟩
  ·unfold rtT at hk
   simp only [List.mem_cons, List.not_mem_nil, or_false] at hk
   rcases hk with rfl | rfl
   ·exact ⟨_, hiA, by unfold rtA rtT; dsimp only; omega, by rw [if_pos rfl]; rfl⟩
   ·exact ⟨_, hiB, by unfold rtB rtT; dsimp only; omega, by rw [if_neg hbne]; rfl⟩
  ·rcases listA_mem hk with h | rfl
   ·exact hkid1 k h hwl
   ·obtain ⟨y, y1, y2, y3⟩ := hkid2 hwl
    exact ⟨y, y1, y2, by rw [y3, if_neg hene]⟩
  ·rcases listB_mem hok h12 hk with ⟨h, h8⟩ | ⟨h, h9, h10⟩ | ⟨rfl, h⟩
   ·obtain ⟨y, y1, y2, y3⟩ := hkid1 k h hwl
    have hkne : k.1 ≠ leastE := by
     intro hh
     rw [hh] at h8
     have := least_lt hbo.1
     have := cmpE_neg leastE (bordK v.lv v.ks)
     omega
    exact ⟨y, y1, y2, by rw [y3, if_neg hkne, if_neg hkne]⟩
   ·obtain ⟨y, y1, y2, y3⟩ := hkid1 _ h10 hwl
    exact ⟨y, y1, y2, by rw [y3, if_neg hbne, if_pos h9]; rfl⟩
   ·obtain ⟨y, y1, y2, y3⟩ := hkid2 hwl
    exact ⟨y, y1, y2, by rw [y3, if_neg hene]⟩
  ·obtain ⟨y, y1, y2, y3⟩ := H.kid m w h4 hwl k hk
   have := hold m w h4 h1
   exact ⟨y, hin _ _ y1 (fun hh => by rw [hh, hv] at y1; cases y1; omega), y2, y3⟩
 ·intro m w m' w' hw hw' hlt
  rcases rt_cases hw with ⟨rfl, rfl⟩ | ⟨h1, rfl, rfl⟩ | ⟨h1, h2, rfl, rfl⟩ | ⟨h1, h2, h3, h4⟩ <;> rcases rt_cases hw' with ⟨rfl, rfl⟩ | ⟨g1, rfl, rfl⟩ | ⟨g1, g2, rfl, rfl⟩ | ⟨g1, g2, g3, g4⟩
  ·omega
  ·unfold rtT rtA at *; dsimp only at *; omega
  ·unfold rtT rtB at *; dsimp only at *; omega
  ·have := hold _ _ g4 g1; unfold rtT at *; dsimp only at *; omega
  ·unfold rtT rtA at *; dsimp only at *; omega
  ·omega
  ·unfold rtA rtB at *; dsimp only at *; omega
  ·have := hold _ _ g4 g1; unfold rtA at *; dsimp only at *; omega
  ·unfold rtT rtB at *; dsimp only at *; omega
  ·unfold rtA rtB at *; dsimp only at *; omega
  ·omega
  ·have := hold _ _ g4 g1; unfold rtB at *; dsimp only at *; omega
  ·have := hold _ _ h4 h1; unfold rtT at *; dsimp only at *; omega
  ·have := hold _ _ h4 h1; unfold rtA at *; dsimp only at *; omega
  ·have := hold _ _ h4 h1; unfold rtB at *; dsimp only at *; omega
  ·exact H.rank m w m' w' h4 g4 hlt
 ·exact ⟨rtT v F.length (F.length + 1 : Nat), by unfold rtI; rw [if_pos rfl], by unfold rtT; dsimp only; omega, rfl, rfl⟩
 ·intro m w hw
  rcases rt_cases hw with ⟨rfl, rfl⟩ | ⟨h1, rfl, rfl⟩ | ⟨h1, h2, rfl, rfl⟩ | ⟨h1, h2, h3, h4⟩
  ·exact ⟨by unfold rtT; dsimp only; omega, fun _ => rfl⟩
  ·exact ⟨by unfold rtA; dsimp only; omega, fun h => by unfold rtA at h; dsimp only at h; omega⟩
  ·exact ⟨by unfold rtB; dsimp only; omega, fun h => by unfold rtB at h; dsimp only at h; omega⟩
  ·have := hold m w h4 h1
   exact ⟨by omega, fun h => by omega⟩
 ·intro m w hw hwl b hb
  rcases rt_cases hw with ⟨rfl, rfl⟩ | ⟨h1, rfl, rfl⟩ | ⟨h1, h2, rfl, rfl⟩ | ⟨h1, h2, h3, h4⟩
  ·cases hb
  ·cases hb
   obtain ⟨k, hk, hke⟩ := List.mem_map.1 hbo.2
   obtain ⟨y, y1, y2, y3⟩ := hkid1 k hk hwl
   exact ⟨k.2, y, y1, y2, by rw [y3, hke, if_neg hbne]⟩
  ·cases hb
  ·obtain ⟨m', y, y1, y2, y3⟩ := H.bord m w h4 hwl b hb
   have := hold m w h4 h1
   exact ⟨m', y, hin _ _ y1 (fun hh => by rw [hh, hv] at y1; cases y1; omega), y2, y3⟩
 ·have hself : cmpE (bordK v.lv v.ks) (bordK v.lv v.ks) ≤ 0 := by rw [cmpE_self]; exact Int.le_refl _
  intro m w m' w' hw hw' hlt hmm
  rcases rt_cases hw with ⟨rfl, rfl⟩ | ⟨h1, rfl, rfl⟩ | ⟨h1, h2, rfl, rfl⟩ | ⟨h1, h2, h3, h4⟩ <;> rcases rt_cases hw' with ⟨g0, rfl⟩ | ⟨g1, g0, rfl⟩ | ⟨g1, g2, g0, rfl⟩ | ⟨g1, g2, g3, g4⟩
  ·exact absurd g0.symm hmm
  ·unfold rtT rtA at hlt; dsimp only at hlt; omega
  ·unfold rtT rtB at hlt; dsimp only at hlt; omega
  ·have := hold _ _ g4 g1; unfold rtT at hlt; dsimp only at hlt; omega
  ·unfold rtT rtA at hlt; dsimp only at hlt; omega
  ·exact absurd g0.symm hmm
  ·exact .inl ⟨_, _, rfl, rfl, hself⟩
  ·have := hold _ _ g4 g1; unfold rtA at hlt; dsimp only at hlt; omega
  ·unfold rtT rtB at hlt; dsimp only at hlt; omega
  ·exact .inr ⟨_, _, rfl, rfl, hself⟩
  ·exact absurd g0.symm hmm
  ·have := hold _ _ g4 g1; unfold rtB at hlt; dsimp only at hlt; omega
  ·have := hold _ _ h4 h1; unfold rtT at hlt; dsimp only at hlt; omega
  ·have := hold _ _ h4 h1; unfold rtA at hlt; dsimp only at hlt; omega
  ·have := hold _ _ h4 h1; unfold rtB at hlt; dsimp only at hlt; omega
  ·exact H.sep m w m' w' h4 g4 hlt hmm
 ·rw [hlen]
  have h1 := heft_set (F := F ++ [nodeP v.lv (listA v.lv v.ks e c) (F.length + 1 : Nat) (some (bordK v.lv v.ks))] ++ [nodeP v.lv (listB v.lv v.ks e c) 0 none]) (i := 1) (P := nodeP v.lv v.ks v.nx v.hi) (Q := nodeP (v.lv + 1) [(leastE, (F.length : Int)), (bordK v.lv v.ks, ((F.length + 1 : Nat) : Int))] 0 none) (by
   rw [List.getElem?_append_left (by simp; omega), List.getElem?_append_left (by omega)]
   exact hn3)
  rw [heft_append, heft_append, heft_one, heft_one, nd_items, nd_items, nd_items, nd_items] at h1
  have := H.size
  simp only [List.length_cons, List.length_nil] at h1
  omega
 ·rw [hlen]
  omega
 ·intro m w hw
  rw [hlen]
  have hvr := H.rkb 1 v hv
  rcases rt_cases hw with ⟨rfl, rfl⟩ | ⟨h1, rfl, rfl⟩ | ⟨h1, h2, rfl, rfl⟩ | ⟨h1, h2, h3, h4⟩
  ·unfold rtT; dsimp only; omega
  ·unfold rtA; dsimp only; omega
  ·unfold rtB; dsimp only; omega
  ·have := H.rkb m w h4
   omega
def v0 : Nv := ⟨0, none, none, [], 0, 0⟩
theorem empty_ok : NodeOk 0 [] 0 none := ⟨by omega, by decide, List.Pairwise.nil, fun j hj => by simp at hj, by simp, by decide, .inl rfl⟩
theorem fo_first : Fo [zeroP, nodeP 0 [] 0 none] (fun m => if m = 1 then some v0 else none) 0 0 := by
 have hc : ∀ {m : Int} {w : Nv}, (if m = 1 then some v0 else none) = some w → m = 1 ∧ w = v0 := by
  intro m w h
  split at h
  ·cases h; exact ⟨by assumption, rfl⟩
  ·cases h
 refine ⟨?_, ?_, ?_, ?_, ?_, ?_, ?_, ?_, ?_, ?_, ?_, ?_, ?_⟩
 ·intro m w h
  obtain ⟨rfl, rfl⟩ := hc h
  exact ⟨by omega, by simp, rfl, empty_ok⟩
 ·intro m w h l hl
  obtain ⟨rfl, rfl⟩ := hc h
  cases hl
 ·intro m w h _
  obtain ⟨rfl, rfl⟩ := hc h
  rfl
 ·intro m w h b hb
  obtain ⟨rfl, rfl⟩ := hc h
  cases hb
 ·intro m w h hl
  obtain ⟨rfl, rfl⟩ := hc h
  exact absurd rfl hl
 ·intro m w m' w' h h' hl
  obtain ⟨rfl, rfl⟩ := hc h
  obtain ⟨rfl, rfl⟩ := hc h'
  omega
 ·exact ⟨v0, rfl, rfl, rfl, rfl⟩
 ·intro m w h
  obtain ⟨rfl, rfl⟩ := hc h
  exact ⟨Int.le_refl _, fun _ => rfl⟩
 ·intro m w h hl
  obtain ⟨rfl, rfl⟩ := hc h
  exact absurd rfl hl
 ·intro m w m' w' h h' _ hne
  obtain ⟨rfl, rfl⟩ := hc h
  obtain ⟨rfl, rfl⟩ := hc h'
  exact absurd rfl hne
 ·simp [heft, zeroP, nodeP]
 ·simp
 ·intro m w h
  obtain ⟨rfl, rfl⟩ := hc h
  simp [v0]
end Go.Proofs.Ytaninphcgeaepaa
namespace Go.Proofs.Ytaninphcgeaepaa
open Go.RowKit
variable {F : List Pg} {I : Int → Option Nv} {top : Int} {q : Nat} {n : Int} {v : Nv} {e : En} {c : Int}
theorem Fo.newb (H : Fo F I top q) (hv : I n = some v) {b : En} (h1 : ∀ l, v.lo = some l → cmpE l b < 0) (h2 : ∀ d, v.hi = some d → cmpE b d < 0) {m : Int} {w : Nv} (hw : I m = some w) (hl : w.lv = v.lv) : w.lo ≠ some b := by
 intro hb
 have hnm : n ≠ m := by
  rintro rfl
  rw [hv] at hw
  cases hw
  have := h1 b hb
  rw [cmpE_self] at this
  omega
 rcases H.sep n v m w hv hw hl.symm hnm with ⟨d, l, a1, a2, a3⟩ | ⟨d, l, a1, a2, a3⟩
 ·rw [hb] at a2
  cases a2
  have := h2 d a1
  have := cmpE_neg b d
  omega
 ·have h3 := (H.low m w hw b hb).2 d a1
  have h4 := cmp_lt_le h3 a3
  have h5 := h1 l a2
  have := cmpE_neg b l
  omega
theorem bord_lo (H : Fo F I top q) (hv : I n = some v) (h12 : 12 ≤ v.ks.length) : ∀ l, v.lo = some l → cmpE l (bordK v.lv v.ks) < 0 := by
 intro l hl
 have hbo := bord_ok (H.here n v hv).2.2.2 h12
 obtain ⟨k, hk, hke⟩ := List.mem_map.1 hbo.2
 have := (H.low n v hv l hl).1 k hk (.inr (by rw [hke]; exact en_ne_least hbo.1))
 rwa [hke] at this
theorem Fo.post (H : Fo F I top q) (hv : I n = some v) (hC : Comes v.lv v.hi e c) (hfull : ¬ fitsP (nodeP v.lv (insK v.ks (e, c)) v.nx v.hi) = true) (hF : F.length ≤ 65535)
  {m : Int} {u : Nv} (hu : spI I n F.length (spA v e c F.length) (spB v e c) v.rk m = some u) (hul : u.lv = v.lv + 1) (hR : inR u.lo u.hi (bordK v.lv v.ks)) :
  Comes u.lv u.hi (bordK v.lv v.ks) F.length ∧ bordK v.lv v.ks ∉ keysK u.ks ∧ (∀ l, u.lo = some l → cmpE l (bordK v.lv v.ks) < 0) ∧ ∃ w, spI I n F.length (spA v e c F.length) (spB v e c) v.rk (F.length : Int) = some w ∧ w.lv = u.lv - 1 ∧ w.lo = some (bordK v.lv v.ks) := by
 obtain ⟨hn1, hn2, hn3, hok⟩ := H.here n v hv
 have h12 := full_12 hok hC hfull
 have hbo := bord_ok hok h12
 have hbne := en_ne_least hbo.1
 have hlv := hok.lev
 have hnb := fun (m' : Int) (w : Nv) (hw : I m' = some w) (hl : w.lv = v.lv) => H.newb hv (bord_lo H hv h12) (bord_hi hok h12) hw hl
 have hul0 : u.lv ≠ 0 := by omega
 rcases sp_cases hu with ⟨rfl, rfl⟩ | ⟨h1, rfl, rfl⟩ | ⟨h1, h2, u0, h3, rfl⟩
 ·unfold spA at hul; dsimp only at hul; omega
 ·unfold spB at hul; dsimp only at hul; omega
 ·have hul' : u0.lv = v.lv + 1 := hul
  refine ⟨⟨hbo.1, ?_, ?_⟩, ?_, hR.1, spB v e c, ?_, ?_, rfl⟩
  ·rw [if_neg hul0]
   unfold inB
   simp
   omega
  ·rw [if_neg hul0]
   intro b hb
   have hle := hR.2 b hb
   rcases Decidable.em (cmpE (bordK v.lv v.ks) b = 0) with h0 | h0
   ·exfalso
    have hbe := cmpE_eq.1 h0
    obtain ⟨m', w, w1, w2, w3⟩ := H.bord m u0 h3 (by omega) b hb
    exact hnb m' w w1 (by omega) (by rw [w3, hbe])
   ·omega
  ·intro hk
   obtain ⟨k, hk, hke⟩ := List.mem_map.1 hk
   obtain ⟨w, w1, w2, w3⟩ := H.kid m u0 h3 (by omega) k hk
   rw [hke, if_neg hbne] at w3
   exact hnb _ w w1 (by omega) w3
  ·unfold spI
   rw [if_neg (by omega), if_pos rfl]
  ·show v.lv = (shR v.rk u0).lv - 1
   have : (shR v.rk u0).lv = u0.lv := rfl
   omega
theorem comes_leaf {hi : Option En} {lo : Option En} (he : enOk e = true) (hR : inR lo hi e) : Comes 0 hi e 0 := by
 refine ⟨he, by rw [if_pos rfl], ?_⟩
 rw [if_pos rfl]
 cases hb : beyH hi e with
 | false => rfl
 | true =>
  obtain ⟨b, h1, h2⟩ := bey_iff.1 hb
  have := hR.2 b h1
  omega
def Has (I : Int → Option Nv) (x : En) : Prop := ∃ n v, I n = some v ∧ v.lv = 0 ∧ x ∈ keysK v.ks
theorem Fo.range (H : Fo F I top q) (hv : I n = some v) (h0 : v.lv = 0) {x : En} (hx : x ∈ keysK v.ks) : enOk x = true ∧ inR v.lo v.hi x := by
 obtain ⟨_, _, _, hok⟩ := H.here n v hv
 obtain ⟨k, hk, rfl⟩ := List.mem_map.1 hx
 obtain ⟨j, hj, rfl⟩ := List.getElem_of_mem hk
 refine ⟨nd_enOk hok hj (.inl h0), fun l hl => (H.low n v hv l hl).1 _ hk (.inl h0), fun b hb => ((hok.hi b hb).2 _ hk).1⟩
theorem Fo.found (H : Fo F I top q) {x : En} (hx : Has I x) (hq : q ≤ 19000) (ht : 0 ≤ top) : ∃ w, I (findF F 0 x 10000 1) = some w ∧ w.lv = 0 ∧ x ∈ keysK w.ks := by
 obtain ⟨m, v, hv, h0, hk⟩ := hx
 obtain ⟨hok, hR⟩ := H.range hv h0 hk
 obtain ⟨w, w1, w2, w3⟩ := find_root H ⟨Int.le_refl 0, ht⟩ hok hq
 have := H.one hv w1 (by omega) hR w3
 subst this
 rw [hv] at w1
 cases w1
 exact ⟨v, hv, h0, hk⟩
theorem keys_insK (ks : Ks) (k : En × Int) (x : En) : x ∈ keysK (insK ks k) ↔ x = k.1 ∨ x ∈ keysK ks := by
 rw [show keysK (insK ks k) = (insK ks k).map (·.1) from rfl, ((insK_perm ks k).map (·.1)).mem_iff]
 simp [keysK]
theorem has_ins (hv : I n = some v) (x : En) : Has (updI I n { v with ks := insK v.ks (e, c) }) x ↔ Has I x ∨ (v.lv = 0 ∧ x = e) := by
 constructor
 ·rintro ⟨m, w, hw, h0, hx⟩
  by_cases hm : m = n
  ·subst hm
   rw [updI_same] at hw
   cases hw
   rcases (keys_insK _ _ _).1 hx with h | h
   ·exact .inr ⟨h0, h⟩
   ·exact .inl ⟨m, v, hv, h0, h⟩
  ·rw [updI_other _ _ hm] at hw
   exact .inl ⟨m, w, hw, h0, hx⟩
 ·rintro (⟨m, w, hw, h0, hx⟩ | ⟨h0, rfl⟩)
  ·by_cases hm : m = n
   ·subst hm
    rw [hv] at hw
    cases hw
    exact ⟨m, _, updI_same _ _ _, h0, (keys_insK _ _ _).2 (.inr hx)⟩
   ·exact ⟨m, w, by rw [updI_other _ _ hm]; exact hw, h0, hx⟩
  ·exact ⟨n, _, updI_same _ _ _, h0, (keys_insK _ _ _).2 (.inl rfl)⟩
theorem halves_keys (hok : NodeOk v.lv v.ks v.nx v.hi) (h12 : 12 ≤ v.ks.length) (h0 : v.lv = 0) (he : enOk e = true) (x : En) :
  (x ∈ keysK (listA v.lv v.ks e c) ∨ x ∈ keysK (listB v.lv v.ks e c)) ↔ x ∈ keysK v.ks ∨ x = e := by
 constructor
 ·rintro (h | h)
  ·obtain ⟨k, hk, rfl⟩ := List.mem_map.1 h
   rcases listA_mem hk with h | rfl
   ·exact .inl (List.mem_map.2 ⟨k, h, rfl⟩)
   ·exact .inr rfl
  ·obtain ⟨k, hk, rfl⟩ := List.mem_map.1 h
   rcases listB_mem hok h12 hk with ⟨h, _⟩ | ⟨h, _⟩ | ⟨rfl, _⟩
   ·exact .inl (List.mem_map.2 ⟨k, h, rfl⟩)
   ·exact absurd h0 h
   ·exact .inr rfl
 ·intro h
  refine list_all hok h12 x ?_ h h0
  rcases h with h | rfl
  ·obtain ⟨k, hk, rfl⟩ := List.mem_map.1 h
   obtain ⟨j, hj, rfl⟩ := List.getElem_of_mem hk
   exact en_ne_least (nd_enOk hok hj (.inl h0))
  ·exact en_ne_least he
theorem has_split (H : Fo F I top q) (hv : I n = some v) (hC : Comes v.lv v.hi e c) (hfull : ¬ fitsP (nodeP v.lv (insK v.ks (e, c)) v.nx v.hi) = true) (x : En) :
  Has (spI I n F.length (spA v e c F.length) (spB v e c) v.rk) x ↔ Has I x ∨ (v.lv = 0 ∧ x = e) := by
 obtain ⟨hn1, hn2, hn3, hok⟩ := H.here n v hv
 have h12 := full_12 hok hC hfull
 have hiA : spI I n F.length (spA v e c F.length) (spB v e c) v.rk n = some (spA v e c F.length) := by unfold spI; rw [if_pos rfl]
 have hiB : spI I n F.length (spA v e c F.length) (spB v e c) v.rk (F.length : Int) = some (spB v e c) := by unfold spI; rw [if_neg (by omega), if_pos rfl]
 constructor
 ·rintro ⟨m, w, hw, h0, hx⟩
  rcases sp_cases hw with ⟨rfl, rfl⟩ | ⟨h1, rfl, rfl⟩ | ⟨h1, h2, w0, h3, rfl⟩
  ·rcases (halves_keys hok h12 h0 hC.ok x).1 (.inl hx) with h | h
   ·exact .inl ⟨m, v, hv, h0, h⟩
   ·exact .inr ⟨h0, h⟩
  ·rcases (halves_keys hok h12 h0 hC.ok x).1 (.inr hx) with h | h
   ·exact .inl ⟨n, v, hv, h0, h⟩
   ·exact .inr ⟨h0, h⟩
  ·exact .inl ⟨m, w0, h3, h0, hx⟩
 ·intro h
  have hnew : v.lv = 0 → (x ∈ keysK v.ks ∨ x = e) → Has (spI I n F.length (spA v e c F.length) (spB v e c) v.rk) x := by
   intro h0 hm
   rcases (halves_keys hok h12 h0 hC.ok x).2 hm with h | h
   ·exact ⟨n, _, hiA, h0, h⟩
   ·exact ⟨_, _, hiB, h0, h⟩
  rcases h with ⟨m, w, hw, h0, hx⟩ | ⟨h0, rfl⟩
  ·by_cases hm : m = n
   ·subst hm
    rw [hv] at hw
    cases hw
    exact hnew h0 (.inl hx)
   ·obtain ⟨w', w1, w2, w3, w4, -⟩ := sp_forth (e := e) (c := c) hv H.fresh hw
    refine ⟨m, w', w1, by omega, ?_⟩
    rw [w4 hm]
    exact hx
  ·exact hnew h0 (.inr rfl)
end Go.Proofs.Ytaninphcgeaepaa
namespace Go.Proofs.Ytaninphcgeaepaa
open Go.RowKit
variable {F : List Pg} {I : Int → Option Nv} {top : Int} {q : Nat} {n : Int} {v : Nv} {e : En} {c : Int}
theorem has_raise (H : Fo F I top q) (hv : I 1 = some v) (hC : Comes v.lv v.hi e c) (hfull : ¬ fitsP (nodeP v.lv (insK v.ks (e, c)) v.nx v.hi) = true) (x : En) :
  Has (rtI I F.length (F.length + 1 : Nat) (rtT v F.length (F.length + 1 : Nat)) (rtA v e c (F.length + 1 : Nat)) (rtB v e c)) x ↔ Has I x ∨ (v.lv = 0 ∧ x = e) := by
 obtain ⟨hn1, hn2, hn3, hok⟩ := H.here 1 v hv
 have h12 := full_12 hok hC hfull
 have hlv := hok.lev
 have hiA : rtI I F.length (F.length + 1 : Nat) (rtT v F.length (F.length + 1 : Nat)) (rtA v e c (F.length + 1 : Nat)) (rtB v e c) (F.length : Int) = some (rtA v e c (F.length + 1 : Nat)) := by
  unfold rtI
  rw [if_neg (by omega), if_pos rfl]
 have hiB : rtI I F.length (F.length + 1 : Nat) (rtT v F.length (F.length + 1 : Nat)) (rtA v e c (F.length + 1 : Nat)) (rtB v e c) ((F.length + 1 : Nat) : Int) = some (rtB v e c) := by
  unfold rtI
  rw [if_neg (by omega), if_neg (by omega), if_pos rfl]
 constructor
 ·rintro ⟨m, w, hw, h0, hx⟩
  rcases rt_cases hw with ⟨rfl, rfl⟩ | ⟨h1, rfl, rfl⟩ | ⟨h1, h2, rfl, rfl⟩ | ⟨h1, h2, h3, h4⟩
  ·unfold rtT at h0; dsimp only at h0; omega
  ·rcases (halves_keys hok h12 h0 hC.ok x).1 (.inl hx) with h | h
   ·exact .inl ⟨1, v, hv, h0, h⟩
   ·exact .inr ⟨h0, h⟩
  ·rcases (halves_keys hok h12 h0 hC.ok x).1 (.inr hx) with h | h
   ·exact .inl ⟨1, v, hv, h0, h⟩
   ·exact .inr ⟨h0, h⟩
  ·exact .inl ⟨m, w, h4, h0, hx⟩
 ·intro h
  have hnew : v.lv = 0 → (x ∈ keysK v.ks ∨ x = e) → Has (rtI I F.length (F.length + 1 : Nat) (rtT v F.length (F.length + 1 : Nat)) (rtA v e c (F.length + 1 : Nat)) (rtB v e c)) x := by
   intro h0 hm
   rcases (halves_keys hok h12 h0 hC.ok x).2 hm with h | h
   ·exact ⟨_, _, hiA, h0, h⟩
   ·exact ⟨_, _, hiB, h0, h⟩
  rcases h with ⟨m, w, hw, h0, hx⟩ | ⟨h0, rfl⟩
  ·by_cases hm : m = 1
   ·subst hm
    rw [hv] at hw
    cases hw
    exact hnew h0 (.inl hx)
   ·have hm2 := (H.here m w hw).2.1
    refine ⟨m, w, ?_, h0, hx⟩
    unfold rtI
    rw [if_neg hm, if_neg (by omega), if_neg (by omega), hw]
  ·exact hnew h0 (.inr rfl)
def scanF (F : List Pg) : Nat → Int → List En
 | 0, _ => []
 | k + 1, n => if n ≤ 0 then [] else ensN (F.getD n.toNat zeroP) ++ scanF F k (F.getD n.toNat zeroP).right
theorem Fo.scan (H : Fo F I top q) : ∀ (k : Nat) (n : Int) (v : Nv), I n = some v → v.lv = 0 → v.rk < k →
  (∀ x ∈ scanF F k n, Has I x ∧ ∀ l, v.lo = some l → cmpE l x < 0) ∧ Sorted (scanF F k n) ∧ ∀ x, Has I x → (∀ l, v.lo = some l → cmpE l x < 0) → x ∈ scanF F k n := by
 intro k
 induction k with
 | zero => intro n v _ _ h; omega
 | succ k ih =>
  intro n v hv h0 hrk
  obtain ⟨h1, h2, _, hok⟩ := H.here n v hv
  have hpg := H.page hv
  have hens : ensN (F.getD n.toNat zeroP) = keysK v.ks := by rw [hpg]; exact nd_ens hok
  have hrt : (F.getD n.toNat zeroP).right = v.nx := by rw [hpg]; rfl
  rw [scanF, if_neg (by omega), hens, hrt]
  have hup : Sorted (keysK v.ks) := hok.up
  have hmine : ∀ x ∈ keysK v.ks, Has I x ∧ ∀ l, v.lo = some l → cmpE l x < 0 := fun x hx => ⟨⟨n, v, hv, h0, hx⟩, (H.range hv h0 hx).2.1⟩
  cases hh : v.hi with
  | none =>
   have hnx := H.last n v hv hh
   have hz : scanF F k v.nx = [] := by
    rw [hnx]
    cases k with
    | zero => rfl
    | succ k => rw [scanF, if_pos (by omega)]
   rw [hz, List.append_nil]
   refine ⟨hmine, hup, ?_⟩
   rintro x ⟨m, w, hw, hw0, hx⟩ hlo
   have hR := (H.range hw hw0 hx).2
   have hR2 : inR v.lo v.hi x := ⟨hlo, fun b hb => by rw [hh] at hb; cases hb⟩
   have := H.one hw hv (by omega) hR hR2
   subst this
   rw [hv] at hw
   cases hw
   exact hx
  | some b =>
   obtain ⟨w, w1, w2, w3, w4⟩ := H.next n v hv b hh
   obtain ⟨i1, i2, i3⟩ := ih v.nx w w1 (by omega) (by omega)
   have hlb : ∀ l, v.lo = some l → cmpE l b < 0 := fun l hl => (H.low n v hv l hl).2 b hh
   have hle : ∀ x ∈ keysK v.ks, cmpE x b ≤ 0 := fun x hx => (H.range hv h0 hx).2.2 b hh
   refine ⟨fun x hx => ?_, ?_, ?_⟩
   ·rcases List.mem_append.1 hx with hx | hx
    ·exact hmine x hx
    ·exact ⟨(i1 x hx).1, fun l hl => cmp_lt_trans (hlb l hl) ((i1 x hx).2 b w3)⟩
   ·unfold Sorted
    rw [List.pairwise_append]
    refine ⟨hup, i2, fun x hx y hy => ?_⟩
    have h3 := cmp_le_lt (hle x hx) ((i1 y hy).2 b w3)
    have h4 := cmpE_three x y
    omega
   ·intro x hx hlo
    rcases Decidable.em (cmpE x b ≤ 0) with hb | hb
    ·obtain ⟨m, z, hz, hz0, hk⟩ := hx
     have hR := (H.range hz hz0 hk).2
     have hR2 : inR v.lo v.hi x := ⟨hlo, fun d hd => by rw [hh] at hd; cases hd; exact hb⟩
     have := H.one hz hv (by omega) hR hR2
     subst this
     rw [hv] at hz
     cases hz
     exact List.mem_append.2 (.inl hk)
    ·refine List.mem_append.2 (.inr (i3 x hx fun l hl => ?_))
     rw [w3] at hl
     cases hl
     have := cmpE_neg x b
     omega
end Go.Proofs.Ytaninphcgeaepaa
namespace Go.Proofs.Ytaninphcgeaepaa
open Go.RowKit
def outK (ks : Ks) (e : En) : Ks := ks.eraseIdx (posE (keysK ks) e)
variable {F : List Pg} {I : Int → Option Nv} {top : Int} {q : Nat} {n : Int} {v : Nv} {e : En} {c : Int} {r : Int} {ks : Ks} {h : Option En}
theorem outK_sub {k : En × Int} (hk : k ∈ outK ks e) : k ∈ ks := List.mem_of_mem_eraseIdx hk
theorem keys_outK (ks : Ks) (e : En) : keysK (outK ks e) = (keysK ks).eraseIdx (posE (keysK ks) e) := by
 unfold outK
 rw [List.eraseIdx_eq_take_drop_succ, List.eraseIdx_eq_take_drop_succ]
 unfold keysK
 rw [List.map_append, List.map_take, List.map_drop]
theorem mem_outK (H : Sorted (keysK ks)) (he : e ∈ keysK ks) (x : En) : x ∈ keysK (outK ks e) ↔ x ∈ keysK ks ∧ x ≠ e := by
 rw [keys_outK]
 obtain ⟨h1, h2⟩ := (mem_pos H).1 he
 rw [List.mem_eraseIdx_iff_getElem]
 constructor
 ·rintro ⟨i, hi, hne, rfl⟩
  refine ⟨List.getElem_mem _, fun h3 => hne ?_⟩
  exact sorted_inj H hi h1 (h3.trans h2.symm)
 ·rintro ⟨hx, hne⟩
  obtain ⟨i, hi, rfl⟩ := List.getElem_of_mem hx
  refine ⟨i, hi, ?_, rfl⟩
  rintro rfl
  exact hne h2
theorem rem_nd (H : NodeOk 0 ks r h) (he : e ∈ keysK ks) : remN (nodeP 0 ks r h) e = (nodeP 0 (outK ks e) r h, 0) := by
 unfold remN entriesOk
 rw [nd_open H, show (nodeP 0 ks r h).level = 0 from rfl, nd_ens H]
 rw [show (ks.map (·.1)) = keysK ks from rfl, decide_eq_true he]
 simp only [decide_true, Bool.and_self, if_true]
 unfold outP nodeP outK
 rw [List.eraseIdx_eq_take_drop_succ]
 simp only [List.map_append, List.map_take, List.map_drop]
theorem sum_outK (lv : Int) (ks : Ks) (e : En) : sumK lv (outK ks e) ≤ sumK lv ks ∧ (outK ks e).length ≤ ks.length := by
 unfold outK
 rw [List.eraseIdx_eq_take_drop_succ, sumK_append]
 have h1 := sumK_take lv ks (posE (keysK ks) e)
 have h2 := sumK_take lv (ks.drop (posE (keysK ks) e)) 1
 rw [List.drop_drop] at h2
 refine ⟨by omega, by simp; omega⟩
theorem out_ok (H : NodeOk 0 ks r h) : NodeOk 0 (outK ks e) r h := by
 refine ⟨H.lev, H.rt, ?_, fun j hj => ?_, fun b hb => ⟨(H.hi b hb).1, fun k hk => (H.hi b hb).2 k (outK_sub hk)⟩, ?_, .inl rfl⟩
 ·have h1 : Sorted (keysK ks) := H.up
  show Sorted (keysK (outK ks e))
  rw [keys_outK]
  unfold Sorted at *
  exact h1.sublist (List.eraseIdx_sublist _ _)
 ·have hm := outK_sub (List.getElem_mem hj)
  obtain ⟨i, hi, he⟩ := List.getElem_of_mem hm
  have := H.ok i hi
  unfold itOk at *
  rw [if_pos rfl] at *
  rw [← he]
  exact this
 ·have h1 := (fit_iff 0 ks r h).1 H.fit
  rw [fit_iff]
  have := sum_outK 0 ks e
  omega
theorem Fo.out (H : Fo F I top q) (hv : I n = some v) (h0 : v.lv = 0) :
  Fo (F.set n.toNat (nodeP v.lv (outK v.ks e) v.nx v.hi)) (updI I n { v with ks := outK v.ks e }) top q := by
 have hl : like v { v with ks := outK v.ks e } := ⟨rfl, rfl, rfl, rfl, rfl⟩
 obtain ⟨hn1, hn2, hn3, hok⟩ := H.here n v hv
 have hok' : NodeOk v.lv (outK v.ks e) v.nx v.hi := by rw [h0] at *; exact out_ok hok
 have hlen : (F.set n.toNat (nodeP v.lv (outK v.ks e) v.nx v.hi)).length = F.length := by simp
 refine ⟨?_, ?_, ?_, ?_, ?_, ?_, ?_, ?_, ?_, ?_, ?_, ?_, ?_⟩
 ·intro m w hw
  obtain ⟨w0, h0, ⟨l1, l2, l3, l4, l5⟩, hs, ho⟩ := upd_back hv hl hw
  obtain ⟨a1, a2, a3, a4⟩ := H.here m w0 h0
  rw [hlen]
  refine ⟨a1, a2, ?_, ?_⟩
  ·by_cases hm : m = n
   ·subst hm
    rw [hs rfl, List.getElem?_set_self (by omega)]
   ·rw [ho hm, List.getElem?_set_ne (by omega)]
    exact a3
  ·by_cases hm : m = n
   ·rw [hs hm]; exact hok'
   ·rw [ho hm]; exact a4
 ·intro m w hw l hwl
  obtain ⟨w0, h0, ⟨l1, l2, l3, l4, l5⟩, hs, ho⟩ := upd_back hv hl hw
  rw [l2] at hwl
  obtain ⟨a1, a2⟩ := H.low m w0 h0 l hwl
  rw [l3]
  refine ⟨fun k hk hkl => ?_, a2⟩
  by_cases hm : m = n
  ·subst hm
   rw [hv] at h0
   cases h0
   rw [hs rfl] at hk hkl
   exact a1 k (outK_sub hk) hkl
  ·rw [ho hm] at hk hkl
   exact a1 k hk hkl
 ·intro m w hw hh
  obtain ⟨w0, h0, ⟨l1, l2, l3, l4, l5⟩, -, -⟩ := upd_back hv hl hw
  rw [l4]
  exact H.last m w0 h0 (by rw [← l3]; exact hh)
 ·intro m w hw b hb
  obtain ⟨w0, h0, ⟨l1, l2, l3, l4, l5⟩, -, -⟩ := upd_back hv hl hw
  obtain ⟨x, x1, x2, x3, x4⟩ := H.next m w0 h0 b (by rw [← l3]; exact hb)
  obtain ⟨x', y1, ⟨y2, y3, y4, y5, y6⟩⟩ := upd_forth hv hl x1
  rw [l4]
  exact ⟨x', y1, by omega, by rw [y3]; exact x3, by omega⟩
 ·intro m w hw hwl k hk
  obtain ⟨w0, h9, ⟨l1, l2, l3, l4, l5⟩, hs, ho⟩ := upd_back hv hl hw
  have hm : m ≠ n := by
   rintro rfl
   rw [hs rfl] at hwl
   exact hwl h0
  rw [ho hm] at hk
  obtain ⟨x, x1, x2, x3⟩ := H.kid m w0 h9 (by omega) k hk
  obtain ⟨x', y1, ⟨y2, y3, y4, y5, y6⟩⟩ := upd_forth hv hl x1
  exact ⟨x', y1, by omega, by rw [y3, x3, l2]⟩
 ·intro m w m' w' hw hw' hlt
  obtain ⟨w0, h0, ⟨l1, l2, l3, l4, l5⟩, -, -⟩ := upd_back hv hl hw
  obtain ⟨z0, g0, ⟨k1, k2, k3, k4, k5⟩, -, -⟩ := upd_back hv hl hw'
  have := H.rank m w0 m' z0 h0 g0 (by omega)
  omega
 ·obtain ⟨x, x1, x2, x3, x4⟩ := H.root
  obtain ⟨x', y1, ⟨y2, y3, y4, y5, y6⟩⟩ := upd_forth hv hl x1
  exact ⟨x', y1, by omega, by rw [y3]; exact x3, by rw [y4]; exact x4⟩
 ·intro m w hw
  obtain ⟨w0, h0, ⟨l1, l2, l3, l4, l5⟩, -, -⟩ := upd_back hv hl hw
  obtain ⟨a1, a2⟩ := H.alone m w0 h0
  exact ⟨by omega, fun h => a2 (by omega)⟩
 ·intro m w hw hwl b hb
  obtain ⟨w0, h0, ⟨l1, l2, l3, l4, l5⟩, -, -⟩ := upd_back hv hl hw
  obtain ⟨m', x, x1, x2, x3⟩ := H.bord m w0 h0 (by omega) b (by rw [← l3]; exact hb)
  obtain ⟨x', y1, ⟨y2, y3, y4, y5, y6⟩⟩ := upd_forth hv hl x1
  exact ⟨m', x', y1, by omega, by rw [y3]; exact x3⟩
 ·intro m w m' w' hw hw' hlt hmm
  obtain ⟨w0, h0, ⟨l1, l2, l3, l4, l5⟩, -, -⟩ := upd_back hv hl hw
  obtain ⟨z0, g0, ⟨k1, k2, k3, k4, k5⟩, -, -⟩ := upd_back hv hl hw'
  rw [l2, l3, k2, k3]
  exact H.sep m w0 m' z0 h0 g0 (by omega) hmm
 ·rw [hlen]
  have h1 := heft_set (Q := nodeP v.lv (outK v.ks e) v.nx v.hi) hn3
  rw [nd_items, nd_items] at h1
  have := H.size
  have := (sum_outK v.lv v.ks e).2
  omega
 ·rw [hlen]; exact H.tops
 ·intro m w hw
  obtain ⟨w0, h0, ⟨l1, l2, l3, l4, l5⟩, -, -⟩ := upd_back hv hl hw
  rw [hlen]
  have := H.rkb m w0 h0
  omega
theorem has_out (H : Fo F I top q) (hv : I n = some v) (h0 : v.lv = 0) (he : e ∈ keysK v.ks) (x : En) : Has (updI I n { v with ks := outK v.ks e }) x ↔ Has I x ∧ x ≠ e := by
 obtain ⟨hn1, hn2, hn3, hok⟩ := H.here n v hv
 have hup : Sorted (keysK v.ks) := hok.up
 constructor
 ·rintro ⟨m, w, hw, hw0, hx⟩
  by_cases hm : m = n
  ·subst hm
   rw [updI_same] at hw
   cases hw
   have := (mem_outK hup he x).1 hx
   exact ⟨⟨m, v, hv, h0, this.1⟩, this.2⟩
  ·rw [updI_other _ _ hm] at hw
   refine ⟨⟨m, w, hw, hw0, hx⟩, ?_⟩
   rintro rfl
   exact hm (H.one hw hv (by omega) (H.range hw hw0 hx).2 (H.range hv h0 he).2)
 ·rintro ⟨⟨m, w, hw, hw0, hx⟩, hne⟩
  by_cases hm : m = n
  ·subst hm
   rw [hv] at hw
   cases hw
   exact ⟨m, _, updI_same _ _ _, h0, (mem_outK hup he x).2 ⟨hx, hne⟩⟩
  ·exact ⟨m, w, by rw [updI_other _ _ hm]; exact hw, hw0, hx⟩
end Go.Proofs.Ytaninphcgeaepaa
