import Derived.Test.YtmhepfehcakmjaaGreatKOpn2
import Derived.Test.YtmhepfehcakmjaaGreatKSp2
namespace Go.Proofs.YtmhepfehcakmjaaGreat
open Go.ChangeShapes Go.WideShapes Go.ChangeAt Go.RowKit
theorem cellsPage : Tryz.prog.cellsOf 24 = 6 := by kernel_rfl
theorem cellsStrings : Tryz.prog.cellsOf 22 = 1 := by kernel_rfl
theorem bytesString : Tryz.prog.bytesOf 9 = 16 := by kernel_rfl
section
variable {H : Type} {enc : TypeId × Value → H} {P : Program} {w : World} {base : Nat} {spare : Nat → Bool} {held : Bool}
theorem weights_mem_all {e : TypeId} {ds : List (DataW H)} {d : DataW H} (hd : d ∈ ds) {n : Nat} (hn : n ∈ d.weights P e) : n ∈ DataW.weightsAll P e ds := by
 induction ds with
 | nil => cases hd
 | cons a l ih =>
  rw [DataW.weightsAll, List.mem_append]
  rcases List.mem_cons.1 hd with rfl | h
  ·exact .inl hn
  ·exact .inr (ih h)
theorem Light.elem {t e : TypeId} {es sp : List (DataW H)} (h : Light P t (.slice es sp)) (ht : P.underlying t = some (.slice e)) {d : DataW H} (hd : d ∈ es) : Light P e d := by
 intro n hn
 refine h n ?_
 simp only [DataW.weights, ht]
 exact List.mem_cons_of_mem _ (List.mem_append_left _ (weights_mem_all hd hn))
theorem rows_of_light {α : Type} [Inhabited α] (shape : α → List Value) (good : α → Prop) {t e : TypeId} (k T : Nat) (hk0 : 0 < k) (ht : P.underlying t = some (.slice e)) (hk : P.cellsOf e = k) (hlen : ∀ s, (shape s).length = k)
  (hs : ∀ (n : Nat) (cs : List Value) (y : DataW H × List MemPlace), DataW.trod enc P w base spare held n e cs = some y → Light P e y.1 → ∃ s, cs = shape s ∧ good s) {fuel : Nat} {v : Value} {x : DataW H × List MemPlace} (h : DataW.trod enc P w base spare held fuel t [v] = some x) (hx : Light P t x.1) :
  ∃ l : List α, Row w T v l.length (l.flatMap shape) ∧ (∀ s ∈ l, good s) ∧ ((x.1 = .nil ∧ l = []) ∨ ∃ es sp, x.1 = .slice es sp ∧ es.length = l.length) := by
 rcases DataW.trod_slice ht h with ⟨hcs, rfl⟩ | ⟨a, len, cap, elems, rest, n, hf, hcs, rfl, hb, hl, hm, hel, hall, _, _⟩
 ·simp only [List.cons.injEq, and_true] at hcs
  subst hcs
  exact ⟨[], Row.nil _ _ _ _, by simp, .inl ⟨rfl, rfl⟩⟩
 ·simp only [List.cons.injEq, and_true] at hcs
  subst hcs
  have hget : ∀ i, i < len → ∃ s : α, (∀ r (hr : r < k), w.cell? ((a.add (i * k)).add r) = (shape s)[r]?) ∧ good s := by
   intro i hi
   have h1 := hall i hi
   rw [hk, List.getElem?_eq_getElem (by omega)] at h1
   obtain ⟨cs, h2, h3⟩ := Option.bind_eq_some_iff.1 h1
   obtain ⟨s, rfl, hg⟩ := hs _ _ _ h3 (hx.elem ht (List.mem_map.2 ⟨_, List.getElem_mem _, rfl⟩))
   obtain ⟨_, _, h4⟩ := World.cells?_some h2
   exact ⟨s, fun r hr => h4 r hr, hg⟩
  obtain ⟨f, hf⟩ := Go.Deep.choose_lt hget
  refine ⟨(List.range len).map f, ?_, ?_, .inr ⟨_, _, rfl, by simp [hel]⟩⟩
  ·have hL : ((List.range len).map f).length = len := by simp
   rw [hL]
   rcases Nat.eq_zero_or_pos len with h0 | h0
   ·subst h0; exact Row.nil _ _ _ _
   ·have hs0 := (hf 0 h0).1 0 hk0
    rw [List.getElem?_eq_getElem (by rw [hlen]; exact hk0)] at hs0
    have hsp := World.cell?_spot hs0
    obtain ⟨c, off, spot⟩ := a
    have : spot = none := by simpa [Addr.add] using hsp
    subst this
    refine .inr ⟨c, off, cap, rfl, fun j hj => ?_⟩
    have hj' : j < len * k := by rw [flat_length shape k hlen, hL] at hj; exact hj
    have hjk : j / k < len := by rw [Nat.div_lt_iff_lt_mul hk0]; exact hj'
    have hr : j % k < k := Nat.mod_lt _ hk0
    have hd : j / k * k + j % k = j := by rw [Nat.mul_comm]; exact Nat.div_add_mod j k
    have h5 := (hf (j / k) hjk).1 (j % k) hr
    have h6 := flat_get shape k hlen ((List.range len).map f) (j / k) (by simp; exact hjk) (j % k) hr
    rw [hd, List.getElem?_eq_getElem hj] at h6
    have e : ((⟨c, off, none⟩ : Addr).add (j / k * k)).add (j % k) = ⟨c, off + j, none⟩ := by
     rw [Go.Deep.add_add, hd]
     unfold Addr.add; split <;> simp_all
    rw [e] at h5
    rw [h5, h6]
    simp
  ·intro s hm
   obtain ⟨i, hi, rfl⟩ := List.mem_map.1 hm
   exact (hf i (by simpa using hi)).2
end
section
variable {H : Type} {enc : TypeId × Value → H} {w : World} {base : Nat} {spare : Nat → Bool} {held : Bool} {r : Reach} {b0 : Nat}
set_option maxRecDepth 100000 in
theorem string_light {n : Nat} {v : Value} {y : DataW H × List MemPlace} (h : DataW.trod enc Tryz.prog w base spare held n 9 [v] = some y) (hl : Light Tryz.prog 9 y.1) : ∃ x : List UInt8, v = .string (str x) ∧ (x.length : Int) ≤ 140737488355328 := by
 obtain ⟨s, h1, h2, _⟩ := DataW.trod_string Tryz.underlying9 h
 simp only [List.cons.injEq, and_true] at h1
 refine ⟨s.data.toList, by rw [str_of]; exact h1, ?_⟩
 have h3 := hl s.data.toList.length (by rw [h2]; simp [DataW.weights])
 have e : reachBytes = 140737488351232 := by decide
 omega
end
end Go.Proofs.YtmhepfehcakmjaaGreat
namespace Go.Proofs.YtmhepfehcakmjaaGreat
open Go.ChangeShapes Go.WideShapes Go.ChangeAt Go.RowKit
section
variable {H : Type} {enc : TypeId × Value → H} {w : World} {base : Nat} {spare : Nat → Bool} {held : Bool} {r : Reach} {b0 : Nat}
end
end Go.Proofs.YtmhepfehcakmjaaGreat
