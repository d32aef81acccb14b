import Derived.Test.YtmhepfehcakmjaaGreatKRf2
import Derived.ProofKit
import Derived.SizedLaws
import Derived.Deep.Slices
namespace Go.Proofs.YtmhepfehcakmjaaGreat
open Go.ChangeShapes Go.WideShapes Go.ChangeAt Go.RowKit
section
variable {H : Type} {enc : TypeId × Value → H} {P : Program} {w : World} {base : Nat} {spare : Nat → Bool} {held : Bool}
theorem field_at {t : TypeId} {fs : Array Field} {cs : List Value} {x : DataW H × List MemPlace} {fuel : Nat} (ht : P.underlying t = some (.struct fs)) (h : DataW.trod enc P w base spare held fuel t cs = some x) :
  ∃ (n : Nat) (parts : List (DataW H)), x.1 = .agg parts ∧ cs.length = P.cellsOf t ∧ ∀ (i : Nat) (f : Field), fs[i]? = some f → ∃ y, DataW.trod enc P w base spare held n f.type ((cs.drop f.offset).take (P.cellsOf f.type)) = some y ∧ parts[i]? = some y.1 := by
 obtain ⟨xs, n, _, rfl, hc, hl, hf⟩ := DataW.trod_struct ht h
 refine ⟨n, _, rfl, hc, fun i f hi => ?_⟩
 have hlt : i < xs.length := by
  rw [hl]
  exact (Array.getElem?_eq_some_iff.1 hi).1
 exact ⟨xs[i], by rw [hf i f hi]; simp [hlt], by simp [hlt]⟩
theorem flat_get {α : Type} (shape : α → List Value) (k : Nat) (hlen : ∀ s, (shape s).length = k) (l : List α) (i : Nat) (hi : i < l.length) (r : Nat) (hr : r < k) : (l.flatMap shape)[i * k + r]? = (shape l[i])[r]? := by
 induction l generalizing i with
 | nil => simp at hi
 | cons x l ih =>
  cases i with
  | zero =>
   simp only [List.flatMap_cons, Nat.zero_mul, Nat.zero_add, List.getElem_cons_zero]
   rw [List.getElem?_append_left (by rw [hlen]; exact hr)]
  | succ i =>
   have e : (i + 1) * k + r = k + (i * k + r) := by rw [Nat.add_mul]; omega
   rw [e, List.flatMap_cons, List.getElem?_append_right (by rw [hlen]; omega), hlen]
   have e2 : k + (i * k + r) - k = i * k + r := by omega
   rw [e2, ih i (by simpa using hi)]
   simp
theorem flat_length {α : Type} (shape : α → List Value) (k : Nat) (hlen : ∀ s, (shape s).length = k) (l : List α) : (l.flatMap shape).length = l.length * k := by
 induction l with
 | nil => simp
 | cons x l ih => simp only [List.flatMap_cons, List.length_append, List.length_cons, ih, hlen]; rw [Nat.add_mul]; omega
theorem rows_of_trod {α : Type} [Inhabited α] (shape : α → List Value) (good : α → Prop) {t e : TypeId} (k T : Nat) (hk0 : 0 < k) (ht : P.underlying t = some (.slice e)) (hk : P.cellsOf e = k) (hlen : ∀ s, (shape s).length = k)
  (hs : ∀ (n : Nat) (cs : List Value) (y : DataW H × List MemPlace), DataW.trod enc P w base spare held n e cs = some y → ∃ s, cs = shape s ∧ good s) {fuel : Nat} {v : Value} {x : DataW H × List MemPlace} (h : DataW.trod enc P w base spare held fuel t [v] = some x) :
  ∃ l : List α, Row w T v l.length (l.flatMap shape) ∧ (∀ s ∈ l, good s) ∧ ((x.1 = .nil ∧ l = []) ∨ ∃ es sp, x.1 = .slice es sp ∧ es.length = l.length) := by
 rcases DataW.trod_slice ht h with ⟨hcs, rfl⟩ | ⟨a, len, cap, elems, rest, n, hf, hcs, rfl, hb, hl, hm, hel, hall, _, _⟩
 ·simp only [List.cons.injEq, and_true] at hcs
  subst hcs
  exact ⟨[], Row.nil _ _ _ _, by simp, .inl ⟨rfl, rfl⟩⟩
 ·simp only [List.cons.injEq, and_true] at hcs
  subst hcs
  have hget : ∀ i, i < len → ∃ s : α, (∀ r (hr : r < k), w.cell? ((a.add (i * k)).add r) = (shape s)[r]?) ∧ good s := by
   intro i hi
   have h1 := hall i hi
   rw [hk, List.getElem?_eq_getElem (by omega)] at h1
   obtain ⟨cs, h2, h3⟩ := Option.bind_eq_some_iff.1 h1
   obtain ⟨s, rfl, hg⟩ := hs _ _ _ h3
   obtain ⟨_, _, h4⟩ := World.cells?_some h2
   exact ⟨s, fun r hr => h4 r hr, hg⟩
  obtain ⟨f, hf⟩ := Go.Deep.choose_lt hget
  refine ⟨(List.range len).map f, ?_, ?_, .inr ⟨_, _, rfl, by simp [hel]⟩⟩
  ·have hL : ((List.range len).map f).length = len := by simp
   rw [hL]
   rcases Nat.eq_zero_or_pos len with h0 | h0
   ·subst h0; exact Row.nil _ _ _ _
   ·have hs0 := (hf 0 h0).1 0 hk0
    rw [List.getElem?_eq_getElem (by rw [hlen]; exact hk0)] at hs0
    have hsp := World.cell?_spot hs0
    obtain ⟨c, off, spot⟩ := a
    have : spot = none := by simpa [Addr.add] using hsp
    subst this
    refine .inr ⟨c, off, cap, rfl, fun j hj => ?_⟩
    have hj' : j < len * k := by rw [flat_length shape k hlen, hL] at hj; exact hj
    have hjk : j / k < len := by rw [Nat.div_lt_iff_lt_mul hk0]; exact hj'
    have hr : j % k < k := Nat.mod_lt _ hk0
    have hd : j / k * k + j % k = j := by rw [Nat.mul_comm]; exact Nat.div_add_mod j k
    have h5 := (hf (j / k) hjk).1 (j % k) hr
    have h6 := flat_get shape k hlen ((List.range len).map f) (j / k) (by simp; exact hjk) (j % k) hr
    rw [hd, List.getElem?_eq_getElem hj] at h6
    have e : ((⟨c, off, none⟩ : Addr).add (j / k * k)).add (j % k) = ⟨c, off + j, none⟩ := by
     rw [Go.Deep.add_add, hd]
     unfold Addr.add; split <;> simp_all
    rw [e] at h5
    rw [h5, h6]
    simp
  ·intro s hm
   obtain ⟨i, hi, rfl⟩ := List.mem_map.1 hm
   exact (hf i (by simpa using hi)).2
def Light (P : Program) (t : TypeId) (d : DataW H) : Prop := ∀ n ∈ d.weights P t, n ≤ reachBytes
theorem Light.part {t : TypeId} {fs : Array Field} {parts : List (DataW H)} {i : Nat} {f : Field} {d : DataW H} (h : Light P t (.agg parts)) (ht : P.underlying t = some (.struct fs)) (hf : fs[i]? = some f) (hd : parts[i]? = some d) : Light P f.type d := by
 intro n hn
 refine h n ?_
 simp only [DataW.weights, ht]
 exact DataW.weights_mem_each (by simpa using ⟨f, by simpa using hf, rfl⟩) hd n hn
theorem Light.slice {t e : TypeId} {es sp : List (DataW H)} (h : Light P t (.slice es sp)) (ht : P.underlying t = some (.slice e)) : (es.length + sp.length) * P.bytesOf e ≤ reachBytes :=
 h _ (by simp [DataW.weights, ht])
theorem light_arg {ts : List TypeId} {ds : List (DataW H)} (h : (DataW.weightsEach P ts ds).all (· ≤ reachBytes) = true) {j : Nat} {t : TypeId} {d : DataW H} (ht : ts[j]? = some t) (hd : ds[j]? = some d) : Light P t d := by
 intro n hn
 simpa using List.all_eq_true.1 h _ (DataW.weights_mem_each ht hd n hn)
theorem light_len {α : Type} {t e : TypeId} {d : DataW H} {l : List α} (h : Light P t d) (ht : P.underlying t = some (.slice e)) (hd : (d = .nil ∧ l = []) ∨ ∃ es sp, d = .slice es sp ∧ es.length = l.length) : l.length * P.bytesOf e ≤ reachBytes := by
 rcases hd with ⟨_, rfl⟩ | ⟨es, sp, rfl, hl⟩
 ·simp
 ·have := h.slice ht
  rw [← hl]
  exact Nat.le_trans (Nat.mul_le_mul_right _ (Nat.le_add_right _ _)) this
end
theorem cellsInt : Tryz.prog.cellsOf 3 = 1 := by kernel_rfl
theorem cellsString : Tryz.prog.cellsOf 9 = 1 := by kernel_rfl
theorem reach_num {n k : Nat} (h : n * k ≤ reachBytes) : n * k ≤ 140737488351232 := by
 have e : reachBytes = 140737488351232 := by decide
 omega
section
variable {H : Type} {enc : TypeId × Value → H} {w : World} {base : Nat} {spare : Nat → Bool} {held : Bool} {r : Reach} {b0 : Nat}
theorem len3 {α : Type} {l : List α} (h : l.length = 3) : ∃ a b c, l = [a, b, c] := by
 match l, h with
 | [a, b, c], _ => exact ⟨a, b, c, rfl⟩
theorem one_int {n : Nat} {v : Value} {y : DataW H × List MemPlace} (h : DataW.trod enc Tryz.prog w base spare held n 3 [v] = some y) : ∃ x : Int, v = .int .i64 x := by
 obtain ⟨x, h1, _, _⟩ := DataW.trod_int Tryz.underlying3 h
 simp only [List.cons.injEq, and_true] at h1
 exact ⟨x, h1⟩
theorem one_string {n : Nat} {v : Value} {y : DataW H × List MemPlace} (h : DataW.trod enc Tryz.prog w base spare held n 9 [v] = some y) : ∃ x : List UInt8, v = .string (str x) ∧ (x.length : Int) ≤ 9223372036854775807 := by
 obtain ⟨s, h1, _, h2⟩ := DataW.trod_string Tryz.underlying9 h
 simp only [List.cons.injEq, and_true] at h1
 refine ⟨s.data.toList, by rw [str_of]; exact h1, ?_⟩
 have : s.data.toList.length = s.size := by simp
 unfold maxLen at h2
 rw [this]
 omega
end
end Go.Proofs.YtmhepfehcakmjaaGreat
namespace Go.Proofs.YtmhepfehcakmjaaGreat
open Go.ChangeShapes Go.WideShapes Go.ChangeAt Go.RowKit
section
variable {H : Type} {enc : TypeId × Value → H} {w : World} {base : Nat} {spare : Nat → Bool} {held : Bool} {r : Reach} {b0 : Nat}
end
end Go.Proofs.YtmhepfehcakmjaaGreat
