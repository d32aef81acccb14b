import Derived.Test.YtmhepfehcakmjaaGreatKQAwake2
import Derived.ProofKit
import Derived.SizedLaws
import Derived.Deep.Slices
namespace Go.Proofs.YtmhepfehcakmjaaGreat.Vac
open Go.ChangeShapes Go.WideShapes Go.ChangeAt Go.RowKit
section
variable {H : Type} {enc : TypeId × Value → H} {P : Program} {w : World} {base : Nat} {spare : Nat → Bool} {held : Bool}
theorem field_at {t : TypeId} {fs : Array Field} {cs : List Value} {x : DataW H × List MemPlace} {fuel : Nat} (ht : P.underlying t = some (.struct fs)) (h : DataW.trod enc P w base spare held fuel t cs = some x) :
  ∃ (n : Nat) (parts : List (DataW H)), x.1 = .agg parts ∧ cs.length = P.cellsOf t ∧ ∀ (i : Nat) (f : Field), fs[i]? = some f → ∃ y, DataW.trod enc P w base spare held n f.type ((cs.drop f.offset).take (P.cellsOf f.type)) = some y ∧ parts[i]? = some y.1 := by
 obtain ⟨xs, n, _, rfl, hc, hl, hf⟩ := DataW.trod_struct ht h
 refine ⟨n, _, rfl, hc, fun i f hi => ?_⟩
 have hlt : i < xs.length := by
  rw [hl]
  exact (Array.getElem?_eq_some_iff.1 hi).1
 exact ⟨xs[i], by rw [hf i f hi]; simp [hlt], by simp [hlt]⟩
theorem flat_get {α : Type} (shape : α → List Value) (k : Nat) (hlen : ∀ s, (shape s).length = k) (l : List α) (i : Nat) (hi : i < l.length) (r : Nat) (hr : r < k) : (l.flatMap shape)[i * k + r]? = (shape l[i])[r]? := by
 induction l generalizing i with
 | nil => simp at hi
 | cons x l ih =>
  cases i with
  | zero =>
   simp only [List.flatMap_cons, Nat.zero_mul, Nat.zero_add, List.getElem_cons_zero]
   rw [List.getElem?_append_left (by rw [hlen]; exact hr)]
  | succ i =>
   have e : (i + 1) * k + r = k + (i * k + r) := by rw [Nat.add_mul]; omega
   rw [e, List.flatMap_cons, List.getElem?_append_right (by rw [hlen]; omega), hlen]
   have e2 : k + (i * k + r) - k = i * k + r := by omega
   rw [e2, ih i (by simpa using hi)]
   simp
theorem flat_length {α : Type} (shape : α → List Value) (k : Nat) (hlen : ∀ s, (shape s).length = k) (l : List α) : (l.flatMap shape).length = l.length * k := by
 induction l with
 | nil => simp
 | cons x l ih => simp only [List.flatMap_cons, List.length_append, List.length_cons, ih, hlen]; rw [Nat.add_mul]; omega
theorem rows_of_trod {α : Type} [Inhabited α] (shape : α → List Value) (good : α → Prop) {t e : TypeId} (k T : Nat) (hk0 : 0 < k) (ht : P.underlying t = some (.slice e)) (hk : P.cellsOf e = k) (hlen : ∀ s, (shape s).length = k)
  (hs : ∀ (n : Nat) (cs : List Value) (y : DataW H × List MemPlace), DataW.trod enc P w base spare held n e cs = some y → ∃ s, cs = shape s ∧ good s) {fuel : Nat} {v : Value} {x : DataW H × List MemPlace} (h : DataW.trod enc P w base spare held fuel t [v] = some x) :
  ∃ l : List α, Row w T v l.length (l.flatMap shape) ∧ (∀ s ∈ l, good s) ∧ ((x.1 = .nil ∧ l = []) ∨ ∃ es sp, x.1 = .slice es sp ∧ es.length = l.length) := by
 rcases DataW.trod_slice ht h with ⟨hcs, rfl⟩ | ⟨a, len, cap, elems, rest, n, hf, hcs, rfl, hb, hl, hm, hel, hall, _, _⟩
 ·simp only [List.cons.injEq, and_true] at hcs
  subst hcs
  exact ⟨[], Row.nil _ _ _ _, by simp, .inl ⟨rfl, rfl⟩⟩
 ·simp only [List.cons.injEq, and_true] at hcs
  subst hcs
  have hget : ∀ i, i < len → ∃ s : α, (∀ r (hr : r < k), w.cell? ((a.add (i * k)).add r) = (shape s)[r]?) ∧ good s := by
   intro i hi
   have h1 := hall i hi
   rw [hk, List.getElem?_eq_getElem (by omega)] at h1
   obtain ⟨cs, h2, h3⟩ := Option.bind_eq_some_iff.1 h1
   obtain ⟨s, rfl, hg⟩ := hs _ _ _ h3
   obtain ⟨_, _, h4⟩ := World.cells?_some h2
   exact ⟨s, fun r hr => h4 r hr, hg⟩
  obtain ⟨f, hf⟩ := Go.Deep.choose_lt hget
  refine ⟨(List.range len).map f, ?_, ?_, .inr ⟨_, _, rfl, by simp [hel]⟩⟩
  ·have hL : ((List.range len).map f).length = len := by simp
   rw [hL]
   rcases Nat.eq_zero_or_pos len with h0 | h0
   ·subst h0; exact Row.nil _ _ _ _
   ·have hs0 := (hf 0 h0).1 0 hk0
    rw [List.getElem?_eq_getElem (by rw [hlen]; exact hk0)] at hs0
    have hsp := World.cell?_spot hs0
    obtain ⟨c, off, spot⟩ := a
    have : spot = none := by simpa [Addr.add] using hsp
    subst this
    refine .inr ⟨c, off, cap, rfl, fun j hj => ?_⟩
    have hj' : j < len * k := by rw [flat_length shape k hlen, hL] at hj; exact hj
    have hjk : j / k < len := by rw [Nat.div_lt_iff_lt_mul hk0]; exact hj'
    have hr : j % k < k := Nat.mod_lt _ hk0
    have hd : j / k * k + j % k = j := by rw [Nat.mul_comm]; exact Nat.div_add_mod j k
    have h5 := (hf (j / k) hjk).1 (j % k) hr
    have h6 := flat_get shape k hlen ((List.range len).map f) (j / k) (by simp; exact hjk) (j % k) hr
    rw [hd, List.getElem?_eq_getElem hj] at h6
    have e : ((⟨c, off, none⟩ : Addr).add (j / k * k)).add (j % k) = ⟨c, off + j, none⟩ := by
     rw [Go.Deep.add_add, hd]
     unfold Addr.add; split <;> simp_all
    rw [e] at h5
    rw [h5, h6]
    simp
  ·intro s hm
   obtain ⟨i, hi, rfl⟩ := List.mem_map.1 hm
   exact (hf i (by simpa using hi)).2
def Light (P : Program) (t : TypeId) (d : DataW H) : Prop := ∀ n ∈ d.weights P t, n ≤ reachBytes
theorem Light.part {t : TypeId} {fs : Array Field} {parts : List (DataW H)} {i : Nat} {f : Field} {d : DataW H} (h : Light P t (.agg parts)) (ht : P.underlying t = some (.struct fs)) (hf : fs[i]? = some f) (hd : parts[i]? = some d) : Light P f.type d := by
 intro n hn
 refine h n ?_
 simp only [DataW.weights, ht]
 exact DataW.weights_mem_each (by simpa using ⟨f, by simpa using hf, rfl⟩) hd n hn
theorem Light.slice {t e : TypeId} {es sp : List (DataW H)} (h : Light P t (.slice es sp)) (ht : P.underlying t = some (.slice e)) : (es.length + sp.length) * P.bytesOf e ≤ reachBytes :=
 h _ (by simp [DataW.weights, ht])
theorem light_arg {ts : List TypeId} {ds : List (DataW H)} (h : (DataW.weightsEach P ts ds).all (· ≤ reachBytes) = true) {j : Nat} {t : TypeId} {d : DataW H} (ht : ts[j]? = some t) (hd : ds[j]? = some d) : Light P t d := by
 intro n hn
 simpa using List.all_eq_true.1 h _ (DataW.weights_mem_each ht hd n hn)
theorem light_len {α : Type} {t e : TypeId} {d : DataW H} {l : List α} (h : Light P t d) (ht : P.underlying t = some (.slice e)) (hd : (d = .nil ∧ l = []) ∨ ∃ es sp, d = .slice es sp ∧ es.length = l.length) : l.length * P.bytesOf e ≤ reachBytes := by
 rcases hd with ⟨_, rfl⟩ | ⟨es, sp, rfl, hl⟩
 ·simp
 ·have := h.slice ht
  rw [← hl]
  exact Nat.le_trans (Nat.mul_le_mul_right _ (Nat.le_add_right _ _)) this
end
end Go.Proofs.YtmhepfehcakmjaaGreat.Vac
namespace Go.Proofs.YtmhepfehcakmjaaGreat.Vac
open Go.ChangeShapes Go.WideShapes Go.ChangeAt Go.RowKit
theorem cellsInt : Tryz.prog.cellsOf 3 = 1 := by kernel_rfl
theorem cellsBool : Tryz.prog.cellsOf 4 = 1 := by kernel_rfl
theorem cellsString : Tryz.prog.cellsOf 9 = 1 := by kernel_rfl
theorem cellsStatus : Tryz.prog.cellsOf 96 = 1 := by kernel_rfl
theorem cellsInts : Tryz.prog.cellsOf 28 = 1 := by kernel_rfl
theorem cellsStrings : Tryz.prog.cellsOf 22 = 1 := by kernel_rfl
theorem cellsSaids : Tryz.prog.cellsOf 59 = 1 := by kernel_rfl
theorem cellsSaid : Tryz.prog.cellsOf 98 = 2 := by kernel_rfl
theorem cellsSlot : Tryz.prog.cellsOf 100 = 7 := by kernel_rfl
theorem cellsTuple : Tryz.prog.cellsOf 51 = 5 := by kernel_rfl
theorem cellsSnap : Tryz.prog.cellsOf 63 = 2 := by kernel_rfl
theorem cellsPage : Tryz.prog.cellsOf 24 = 6 := by kernel_rfl
theorem cellsView : Tryz.prog.cellsOf 65 = 11 := by kernel_rfl
theorem cellsLawPage : Tryz.prog.cellsOf 61 = 3 := by kernel_rfl
theorem bytesInt : Tryz.prog.bytesOf 3 = 8 := by kernel_rfl
theorem bytesString : Tryz.prog.bytesOf 9 = 16 := by kernel_rfl
theorem bytesSaid : Tryz.prog.bytesOf 98 = 16 := by kernel_rfl
theorem bytesSlot : Tryz.prog.bytesOf 100 = 80 := by kernel_rfl
section
variable {H : Type} {enc : TypeId × Value → H} {w : World} {base : Nat} {spare : Nat → Bool} {held : Bool}
theorem len2 {α : Type} {l : List α} (h : l.length = 2) : ∃ a b, l = [a, b] := by
 match l, h with
 | [a, b], _ => exact ⟨a, b, rfl⟩
theorem len3 {α : Type} {l : List α} (h : l.length = 3) : ∃ a b c, l = [a, b, c] := by
 match l, h with
 | [a, b, c], _ => exact ⟨a, b, c, rfl⟩
theorem len7 {α : Type} {l : List α} (h : l.length = 7) : ∃ a b c d e f g, l = [a, b, c, d, e, f, g] := by
 match l, h with
 | [a, b, c, d, e, f, g], _ => exact ⟨a, b, c, d, e, f, g, rfl⟩
theorem len11 {α : Type} {l : List α} (h : l.length = 11) : ∃ a b c d e f g i j k m, l = [a, b, c, d, e, f, g, i, j, k, m] := by
 match l, h with
 | [a, b, c, d, e, f, g, i, j, k, m], _ => exact ⟨a, b, c, d, e, f, g, i, j, k, m, rfl⟩
theorem one_int {n : Nat} {v : Value} {y : DataW H × List MemPlace} (h : DataW.trod enc Tryz.prog w base spare held n 3 [v] = some y) : ∃ x : Int, v = .int .i64 x := by
 obtain ⟨x, h1, _, _⟩ := DataW.trod_int Tryz.underlying3 h
 simp only [List.cons.injEq, and_true] at h1
 exact ⟨x, h1⟩
theorem one_string {n : Nat} {v : Value} {y : DataW H × List MemPlace} (h : DataW.trod enc Tryz.prog w base spare held n 9 [v] = some y) : ∃ x : List UInt8, v = .string (str x) ∧ (x.length : Int) ≤ 9223372036854775807 := by
 obtain ⟨s, h1, _, h2⟩ := DataW.trod_string Tryz.underlying9 h
 simp only [List.cons.injEq, and_true] at h1
 refine ⟨s.data.toList, by rw [str_of]; exact h1, ?_⟩
 have : s.data.toList.length = s.size := by simp
 unfold maxLen at h2
 rw [this]
 omega
theorem one_bool {n : Nat} {v : Value} {y : DataW H × List MemPlace} (h : DataW.trod enc Tryz.prog w base spare held n 4 [v] = some y) : ∃ x : Bool, v = .bool x := by
 obtain ⟨x, h1, _⟩ := DataW.trod_bool Tryz.underlying4 h
 simp only [List.cons.injEq, and_true] at h1
 exact ⟨x, h1⟩
theorem one_status {n : Nat} {v : Value} {y : DataW H × List MemPlace} (h : DataW.trod enc Tryz.prog w base spare held n 96 [v] = some y) : ∃ x : Nat, v = .int .u8 x ∧ x < 256 := by
 obtain ⟨x, h1, _, h2⟩ := DataW.trod_int Tryz.underlying96 h
 simp only [List.cons.injEq, and_true] at h1
 have h3 : 0 ≤ x ∧ x ≤ 255 := by
  have e1 : IntKind.u8.min = 0 := rfl
  have e2 : IntKind.u8.max = 255 := rfl
  simp only [Lit.wf, Bool.and_eq_true, decide_eq_true_eq] at h2
  omega
 refine ⟨x.toNat, ?_, by omega⟩
 rw [h1]
 congr 1
 omega
theorem said_shape (n : Nat) (cs : List Value) (y : DataW H × List MemPlace) (h : DataW.trod enc Tryz.prog w base spare held n 98 cs = some y) : ∃ s : Int × Nat, cs = [.int .i64 s.1, .int .u8 s.2] ∧ s.2 < 256 := by
 obtain ⟨m, parts, _, hl, hf⟩ := field_at Tryz.underlying98 h
 rw [cellsSaid] at hl
 obtain ⟨a, b, rfl⟩ := len2 hl
 obtain ⟨y0, h0, _⟩ := hf 0 _ rfl
 obtain ⟨y1, h1, _⟩ := hf 1 _ rfl
 simp only [List.getElem_toArray, List.getElem_cons_zero, List.getElem_cons_succ] at h0 h1
 rw [cellsInt] at h0
 rw [cellsStatus] at h1
 obtain ⟨x, rfl⟩ := one_int h0
 obtain ⟨s, rfl, hs⟩ := one_status h1
 exact ⟨(x, s), rfl, hs⟩
theorem ints_of_trod {n : Nat} {v : Value} {y : DataW H × List MemPlace} (h : DataW.trod enc Tryz.prog w base spare held n 28 [v] = some y) :
  ∃ l : List Int, Ints w v l ∧ ((y.1 = .nil ∧ l = []) ∨ ∃ es sp, y.1 = .slice es sp ∧ es.length = l.length) := by
 obtain ⟨l, h1, hno, h2⟩ := rows_of_trod (fun x : Int => [Value.int .i64 x]) (fun _ => True) 1 3 (by decide) Tryz.underlying28 cellsInt (fun _ => rfl) (fun m cs y hy => by
  obtain ⟨x, h1, _, _⟩ := DataW.trod_int Tryz.underlying3 hy
  exact ⟨x, h1, trivial⟩) h
 refine ⟨l, ?_, h2⟩
 have e : l.flatMap (fun x : Int => [Value.int .i64 x]) = iCells l := by
  clear h1 h2 hno
  induction l with
  | nil => rfl
  | cons a l ih => rw [List.flatMap_cons, ih]; rfl
 rw [e] at h1
 exact h1
end
end Go.Proofs.YtmhepfehcakmjaaGreat.Vac
namespace Go.Proofs.YtmhepfehcakmjaaGreat.Vac
open Go.ChangeShapes Go.WideShapes Go.ChangeAt Go.RowKit
instance : Inhabited Sl := ⟨sl0⟩
section
variable {H : Type} {enc : TypeId × Value → H} {w : World} {base : Nat} {spare : Nat → Bool} {held : Bool} {r : Reach} {b0 : Nat}
theorem reach_num {n k : Nat} (h : n * k ≤ reachBytes) : n * k ≤ 140737488351232 := by
 have e : reachBytes = 140737488351232 := by decide
 omega
set_option maxRecDepth 100000 in
theorem lawpage_of_trod {v : Value} {d : DataW H} {p : List MemPlace} (hval : Value.okWide Tryz.prog w r b0 61 v) (h : DataW.Trod enc Tryz.prog w base spare held 61 v d p) (hl : Light Tryz.prog 61 d) :
  ∃ (m fr : Int) (sv : Value) (l : List (Int × Nat)), v = .agg #[.int .i64 m, .int .i64 fr, sv] ∧ Row w 98 sv l.length (saidCells l) ∧ (l.length : Int) ≤ 70368744177664 ∧ ∀ x ∈ l, x.2 < 256 := by
 obtain ⟨cs, rfl, hsz⟩ := okWide_struct Tryz.underlying61 hval
 obtain ⟨fuel, hf⟩ := h
 obtain ⟨n, parts, hd, hc, hF⟩ := field_at Tryz.underlying61 hf
 rw [cellsLawPage] at hsz hc
 simp only [Value.cells] at hf hF hc
 obtain ⟨a, b, c, hcs⟩ := len3 hc
 obtain ⟨l0⟩ := cs
 simp only at hcs
 subst hcs
 obtain ⟨y0, h0, _⟩ := hF 0 _ rfl
 obtain ⟨y1, h1, _⟩ := hF 1 _ rfl
 obtain ⟨y2, h2, p2⟩ := hF 2 _ rfl
 have hd' : d = .agg parts := hd
 subst hd'
 have hl2 := hl.part Tryz.underlying61 (i := 2) rfl p2
 simp only [List.getElem_toArray, List.getElem_cons_zero, List.getElem_cons_succ] at h0 h1 h2 hl2
 rw [cellsInt] at h0 h1
 rw [cellsSaids] at h2
 obtain ⟨x, rfl⟩ := one_int h0
 obtain ⟨z, rfl⟩ := one_int h1
 obtain ⟨l, g1, g3, g2⟩ := rows_of_trod (fun x : Int × Nat => [Value.int .i64 x.1, Value.int .u8 x.2]) (fun x => x.2 < 256) 2 98 (by decide) Tryz.underlying59 cellsSaid (fun _ => rfl) said_shape h2
 have hlen := light_len hl2 Tryz.underlying59 g2
 rw [bytesSaid] at hlen
 have := reach_num hlen
 exact ⟨x, z, c, l, rfl, g1, by omega, g3⟩
end
end Go.Proofs.YtmhepfehcakmjaaGreat.Vac
namespace Go.Proofs.YtmhepfehcakmjaaGreat.Vac
open Go.ChangeShapes Go.WideShapes Go.ChangeAt Go.RowKit
section
variable {H : Type} {enc : TypeId × Value → H} {P : Program} {w : World} {base : Nat} {spare : Nat → Bool} {held : Bool}
theorem weights_mem_all {e : TypeId} {ds : List (DataW H)} {d : DataW H} (hd : d ∈ ds) {n : Nat} (hn : n ∈ d.weights P e) : n ∈ DataW.weightsAll P e ds := by
 induction ds with
 | nil => cases hd
 | cons a l ih =>
  rw [DataW.weightsAll, List.mem_append]
  rcases List.mem_cons.1 hd with rfl | h
  ·exact .inl hn
  ·exact .inr (ih h)
theorem Light.elem {t e : TypeId} {es sp : List (DataW H)} (h : Light P t (.slice es sp)) (ht : P.underlying t = some (.slice e)) {d : DataW H} (hd : d ∈ es) : Light P e d := by
 intro n hn
 refine h n ?_
 simp only [DataW.weights, ht]
 exact List.mem_cons_of_mem _ (List.mem_append_left _ (weights_mem_all hd hn))
theorem rows_of_light {α : Type} [Inhabited α] (shape : α → List Value) (good : α → Prop) {t e : TypeId} (k T : Nat) (hk0 : 0 < k) (ht : P.underlying t = some (.slice e)) (hk : P.cellsOf e = k) (hlen : ∀ s, (shape s).length = k)
  (hs : ∀ (n : Nat) (cs : List Value) (y : DataW H × List MemPlace), DataW.trod enc P w base spare held n e cs = some y → Light P e y.1 → ∃ s, cs = shape s ∧ good s) {fuel : Nat} {v : Value} {x : DataW H × List MemPlace} (h : DataW.trod enc P w base spare held fuel t [v] = some x) (hx : Light P t x.1) :
  ∃ l : List α, Row w T v l.length (l.flatMap shape) ∧ (∀ s ∈ l, good s) ∧ ((x.1 = .nil ∧ l = []) ∨ ∃ es sp, x.1 = .slice es sp ∧ es.length = l.length) := by
 rcases DataW.trod_slice ht h with ⟨hcs, rfl⟩ | ⟨a, len, cap, elems, rest, n, hf, hcs, rfl, hb, hl, hm, hel, hall, _, _⟩
 ·simp only [List.cons.injEq, and_true] at hcs
  subst hcs
  exact ⟨[], Row.nil _ _ _ _, by simp, .inl ⟨rfl, rfl⟩⟩
 ·simp only [List.cons.injEq, and_true] at hcs
  subst hcs
  have hget : ∀ i, i < len → ∃ s : α, (∀ r (hr : r < k), w.cell? ((a.add (i * k)).add r) = (shape s)[r]?) ∧ good s := by
   intro i hi
   have h1 := hall i hi
   rw [hk, List.getElem?_eq_getElem (by omega)] at h1
   obtain ⟨cs, h2, h3⟩ := Option.bind_eq_some_iff.1 h1
   obtain ⟨s, rfl, hg⟩ := hs _ _ _ h3 (hx.elem ht (List.mem_map.2 ⟨_, List.getElem_mem _, rfl⟩))
   obtain ⟨_, _, h4⟩ := World.cells?_some h2
   exact ⟨s, fun r hr => h4 r hr, hg⟩
  obtain ⟨f, hf⟩ := Go.Deep.choose_lt hget
  refine ⟨(List.range len).map f, ?_, ?_, .inr ⟨_, _, rfl, by simp [hel]⟩⟩
  ·have hL : ((List.range len).map f).length = len := by simp
   rw [hL]
   rcases Nat.eq_zero_or_pos len with h0 | h0
   ·subst h0; exact Row.nil _ _ _ _
   ·have hs0 := (hf 0 h0).1 0 hk0
    rw [List.getElem?_eq_getElem (by rw [hlen]; exact hk0)] at hs0
    have hsp := World.cell?_spot hs0
    obtain ⟨c, off, spot⟩ := a
    have : spot = none := by simpa [Addr.add] using hsp
    subst this
    refine .inr ⟨c, off, cap, rfl, fun j hj => ?_⟩
    have hj' : j < len * k := by rw [flat_length shape k hlen, hL] at hj; exact hj
    have hjk : j / k < len := by rw [Nat.div_lt_iff_lt_mul hk0]; exact hj'
    have hr : j % k < k := Nat.mod_lt _ hk0
    have hd : j / k * k + j % k = j := by rw [Nat.mul_comm]; exact Nat.div_add_mod j k
    have h5 := (hf (j / k) hjk).1 (j % k) hr
    have h6 := flat_get shape k hlen ((List.range len).map f) (j / k) (by simp; exact hjk) (j % k) hr
    rw [hd, List.getElem?_eq_getElem hj] at h6
    have e : ((⟨c, off, none⟩ : Addr).add (j / k * k)).add (j % k) = ⟨c, off + j, none⟩ := by
     rw [Go.Deep.add_add, hd]
     unfold Addr.add; split <;> simp_all
    rw [e] at h5
    rw [h5, h6]
    simp
  ·intro s hm
   obtain ⟨i, hi, rfl⟩ := List.mem_map.1 hm
   exact (hf i (by simpa using hi)).2
end
section
variable {H : Type} {enc : TypeId × Value → H} {w : World} {base : Nat} {spare : Nat → Bool} {held : Bool} {r : Reach} {b0 : Nat}
set_option maxRecDepth 100000 in
theorem string_light {n : Nat} {v : Value} {y : DataW H × List MemPlace} (h : DataW.trod enc Tryz.prog w base spare held n 9 [v] = some y) (hl : Light Tryz.prog 9 y.1) : ∃ x : List UInt8, v = .string (str x) ∧ (x.length : Int) ≤ 140737488355328 := by
 obtain ⟨s, h1, h2, _⟩ := DataW.trod_string Tryz.underlying9 h
 simp only [List.cons.injEq, and_true] at h1
 refine ⟨s.data.toList, by rw [str_of]; exact h1, ?_⟩
 have h3 := hl s.data.toList.length (by rw [h2]; simp [DataW.weights])
 have e : reachBytes = 140737488351232 := by decide
 omega
theorem slot_light (n : Nat) (cs : List Value) (y : DataW H × List MemPlace) (h : DataW.trod enc Tryz.prog w base spare held n 100 cs = some y) (hly : Light Tryz.prog 100 y.1) : ∃ s : Sl, cs = slCell s ∧ (s.raw.length : Int) ≤ 140737488355328 := by
 obtain ⟨m, parts, hd, hl, hf⟩ := field_at Tryz.underlying100 h
 rw [cellsSlot] at hl
 obtain ⟨a, b, c, d, e, f, g, rfl⟩ := len7 hl
 obtain ⟨y0, h0, _⟩ := hf 0 _ rfl
 obtain ⟨y1, h1, _⟩ := hf 1 _ rfl
 obtain ⟨y2, h2, p2⟩ := hf 2 _ rfl
 rw [hd] at hly
 have hl2 := hly.part Tryz.underlying100 (i := 2) rfl p2
 simp only [List.getElem_toArray, List.getElem_cons_zero, List.getElem_cons_succ] at h0 h1 h2 hl2
 rw [cellsInt] at h0
 rw [cellsTuple] at h1
 rw [cellsString] at h2
 obtain ⟨x, rfl⟩ := one_int h0
 obtain ⟨raw, rfl, hr⟩ := string_light h2 hl2
 obtain ⟨m', parts', _, _, hg⟩ := field_at Tryz.underlying51 h1
 obtain ⟨z0, g0, _⟩ := hg 0 _ rfl
 obtain ⟨z1, g1, _⟩ := hg 1 _ rfl
 obtain ⟨z2, g2, _⟩ := hg 2 _ rfl
 obtain ⟨z3, g3, _⟩ := hg 3 _ rfl
 obtain ⟨z4, g4, _⟩ := hg 4 _ rfl
 simp only [List.getElem_toArray, List.getElem_cons_zero, List.getElem_cons_succ] at g0 g1 g2 g3 g4
 rw [cellsInt] at g0 g1
 rw [cellsBool] at g2
 rw [cellsString] at g3 g4
 obtain ⟨x0, rfl⟩ := one_int g0
 obtain ⟨x1, rfl⟩ := one_int g1
 obtain ⟨x2, rfl⟩ := one_bool g2
 obtain ⟨x3, rfl, _⟩ := one_string g3
 obtain ⟨x4, rfl, _⟩ := one_string g4
 exact ⟨⟨x, x0, x1, x2, x3, x4, raw⟩, rfl, hr⟩
set_option maxRecDepth 100000 in
theorem slots_of_light {v : Value} {d : DataW H} {p : List MemPlace} (hval : Value.okWide Tryz.prog w r b0 66 v) (h : DataW.Trod enc Tryz.prog w base spare held 66 v d p) (hl : Light Tryz.prog 66 d) :
  ∃ (l : List Sl), Row w 100 v l.length (slCells l) ∧ (l.length : Int) ≤ 1759218604441 ∧ ∀ x ∈ l, (x.raw.length : Int) ≤ 140737488355328 := by
 obtain ⟨a, len, cap, rfl⟩ := okWide_slice Tryz.underlying66 hval
 obtain ⟨fuel, hf⟩ := h
 have hf' : DataW.trod enc Tryz.prog w base spare held fuel 66 [.slice a len cap] = some (d, p) := hf
 obtain ⟨l, g1, g3, g2⟩ := rows_of_light slCell (fun x => (x.raw.length : Int) ≤ 140737488355328) 7 100 (by decide) Tryz.underlying66 cellsSlot (fun _ => rfl) slot_light hf' hl
 have hlen := light_len hl Tryz.underlying66 g2
 rw [bytesSlot] at hlen
 have := reach_num hlen
 exact ⟨l, g1, by omega, g3⟩
theorem items_of_light2 {n : Nat} {v : Value} {y : DataW H × List MemPlace} (h : DataW.trod enc Tryz.prog w base spare held n 22 [v] = some y) (hl : Light Tryz.prog 22 y.1) :
  ∃ l : List (List UInt8), Items w v l ∧ (∀ x ∈ l, (x.length : Int) ≤ 140737488355328) ∧ ((y.1 = .nil ∧ l = []) ∨ ∃ es sp, y.1 = .slice es sp ∧ es.length = l.length) := by
 obtain ⟨l, h1, h3, h2⟩ := rows_of_light (fun x : List UInt8 => [Value.string (str x)]) (fun x => (x.length : Int) ≤ 140737488355328) 1 9 (by decide) Tryz.underlying22 cellsString (fun _ => rfl) (fun m cs y hy hly => by
  obtain ⟨s, e1, _, e2⟩ := DataW.trod_string Tryz.underlying9 hy
  subst e1
  obtain ⟨x, e3, e4⟩ := string_light hy hly
  exact ⟨x, by rw [e3], e4⟩) h hl
 refine ⟨l, ?_, h3, h2⟩
 have e : l.flatMap (fun x : List UInt8 => [Value.string (str x)]) = sCells l := by
  clear h1 h3 h2
  induction l with
  | nil => rfl
  | cons a l ih => rw [List.flatMap_cons, ih]; rfl
 rw [e] at h1
 exact h1
set_option maxRecDepth 100000 in
theorem view_of_light {v : Value} {d : DataW H} {p : List MemPlace} (hval : Value.okWide Tryz.prog w r b0 65 v) (h : DataW.Trod enc Tryz.prog w base spare held 65 v d p) (hl : Light Tryz.prog 65 d) :
  ∃ (vw : Vw) (av rv iv : Value), v = vwV vw av rv iv ∧ VwIn w vw av rv iv ∧ ∀ x ∈ vw.clog.items, (x.length : Int) ≤ 140737488355328 := by
 obtain ⟨cs, rfl, hsz⟩ := okWide_struct Tryz.underlying65 hval
 obtain ⟨fuel, hf⟩ := h
 obtain ⟨n, parts, hd, hc, hF⟩ := field_at Tryz.underlying65 hf
 rw [cellsView] at hsz hc
 simp only [Value.cells] at hf hF hc
 obtain ⟨c0, c1, c2, c3, c4, c5, c6, c7, c8, c9, c10, hcs⟩ := len11 hc
 obtain ⟨l0⟩ := cs
 simp only at hcs
 subst hcs
 obtain ⟨y0, h0, _⟩ := hF 0 _ rfl
 obtain ⟨y1, h1, p1⟩ := hF 1 _ rfl
 obtain ⟨y2, h2, _⟩ := hF 2 _ rfl
 obtain ⟨y3, h3, p3⟩ := hF 3 _ rfl
 obtain ⟨y4, h4, p4⟩ := hF 4 _ rfl
 have hd' : d = .agg parts := hd
 subst hd'
 have hl1 := hl.part Tryz.underlying65 (i := 1) rfl p1
 have hl3 := hl.part Tryz.underlying65 (i := 3) rfl p3
 have hl4 := hl.part Tryz.underlying65 (i := 4) rfl p4
 simp only [List.getElem_toArray, List.getElem_cons_zero, List.getElem_cons_succ] at h0 h1 h2 h3 h4 hl1 hl3 hl4
 rw [cellsInt] at h0 h2
 rw [cellsSnap] at h1
 rw [cellsInts] at h3
 rw [cellsPage] at h4
 obtain ⟨m, rfl⟩ := one_int h0
 obtain ⟨own, rfl⟩ := one_int h2
 obtain ⟨rl, r1, r2⟩ := ints_of_trod h3
 obtain ⟨_, sp, sd, _, sF⟩ := field_at Tryz.underlying63 h1
 obtain ⟨u0, s0, _⟩ := sF 0 _ rfl
 obtain ⟨u1, s1, q1⟩ := sF 1 _ rfl
 rw [sd] at hl1
 have hls := hl1.part Tryz.underlying63 (i := 1) rfl q1
 simp only [List.getElem_toArray, List.getElem_cons_zero, List.getElem_cons_succ] at s0 s1 hls
 rw [cellsInt] at s0
 rw [cellsInts] at s1
 obtain ⟨next, rfl⟩ := one_int s0
 obtain ⟨al, a1, a2⟩ := ints_of_trod s1
 obtain ⟨_, pp, pd, _, pF⟩ := field_at Tryz.underlying24 h4
 obtain ⟨t0, g0, _⟩ := pF 0 _ rfl
 obtain ⟨t1, g1, _⟩ := pF 1 _ rfl
 obtain ⟨t2, g2, _⟩ := pF 2 _ rfl
 obtain ⟨t3, g3, _⟩ := pF 3 _ rfl
 obtain ⟨t4, g4, _⟩ := pF 4 _ rfl
 obtain ⟨t5, g5, q5⟩ := pF 5 _ rfl
 rw [pd] at hl4
 have hlp := hl4.part Tryz.underlying24 (i := 5) rfl q5
 simp only [List.getElem_toArray, List.getElem_cons_zero, List.getElem_cons_succ] at g0 g1 g2 g3 g4 g5 hlp
 rw [cellsInt] at g0 g1 g2 g3
 rw [cellsString] at g4
 rw [cellsStrings] at g5
 obtain ⟨lsn, rfl⟩ := one_int g0
 obtain ⟨kind, rfl⟩ := one_int g1
 obtain ⟨level, rfl⟩ := one_int g2
 obtain ⟨right, rfl⟩ := one_int g3
 obtain ⟨high, rfl, _⟩ := one_string g4
 obtain ⟨il, i1, i2, i3⟩ := items_of_light2 g5 hlp
 have k1 := light_len hls Tryz.underlying28 a2
 have k2 := light_len hl3 Tryz.underlying28 r2
 have k3 := light_len hlp Tryz.underlying22 i3
 rw [bytesInt] at k1 k2
 rw [bytesString] at k3
 have k1' := reach_num k1
 have k2' := reach_num k2
 have k3' := reach_num k3
 refine ⟨⟨m, next, al, own, rl, ⟨lsn, kind, level, right, high, il⟩⟩, _, _, _, rfl, ⟨a1, r1, i1, ?_, ?_, ?_, fun x hx => by have := i2 x hx; omega⟩, i2⟩
 ·dsimp only; omega
 ·dsimp only; omega
 ·dsimp only; omega
end
end Go.Proofs.YtmhepfehcakmjaaGreat.Vac
