
/- The statements' calls, as they are read: how they lie, and bounds from what they weigh. -/
import Derived.Test.YtgijmlienolhpaaTla
import Derived.ProofKit
import Derived.SizedLaws
import Derived.Deep.Slices
namespace Go.Proofs.Ytgijmlienolhpaa
open Go.ChangeShapes Go.WideShapes Go.ChangeAt Go.RowKit

section
variable {H : Type} {enc : TypeId × Value → H} {P : Program} {w : World} {base : Nat} {spare : Nat → Bool} {held : Bool}

theorem field_at {t : TypeId} {fs : Array Field} {cs : List Value} {x : DataW H × List MemPlace} {fuel : Nat} (ht : P.underlying t = some (.struct fs)) (h : DataW.trod enc P w base spare held fuel t cs = some x) :
    ∃ (n : Nat) (parts : List (DataW H)), x.1 = .agg parts ∧ cs.length = P.cellsOf t ∧ ∀ (i : Nat) (f : Field), fs[i]? = some f → ∃ y, DataW.trod enc P w base spare held n f.type ((cs.drop f.offset).take (P.cellsOf f.type)) = some y ∧ parts[i]? = some y.1 := by
  obtain ⟨xs, n, _, rfl, hc, hl, hf⟩ := DataW.trod_struct ht h
  refine ⟨n, _, rfl, hc, fun i f hi => ?_⟩
  have hlt : i < xs.length := by
    rw [hl]
    exact (Array.getElem?_eq_some_iff.1 hi).1
  exact ⟨xs[i], by rw [hf i f hi]; simp [hlt], by simp [hlt]⟩

theorem flat_get {α : Type} (shape : α → List Value) (k : Nat) (hlen : ∀ s, (shape s).length = k) (l : List α) (i : Nat) (hi : i < l.length) (r : Nat) (hr : r < k) : (l.flatMap shape)[i * k + r]? = (shape l[i])[r]? := by
  induction l generalizing i with
  | nil => simp at hi
  | cons x l ih =>
    cases i with
    | zero =>
      simp only [List.flatMap_cons, Nat.zero_mul, Nat.zero_add, List.getElem_cons_zero]
      rw [List.getElem?_append_left (by rw [hlen]; exact hr)]
    | succ i =>
      have e : (i + 1) * k + r = k + (i * k + r) := by rw [Nat.add_mul]; omega
      rw [e, List.flatMap_cons, List.getElem?_append_right (by rw [hlen]; omega), hlen]
      have e2 : k + (i * k + r) - k = i * k + r := by omega
      rw [e2, ih i (by simpa using hi)]
      simp
theorem flat_length {α : Type} (shape : α → List Value) (k : Nat) (hlen : ∀ s, (shape s).length = k) (l : List α) : (l.flatMap shape).length = l.length * k := by
  induction l with
  | nil => simp
  | cons x l ih => simp only [List.flatMap_cons, List.length_append, List.length_cons, ih, hlen]; rw [Nat.add_mul]; omega

/-- What a reading weighs, part by part. -/
def Light (P : Program) (t : TypeId) (d : DataW H) : Prop := ∀ n ∈ d.weights P t, n ≤ reachBytes
theorem Light.part {t : TypeId} {fs : Array Field} {parts : List (DataW H)} {i : Nat} {f : Field} {d : DataW H} (h : Light P t (.agg parts)) (ht : P.underlying t = some (.struct fs)) (hf : fs[i]? = some f) (hd : parts[i]? = some d) : Light P f.type d := by
  intro n hn
  refine h n ?_
  simp only [DataW.weights, ht]
  exact DataW.weights_mem_each (by simpa using ⟨f, by simpa using hf, rfl⟩) hd n hn
theorem Light.slice {t e : TypeId} {es sp : List (DataW H)} (h : Light P t (.slice es sp)) (ht : P.underlying t = some (.slice e)) : (es.length + sp.length) * P.bytesOf e ≤ reachBytes :=
  h _ (by simp [DataW.weights, ht])
theorem light_arg {ts : List TypeId} {ds : List (DataW H)} (h : (DataW.weightsEach P ts ds).all (· ≤ reachBytes) = true) {j : Nat} {t : TypeId} {d : DataW H} (ht : ts[j]? = some t) (hd : ds[j]? = some d) : Light P t d := by
  intro n hn
  simpa using List.all_eq_true.1 h _ (DataW.weights_mem_each ht hd n hn)
theorem light_len {α : Type} {t e : TypeId} {d : DataW H} {l : List α} (h : Light P t d) (ht : P.underlying t = some (.slice e)) (hd : (d = .nil ∧ l = []) ∨ ∃ es sp, d = .slice es sp ∧ es.length = l.length) : l.length * P.bytesOf e ≤ reachBytes := by
  rcases hd with ⟨_, rfl⟩ | ⟨es, sp, rfl, hl⟩
  · simp
  · have := h.slice ht
    rw [← hl]
    exact Nat.le_trans (Nat.mul_le_mul_right _ (Nat.le_add_right _ _)) this
theorem weights_mem_all {e : TypeId} {ds : List (DataW H)} {d : DataW H} (hd : d ∈ ds) {n : Nat} (hn : n ∈ d.weights P e) : n ∈ DataW.weightsAll P e ds := by
  induction ds with
  | nil => cases hd
  | cons a l ih =>
    rw [DataW.weightsAll, List.mem_append]
    rcases List.mem_cons.1 hd with rfl | h
    · exact .inl hn
    · exact .inr (ih h)
theorem Light.elem {t e : TypeId} {es sp : List (DataW H)} (h : Light P t (.slice es sp)) (ht : P.underlying t = some (.slice e)) {d : DataW H} (hd : d ∈ es) : Light P e d := by
  intro n hn
  refine h n ?_
  simp only [DataW.weights, ht]
  exact List.mem_cons_of_mem _ (List.mem_append_left _ (weights_mem_all hd hn))
theorem rows_of_light {α : Type} [Inhabited α] (shape : α → List Value) (good : α → Prop) {t e : TypeId} (k T : Nat) (hk0 : 0 < k) (ht : P.underlying t = some (.slice e)) (hk : P.cellsOf e = k) (hlen : ∀ s, (shape s).length = k)
    (hs : ∀ (n : Nat) (cs : List Value) (y : DataW H × List MemPlace), DataW.trod enc P w base spare held n e cs = some y → Light P e y.1 → ∃ s, cs = shape s ∧ good s) {fuel : Nat} {v : Value} {x : DataW H × List MemPlace} (h : DataW.trod enc P w base spare held fuel t [v] = some x) (hx : Light P t x.1) :
    ∃ l : List α, Row w T v l.length (l.flatMap shape) ∧ (∀ s ∈ l, good s) ∧ ((x.1 = .nil ∧ l = []) ∨ ∃ es sp, x.1 = .slice es sp ∧ es.length = l.length) := by
  rcases DataW.trod_slice ht h with ⟨hcs, rfl⟩ | ⟨a, len, cap, elems, rest, n, hf, hcs, rfl, hb, hl, hm, hel, hall, _, _⟩
  · simp only [List.cons.injEq, and_true] at hcs
    subst hcs
    exact ⟨[], Row.nil _ _ _ _, by simp, .inl ⟨rfl, rfl⟩⟩
  · simp only [List.cons.injEq, and_true] at hcs
    subst hcs
    have hget : ∀ i, i < len → ∃ s : α, (∀ r (hr : r < k), w.cell? ((a.add (i * k)).add r) = (shape s)[r]?) ∧ good s := by
      intro i hi
      have h1 := hall i hi
      rw [hk, List.getElem?_eq_getElem (by omega)] at h1
      obtain ⟨cs, h2, h3⟩ := Option.bind_eq_some_iff.1 h1
      obtain ⟨s, rfl, hg⟩ := hs _ _ _ h3 (hx.elem ht (List.mem_map.2 ⟨_, List.getElem_mem _, rfl⟩))
      obtain ⟨_, _, h4⟩ := World.cells?_some h2
      exact ⟨s, fun r hr => h4 r hr, hg⟩
    obtain ⟨f, hf⟩ := Go.Deep.choose_lt hget
    refine ⟨(List.range len).map f, ?_, ?_, .inr ⟨_, _, rfl, by simp [hel]⟩⟩
    · have hL : ((List.range len).map f).length = len := by simp
      rw [hL]
      rcases Nat.eq_zero_or_pos len with h0 | h0
      · subst h0; exact Row.nil _ _ _ _
      · have hs0 := (hf 0 h0).1 0 hk0
        rw [List.getElem?_eq_getElem (by rw [hlen]; exact hk0)] at hs0
        have hsp := World.cell?_spot hs0
        obtain ⟨c, off, spot⟩ := a
        have : spot = none := by simpa [Addr.add] using hsp
        subst this
        refine .inr ⟨c, off, cap, rfl, fun j hj => ?_⟩
        have hj' : j < len * k := by rw [flat_length shape k hlen, hL] at hj; exact hj
        have hjk : j / k < len := by rw [Nat.div_lt_iff_lt_mul hk0]; exact hj'
        have hr : j % k < k := Nat.mod_lt _ hk0
        have hd : j / k * k + j % k = j := by rw [Nat.mul_comm]; exact Nat.div_add_mod j k
        have h5 := (hf (j / k) hjk).1 (j % k) hr
        have h6 := flat_get shape k hlen ((List.range len).map f) (j / k) (by simp; exact hjk) (j % k) hr
        rw [hd, List.getElem?_eq_getElem hj] at h6
        have e : ((⟨c, off, none⟩ : Addr).add (j / k * k)).add (j % k) = ⟨c, off + j, none⟩ := by
          rw [Go.Deep.add_add, hd]
          unfold Addr.add; split <;> simp_all
        rw [e] at h5
        rw [h5, h6]
        simp
    · intro s hm
      obtain ⟨i, hi, rfl⟩ := List.mem_map.1 hm
      exact (hf i (by simpa using hi)).2
end

theorem reach_num {n k : Nat} (h : n * k ≤ reachBytes) : n * k ≤ 140737488351232 := by
  have e : reachBytes = 140737488351232 := by decide
  omega
theorem cellsInt : Try.prog.cellsOf 3 = 1 := by kernel_rfl
theorem cellsBool : Try.prog.cellsOf 4 = 1 := by kernel_rfl
theorem cellsInts : Try.prog.cellsOf 26 = 1 := by kernel_rfl
theorem cellsSnap : Try.prog.cellsOf 28 = 2 := by kernel_rfl
theorem cellsOp : Try.prog.cellsOf 30 = 6 := by kernel_rfl
theorem bytesInt : Try.prog.bytesOf 3 = 8 := by kernel_rfl
theorem bytesOp : Try.prog.bytesOf 30 = 64 := by kernel_rfl
theorem len6 {α : Type} {l : List α} (h : l.length = 6) : ∃ a b c d e f, l = [a, b, c, d, e, f] := by
  match l, h with
  | [a, b, c, d, e, f], _ => exact ⟨a, b, c, d, e, f, rfl⟩

section
variable {H : Type} {enc : TypeId × Value → H} {w : World} {base : Nat} {spare : Nat → Bool} {held : Bool} {r : Reach} {b0 : Nat}
theorem one_int {n : Nat} {v : Value} {y : DataW H × List MemPlace} (h : DataW.trod enc Try.prog w base spare held n 3 [v] = some y) : ∃ x : Int, v = .int .i64 x ∧ (Lit.int .i64 x).wf = true := by
  obtain ⟨x, h1, _, h2⟩ := DataW.trod_int Try.underlying3 h
  simp only [List.cons.injEq, and_true] at h1
  exact ⟨x, h1, h2⟩
theorem one_bool {n : Nat} {v : Value} {y : DataW H × List MemPlace} (h : DataW.trod enc Try.prog w base spare held n 4 [v] = some y) : ∃ x : Bool, v = .bool x := by
  obtain ⟨x, h1, _⟩ := DataW.trod_bool Try.underlying4 h
  simp only [List.cons.injEq, and_true] at h1
  exact ⟨x, h1⟩
theorem wf_le {x : Int} (h : (Lit.int .i64 x).wf = true) : x ≤ 9223372036854775807 := by
  simp [Lit.wf] at h
  omega
instance : Inhabited Cl := ⟨⟨0, 0, 0, false, 0, []⟩⟩
theorem ints_light {n : Nat} {v : Value} {y : DataW H × List MemPlace} (h : DataW.trod enc Try.prog w base spare held n 26 [v] = some y) (hl : Light Try.prog 26 y.1) : ∃ l : List Int, Ints w v l ∧ (l.length : Int) ≤ 17592186044416 := by
  obtain ⟨l, h1, h9, h2⟩ := rows_of_light (fun x : Int => [Value.int .i64 x]) (fun _ => True) 1 3 (by decide) Try.underlying26 cellsInt (fun _ => rfl) (fun m cs y hy hly => by
    obtain ⟨x, e1, _, _⟩ := DataW.trod_int Try.underlying3 hy
    exact ⟨x, e1, trivial⟩) h hl
  have hlen := light_len hl Try.underlying26 h2
  rw [bytesInt] at hlen
  have := reach_num hlen
  refine ⟨l, ?_, by omega⟩
  have e : l.flatMap (fun x : Int => [Value.int .i64 x]) = iCells l := by
    clear h1 h2 hlen this h9
    induction l with
    | nil => rfl
    | cons a l ih => rw [List.flatMap_cons, ih]; rfl
  rw [e] at h1
  exact h1
theorem op_light (n : Nat) (cs : List Value) (y : DataW H × List MemPlace) (h : DataW.trod enc Try.prog w base spare held n 30 cs = some y) (hly : Light Try.prog 30 y.1) :
    ∃ p : Cl × Value, cs = opC p.1 p.2 ∧ (Ints w p.2 p.1.act ∧ ClOk p.1 ∧ (Lit.int .i64 p.1.who).wf = true) := by
  obtain ⟨m, parts, hd, hl, hf⟩ := field_at Try.underlying30 h
  rw [cellsOp] at hl
  obtain ⟨a, b, c, d, e, f, rfl⟩ := len6 hl
  obtain ⟨y0, h0, _⟩ := hf 0 _ rfl
  obtain ⟨y1, h1, _⟩ := hf 1 _ rfl
  obtain ⟨y2, h2, _⟩ := hf 2 _ rfl
  obtain ⟨y3, h3, _⟩ := hf 3 _ rfl
  obtain ⟨y4, h4, p4⟩ := hf 4 _ rfl
  rw [hd] at hly
  have hl4 := hly.part Try.underlying30 (i := 4) rfl p4
  simp only [List.getElem_toArray, List.getElem_cons_zero, List.getElem_cons_succ] at h0 h1 h2 h3 h4 hl4
  rw [cellsInt] at h0 h1 h2
  rw [cellsBool] at h3
  rw [cellsSnap] at h4
  obtain ⟨x0, rfl, _⟩ := one_int h0
  obtain ⟨x1, rfl, w1⟩ := one_int h1
  obtain ⟨x2, rfl, w2⟩ := one_int h2
  obtain ⟨x3, rfl⟩ := one_bool h3
  obtain ⟨m', parts', hd', _, hg⟩ := field_at Try.underlying28 h4
  obtain ⟨z0, g0, _⟩ := hg 0 _ rfl
  obtain ⟨z1, g1, q1⟩ := hg 1 _ rfl
  rw [hd'] at hl4
  have hl5 := hl4.part Try.underlying28 (i := 1) rfl q1
  simp only [List.getElem_toArray, List.getElem_cons_zero, List.getElem_cons_succ] at g0 g1 hl5
  rw [cellsInt] at g0
  rw [cellsInts] at g1
  obtain ⟨x4, rfl, _⟩ := one_int g0
  obtain ⟨l, hi, hll⟩ := ints_light g1 hl5
  exact ⟨(⟨x0, x1, x2, x3, x4, l⟩, f), rfl, hi, ⟨wf_le w2, hll⟩, w1⟩

set_option maxRecDepth 100000 in
theorem ops_of_light {v : Value} {d : DataW H} {p : List MemPlace} (hval : Value.okWide Try.prog w r b0 22 v) (h : DataW.Trod enc Try.prog w base spare held 22 v d p) (hl : Light Try.prog 22 d) :
    ∃ ps : List (Cl × Value), OpsIn w v ps ∧ ps.length ≤ 2199023255552 := by
  obtain ⟨a, len, cap, rfl⟩ := okWide_slice Try.underlying22 hval
  obtain ⟨fuel, hf⟩ := h
  have hf' : DataW.trod enc Try.prog w base spare held fuel 22 [.slice a len cap] = some (d, p) := hf
  obtain ⟨l, g1, g3, g2⟩ := rows_of_light (fun p : Cl × Value => opC p.1 p.2) (fun p => Ints w p.2 p.1.act ∧ ClOk p.1 ∧ (Lit.int .i64 p.1.who).wf = true) 6 30 (by decide) Try.underlying22 cellsOp (fun _ => rfl) op_light hf' hl
  have hlen := light_len hl Try.underlying22 g2
  rw [bytesOp] at hlen
  have := reach_num hlen
  exact ⟨l, ⟨g1, g3⟩, by omega⟩
set_option maxRecDepth 100000 in
theorem who_of_trod {v : Value} {d : DataW H} {p : List MemPlace} (hval : Value.okWide Try.prog w r b0 3 v) (h : DataW.Trod enc Try.prog w base spare held 3 v d p) : ∃ x : Int, v = .int .i64 x ∧ (Lit.int .i64 x).wf = true := by
  obtain ⟨x, rfl⟩ := okWide_int Try.underlying3 hval
  obtain ⟨fuel, hf⟩ := h
  exact one_int (v := .int .i64 x) hf
end

end Go.Proofs.Ytgijmlienolhpaa
