import Derived.Test.YtaninphcgeaepaaGreatKOpn2
import Derived.Test.YtaninphcgeaepaaGreatKRt1
/- A page that is read. -/
namespace Go.Proofs.YtaninphcgeaepaaGreat
open Go.ChangeShapes Go.WideShapes Go.ChangeAt Go.RowKit

theorem cellsPage : Tryz.prog.cellsOf 24 = 6 := by kernel_rfl
theorem cellsStrings : Tryz.prog.cellsOf 22 = 1 := by kernel_rfl
theorem bytesString : Tryz.prog.bytesOf 9 = 16 := by kernel_rfl

section
variable {H : Type} {enc : TypeId × Value → H} {P : Program} {w : World} {base : Nat} {spare : Nat → Bool} {held : Bool}
theorem weights_mem_all {e : TypeId} {ds : List (DataW H)} {d : DataW H} (hd : d ∈ ds) {n : Nat} (hn : n ∈ d.weights P e) : n ∈ DataW.weightsAll P e ds := by
  induction ds with
  | nil => cases hd
  | cons a l ih =>
    rw [DataW.weightsAll, List.mem_append]
    rcases List.mem_cons.1 hd with rfl | h
    · exact .inl hn
    · exact .inr (ih h)
theorem Light.elem {t e : TypeId} {es sp : List (DataW H)} (h : Light P t (.slice es sp)) (ht : P.underlying t = some (.slice e)) {d : DataW H} (hd : d ∈ es) : Light P e d := by
  intro n hn
  refine h n ?_
  simp only [DataW.weights, ht]
  exact List.mem_cons_of_mem _ (List.mem_append_left _ (weights_mem_all hd hn))
theorem rows_of_light {α : Type} [Inhabited α] (shape : α → List Value) (good : α → Prop) {t e : TypeId} (k T : Nat) (hk0 : 0 < k) (ht : P.underlying t = some (.slice e)) (hk : P.cellsOf e = k) (hlen : ∀ s, (shape s).length = k)
    (hs : ∀ (n : Nat) (cs : List Value) (y : DataW H × List MemPlace), DataW.trod enc P w base spare held n e cs = some y → Light P e y.1 → ∃ s, cs = shape s ∧ good s) {fuel : Nat} {v : Value} {x : DataW H × List MemPlace} (h : DataW.trod enc P w base spare held fuel t [v] = some x) (hx : Light P t x.1) :
    ∃ l : List α, Row w T v l.length (l.flatMap shape) ∧ (∀ s ∈ l, good s) ∧ ((x.1 = .nil ∧ l = []) ∨ ∃ es sp, x.1 = .slice es sp ∧ es.length = l.length) := by
  rcases DataW.trod_slice ht h with ⟨hcs, rfl⟩ | ⟨a, len, cap, elems, rest, n, hf, hcs, rfl, hb, hl, hm, hel, hall, _, _⟩
  · simp only [List.cons.injEq, and_true] at hcs
    subst hcs
    exact ⟨[], Row.nil _ _ _ _, by simp, .inl ⟨rfl, rfl⟩⟩
  · simp only [List.cons.injEq, and_true] at hcs
    subst hcs
    have hget : ∀ i, i < len → ∃ s : α, (∀ r (hr : r < k), w.cell? ((a.add (i * k)).add r) = (shape s)[r]?) ∧ good s := by
      intro i hi
      have h1 := hall i hi
      rw [hk, List.getElem?_eq_getElem (by omega)] at h1
      obtain ⟨cs, h2, h3⟩ := Option.bind_eq_some_iff.1 h1
      obtain ⟨s, rfl, hg⟩ := hs _ _ _ h3 (hx.elem ht (List.mem_map.2 ⟨_, List.getElem_mem _, rfl⟩))
      obtain ⟨_, _, h4⟩ := World.cells?_some h2
      exact ⟨s, fun r hr => h4 r hr, hg⟩
    obtain ⟨f, hf⟩ := Go.Deep.choose_lt hget
    refine ⟨(List.range len).map f, ?_, ?_, .inr ⟨_, _, rfl, by simp [hel]⟩⟩
    · have hL : ((List.range len).map f).length = len := by simp
      rw [hL]
      rcases Nat.eq_zero_or_pos len with h0 | h0
      · subst h0; exact Row.nil _ _ _ _
      · have hs0 := (hf 0 h0).1 0 hk0
        rw [List.getElem?_eq_getElem (by rw [hlen]; exact hk0)] at hs0
        have hsp := World.cell?_spot hs0
        obtain ⟨c, off, spot⟩ := a
        have : spot = none := by simpa [Addr.add] using hsp
        subst this
        refine .inr ⟨c, off, cap, rfl, fun j hj => ?_⟩
        have hj' : j < len * k := by rw [flat_length shape k hlen, hL] at hj; exact hj
        have hjk : j / k < len := by rw [Nat.div_lt_iff_lt_mul hk0]; exact hj'
        have hr : j % k < k := Nat.mod_lt _ hk0
        have hd : j / k * k + j % k = j := by rw [Nat.mul_comm]; exact Nat.div_add_mod j k
        have h5 := (hf (j / k) hjk).1 (j % k) hr
        have h6 := flat_get shape k hlen ((List.range len).map f) (j / k) (by simp; exact hjk) (j % k) hr
        rw [hd, List.getElem?_eq_getElem hj] at h6
        have e : ((⟨c, off, none⟩ : Addr).add (j / k * k)).add (j % k) = ⟨c, off + j, none⟩ := by
          rw [Go.Deep.add_add, hd]
          unfold Addr.add; split <;> simp_all
        rw [e] at h5
        rw [h5, h6]
        simp
    · intro s hm
      obtain ⟨i, hi, rfl⟩ := List.mem_map.1 hm
      exact (hf i (by simpa using hi)).2
end

section
variable {H : Type} {enc : TypeId × Value → H} {w : World} {base : Nat} {spare : Nat → Bool} {held : Bool} {r : Reach} {b0 : Nat}
theorem len6 {α : Type} {l : List α} (h : l.length = 6) : ∃ a b c d e f, l = [a, b, c, d, e, f] := by
  match l, h with
  | [a, b, c, d, e, f], _ => exact ⟨a, b, c, d, e, f, rfl⟩
set_option maxRecDepth 100000 in
theorem string_light {n : Nat} {v : Value} {y : DataW H × List MemPlace} (h : DataW.trod enc Tryz.prog w base spare held n 9 [v] = some y) (hl : Light Tryz.prog 9 y.1) : ∃ x : List UInt8, v = .string (str x) ∧ (x.length : Int) ≤ 140737488355328 := by
  obtain ⟨s, h1, h2, _⟩ := DataW.trod_string Tryz.underlying9 h
  simp only [List.cons.injEq, and_true] at h1
  refine ⟨s.data.toList, by rw [str_of]; exact h1, ?_⟩
  have h3 := hl s.data.toList.length (by rw [h2]; simp [DataW.weights])
  have e : reachBytes = 140737488351232 := by decide
  omega
theorem items_of_light {n : Nat} {v : Value} {y : DataW H × List MemPlace} (h : DataW.trod enc Tryz.prog w base spare held n 22 [v] = some y) (hl : Light Tryz.prog 22 y.1) :
    ∃ l : List (List UInt8), Items w v l ∧ (∀ x ∈ l, (x.length : Int) ≤ 140737488355328) ∧ (l.length : Int) ≤ 140737488355328 := by
  obtain ⟨l, h1, h3, h2⟩ := rows_of_light (fun x : List UInt8 => [Value.string (str x)]) (fun x => (x.length : Int) ≤ 140737488355328) 1 9 (by decide) Tryz.underlying22 cellsString (fun _ => rfl) (fun m cs y hy hly => by
    obtain ⟨s, e1, _, e2⟩ := DataW.trod_string Tryz.underlying9 hy
    subst e1
    obtain ⟨x, e3, e4⟩ := string_light hy hly
    exact ⟨x, by rw [e3], e4⟩) h hl
  have hlen := light_len hl Tryz.underlying22 h2
  rw [bytesString] at hlen
  have := reach_num hlen
  refine ⟨l, ?_, h3, by omega⟩
  have e : l.flatMap (fun x : List UInt8 => [Value.string (str x)]) = sCells l := by
    clear h1 h3 h2 hlen this
    induction l with
    | nil => rfl
    | cons a l ih => rw [List.flatMap_cons, ih]; rfl
  rw [e] at h1
  exact h1
theorem int_light {n : Nat} {v : Value} {y : DataW H × List MemPlace} (h : DataW.trod enc Tryz.prog w base spare held n 3 [v] = some y) : ∃ x : Int, v = .int .i64 x ∧ x ≤ 9223372036854775807 := by
  obtain ⟨x, h1, h2, h3⟩ := DataW.trod_int Tryz.underlying3 h
  simp only [List.cons.injEq, and_true] at h1
  have h4 : x ≤ IntKind.i64.max := by
    unfold Lit.wf at h3
    rw [Bool.and_eq_true, decide_eq_true_eq, decide_eq_true_eq] at h3
    exact h3.2
  exact ⟨x, h1, h4⟩
set_option maxRecDepth 100000 in
theorem page_of_trod {v : Value} {d : DataW H} {p : List MemPlace} (hval : Value.okWide Tryz.prog w r b0 24 v) (h : DataW.Trod enc Tryz.prog w base spare held 24 v d p) (hl : Light Tryz.prog 24 d) :
    ∃ (P : Pg) (iv : Value), v = pgV P iv ∧ PgIn w iv P := by
  obtain ⟨cs, rfl, hsz⟩ := okWide_struct Tryz.underlying24 hval
  obtain ⟨fuel, hf⟩ := h
  obtain ⟨n, parts, hd, hc, hF⟩ := field_at Tryz.underlying24 hf
  rw [cellsPage] at hsz hc
  simp only [Value.cells] at hf hF hc
  obtain ⟨a, b, c, dd, e, f, hcs⟩ := len6 hc
  obtain ⟨l0⟩ := cs
  simp only at hcs
  subst hcs
  obtain ⟨y0, h0, _⟩ := hF 0 _ rfl
  obtain ⟨y1, h1, _⟩ := hF 1 _ rfl
  obtain ⟨y2, h2, _⟩ := hF 2 _ rfl
  obtain ⟨y3, h3, _⟩ := hF 3 _ rfl
  obtain ⟨y4, h4, p4⟩ := hF 4 _ rfl
  obtain ⟨y5, h5, p5⟩ := hF 5 _ rfl
  have hd' : d = .agg parts := hd
  subst hd'
  have hl4 := hl.part Tryz.underlying24 (i := 4) rfl p4
  have hl5 := hl.part Tryz.underlying24 (i := 5) rfl p5
  simp only [List.getElem_toArray, List.getElem_cons_zero, List.getElem_cons_succ] at h0 h1 h2 h3 h4 h5 hl4 hl5
  rw [cellsInt] at h0 h1 h2 h3
  rw [cellsString] at h4
  rw [cellsStrings] at h5
  obtain ⟨x0, rfl, hx0⟩ := int_light h0
  obtain ⟨x1, rfl, _⟩ := int_light h1
  obtain ⟨x2, rfl, _⟩ := int_light h2
  obtain ⟨x3, rfl, _⟩ := int_light h3
  obtain ⟨x4, rfl, hx4⟩ := string_light h4 hl4
  obtain ⟨l, g1, g2, g3⟩ := items_of_light h5 hl5
  exact ⟨⟨x0, x1, x2, x3, x4, l⟩, f, rfl, g1, g2, hx4, g3, hx0⟩
end

end Go.Proofs.YtaninphcgeaepaaGreat

/- Keys that are read: two texts and a number. -/
namespace Go.Proofs.YtaninphcgeaepaaGreat
open Go.ChangeShapes Go.WideShapes Go.ChangeAt Go.RowKit

theorem cellsKeys : Tryz.prog.cellsOf 48 = 3 := by kernel_rfl
section
variable {H : Type} {enc : TypeId × Value → H} {w : World} {base : Nat} {spare : Nat → Bool} {held : Bool} {r : Reach} {b0 : Nat}
set_option maxRecDepth 100000 in
theorem keys_of_trod {v : Value} {d : DataW H} {p : List MemPlace} (hval : Value.okWide Tryz.prog w r b0 48 v) (h : DataW.Trod enc Tryz.prog w base spare held 48 v d p) :
    ∃ (a b : List UInt8) (n : Int), v = .agg #[.string (str a), .string (str b), .int .i64 n] := by
  obtain ⟨cs, rfl, hsz⟩ := okWide_struct Tryz.underlying48 hval
  obtain ⟨fuel, hf⟩ := h
  obtain ⟨n, parts, hd, hc, hF⟩ := field_at Tryz.underlying48 hf
  rw [cellsKeys] at hsz hc
  simp only [Value.cells] at hf hF hc
  obtain ⟨a, b, c, hcs⟩ := len3 hc
  obtain ⟨l0⟩ := cs
  simp only at hcs
  subst hcs
  obtain ⟨y0, h0, _⟩ := hF 0 _ rfl
  obtain ⟨y1, h1, _⟩ := hF 1 _ rfl
  obtain ⟨y2, h2, _⟩ := hF 2 _ rfl
  simp only [List.getElem_toArray, List.getElem_cons_zero, List.getElem_cons_succ] at h0 h1 h2
  rw [cellsInt] at h2
  rw [cellsString] at h0 h1
  obtain ⟨s0, e0, _⟩ := DataW.trod_string Tryz.underlying9 h0
  obtain ⟨s1, e1, _⟩ := DataW.trod_string Tryz.underlying9 h1
  obtain ⟨x2, rfl, _⟩ := int_light h2
  have e0' : a = .string s0 := by simpa using e0
  have e1' : b = .string s1 := by simpa using e1
  subst e0' e1'
  exact ⟨s0.data.toList, s1.data.toList, x2, by rw [str_of, str_of]⟩
end

end Go.Proofs.YtaninphcgeaepaaGreat
