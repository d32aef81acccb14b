import Derived.Test.YtigbgodbalpgdaaKRel
import Derived.Test.YtigbgodbalpgdaaKLib
/- A region that draws, one of whose operations stores into a block that the region has made. -/
namespace Go.Proofs.Ytigbgodbalpgdaa
open Go.RowKit

/-- New blocks may have come; of the old ones only blocks of cells of type t, at or behind N, may have changed, and hold something good now. -/
structure Fill (N t : Nat) (G : List Value → World → Prop) (u v : World) : Prop where
  below : Below N u v
  same : ∀ k, k < u.heap.size → (∀ cs, ¬ Blk u k t cs) → v.heap[k]? = u.heap[k]?
  page : ∀ k cs, Blk u k t cs → Blk v k t cs ∨ ∃ cs', cs'.length = cs.length ∧ G cs' v ∧ Blk v k t cs'

/-- What is good stays so as long as blocks of other types stay. -/
def Lasts (t : Nat) (G : List Value → World → Prop) : Prop :=
  ∀ (cs : List Value) (u v : World), (∀ (k : Nat) (blk : Array Value) (e : Nat) (f : Nat × Nat), e ≠ t → u.heap[k]? = some (.cells blk e f) → v.heap[k]? = some (.cells blk e f)) → G cs u → G cs v

theorem Fill.other {N t : Nat} {G : List Value → World → Prop} {u v : World} (h : Fill N t G u v) (k : Nat) (blk : Array Value) (e : Nat) (f : Nat × Nat) (he : e ≠ t) (hb : u.heap[k]? = some (.cells blk e f)) : v.heap[k]? = some (.cells blk e f) := by
  rw [h.same k (lt_of_block hb) (fun cs hk => by unfold Blk at hk; rw [hb] at hk; simp at hk; exact he hk.2.1)]
  exact hb
theorem Fill.of_grow {N t : Nat} {G : List Value → World → Prop} {u v : World} (h : Grow u v) (hN : N ≤ u.heap.size) : Fill N t G u v :=
  ⟨Below.mono h hN, fun k hk _ => h.block k hk, fun _ _ hb => .inl (hb.fits h)⟩
theorem Fill.trans {N t : Nat} {G : List Value → World → Prop} (hG : Lasts t G) {u v w : World} (h : Fill N t G u v) (k : Fill N t G v w) : Fill N t G u w := by
  refine ⟨h.below.trans k.below, fun i hi hn => ?_, fun i cs hb => ?_⟩
  · have e := h.same i hi hn
    rw [k.same i (Nat.lt_of_lt_of_le hi h.below.size) (fun cs => by unfold Blk at *; rw [e]; exact hn cs), e]
  · rcases h.page i cs hb with hv | ⟨cs', hl, hg, hv⟩
    · exact k.page i cs hv
    · rcases k.page i cs' hv with hw | ⟨cs'', hl', hg', hw⟩
      · exact .inr ⟨cs', hl, hG _ _ _ (fun i blk e f he hb => k.other i blk e f he hb) hg, hw⟩
      · exact .inr ⟨cs'', hl'.trans hl, hg', hw⟩
theorem Fill.refl {N t : Nat} {G : List Value → World → Prop} (u : World) : Fill N t G u u := ⟨Below.refl _ _, fun _ _ _ => rfl, fun _ _ h => .inl h⟩
theorem Fill.undrew {N t : Nat} {G : List Value → World → Prop} {u v : World} (h : Fill N t G u.drew v) : Fill N t G u v :=
  ⟨⟨h.below.os, h.below.tape, h.below.output, h.below.size, h.below.block⟩, h.same, h.page⟩
theorem Fill.row {N t e n : Nat} {G : List Value → World → Prop} {u w : World} {v : Value} {cs : List Value} (h : Fill N t G u w) (hr : RowS u e v n cs) (he : e ≠ t) : RowS w e v n cs :=
  hr.move fun c blk f hb => h.other c blk e f he hb
theorem Fill.some {N t b : Nat} {G : List Value → World → Prop} {cs : List Value} {u w : World} (h : Fill N t G u w) (hb : Blk u b t cs) : ∃ cs', cs'.length = cs.length ∧ Blk w b t cs' := by
  rcases h.page b cs hb with hw | ⟨cs', hl, _, hw⟩
  · exact ⟨cs, rfl, hw⟩
  · exact ⟨cs', hl, hw⟩
theorem Fill.but {N t b : Nat} {G : List Value → World → Prop} {cs cs' : List Value} {u w : World} (k : But b u w) (hN : N ≤ b) (hN' : N ≤ u.heap.size) (hb : Blk u b t cs) (hl : cs'.length = cs.length) (hw : Blk w b t cs') (hg : G cs' w) : Fill N t G u w := by
  refine ⟨⟨k.os, k.tape, k.output, k.size, fun i hi => k.block i (by omega) (by omega)⟩, fun i hi hn => k.block i hi (fun e => by subst e; exact hn _ hb), fun i ds hi => ?_⟩
  by_cases e : i = b
  · subst e
    refine .inr ⟨cs', ?_, hg, hw⟩
    unfold Blk at hi hb
    rw [hi] at hb
    simp at hb
    rw [hl, ← hb]
  · exact .inl (hi.but k e)

section
variable {P : Program} {ops : Array Oper} {a0 : Act} {w0 : World} {Ext : World → World → Prop} {F : List (Value → World → Prop) → Prop} {i : Nat} {o : Oper} {rest : List Oper} {Ts : List (Value → World → Prop)}

theorem lexe_eq (ps : List (Nat × Bool)) (l : List (Tmp × Nat)) (h1 : (ps.all fun x => (preds o).contains x.1 && (dstAt ops x.1).isSome == x.2 && decide (x.1 < i)) = true) (h2 : places ops i = l) (h3 : o.dst.isSome = true) {c : Value}
    (hstep : ∀ (xs : Nat → Value) (w : World), Ext w0 w → holdsL Ts xs w ps → ∀ K : Value → World → Prop, (∀ w', Ext w w' → K c w') → gives P ops o (putAll xs l a0) w K)
    (hrest : lexAll P ops a0 w0 Ext F (i + 1) rest (Ts ++ [fun v _ => v = c])) : lexAll P ops a0 w0 Ext F i (o :: rest) Ts :=
  ⟨fun v _ => v = c, fun _ _ _ _ h => h, ⟨ps, l, true, h1, h2, h3, fun xs w hw hp K hK => hstep xs w hw hp K fun w' hx => hK c w' rfl hx⟩, hrest⟩

theorem lexe_says (T : Value → World → Prop) (hT : ∀ v w w', Ext w w' → T v w → T v w') (ps : List (Nat × Bool)) (l : List (Tmp × Nat)) (h1 : (ps.all fun x => (preds o).contains x.1 && (dstAt ops x.1).isSome == x.2 && decide (x.1 < i)) = true)
    (h2 : places ops i = l) (h3 : o.dst.isSome = true)
    (hstep : ∀ (xs : Nat → Value) (w : World), Ext w0 w → holdsL Ts xs w ps → ∀ K : Value → World → Prop, (∀ v w', T v w' → Ext w w' → K v w') → gives P ops o (putAll xs l a0) w K)
    (hrest : lexAll P ops a0 w0 Ext F (i + 1) rest (Ts ++ [T])) : lexAll P ops a0 w0 Ext F i (o :: rest) Ts :=
  ⟨T, hT, ⟨ps, l, true, h1, h2, h3, fun xs w hw hp K hK => hstep xs w hw hp K fun v w' hv hx => hK v w' hv hx⟩, hrest⟩

/-- An operation without a value, of whose world something is known that lasts. -/
theorem lexe_none (T : World → Prop) (hT : ∀ w w', Ext w w' → T w → T w') (ps : List (Nat × Bool)) (l : List (Tmp × Nat)) (h1 : (ps.all fun x => (preds o).contains x.1 && (dstAt ops x.1).isSome == x.2 && decide (x.1 < i)) = true)
    (h2 : places ops i = l) (h3 : o.dst.isSome = false)
    (hstep : ∀ (xs : Nat → Value) (w : World), Ext w0 w → holdsL Ts xs w ps → ∀ K : Value → World → Prop, (∀ v w', T w' → Ext w w' → K v w') → gives P ops o (putAll xs l a0) w K)
    (hrest : lexAll P ops a0 w0 Ext F (i + 1) rest (Ts ++ [fun _ w => T w])) : lexAll P ops a0 w0 Ext F i (o :: rest) Ts :=
  ⟨fun _ w => T w, fun _ w w' hx h => hT w w' hx h, ⟨ps, l, false, h1, h2, h3, fun xs w hw hp K hK => hstep xs w hw hp K fun v w' hv hx => hK v w' hv hx⟩, hrest⟩
end

theorem wp_region_ext {P : Program} {ops : Array Oper} {a0 : Act} {w0 : World} {id : Nat} {Q : Exit → Act → World → Prop} (hm : P.follows .mixedOrders = true) (N : Nat) (Ext : World → World → Prop)
    (h0 : Ext w0.drew w0.drew) (htr : ∀ u v w, Ext u v → Ext v w → Ext u w)
    (hsh : shaped ops a0.tmps.size N = true)
    (l : List (Tmp × Nat)) (hl : placesTo ops N = l) (al : List (Nat × Bool)) (hal : (al.all fun x => decide (x.1 < N) && (dstAt ops x.1).isSome == x.2) = true) {first last : List Oper} (hf : ops.toList.take N = first) (ht : ops.toList.drop N = last)
    (h : lexAll P ops a0 w0.drew Ext (fun Ts => ∀ (xs : Nat → Value) (w : World), Ext w0.drew w → holdsL Ts xs w al → wpList P ops Q last (putAll xs l a0) w) 0 first []) :
    (Code.region id ops true).wp P Q a0 w0 := by
  refine wp_region_lex hm N Ext hsh h0 htr l hl first last hf ht ?_
  exact lexAll_mono (fun Ts hTs xs w hw hv => hTs xs w hw (holdsL_all hv al hal)) _ _ _ h

end Go.Proofs.Ytigbgodbalpgdaa
