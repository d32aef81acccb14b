
/- Regions that draw, in great frames: an operation asks the frame for its operands alone. -/
import Derived.Test.YtgijmlienolhpaaRel
namespace Go.Proofs.Ytgijmlienolhpaa
open Go.RowKit

/-- What stands in a slot. -/
def slot (a : Act) (s : Tmp) : Value := a.tmps.getD s undef
def lookL (xs : Nat → Value) (s : Tmp) : Value → List (Tmp × Nat) → Value
  | v, [] => v
  | v, (d, j) :: l => lookL xs s (if d = s then xs j else v) l
def evalF (f : Tmp → Value) : Operand → Value
  | .tmp t => f t
  | .const v => v
  | .global g => .pointer (some ⟨g, 0, none⟩)
  | .func f => .func (.func f) #[] #[]
def isB : Value → Bool → Bool
  | .bool c, b => c == b
  | _, _ => false
theorem isB_bool (c b : Bool) : isB (.bool c) b = (c == b) := rfl
theorem isB_undef (b : Bool) : isB undef b = false := rfl
theorem evalF_tmp (f : Tmp → Value) (t : Tmp) : evalF f (.tmp t) = f t := rfl
theorem evalF_const (f : Tmp → Value) (v : Value) : evalF f (.const v) = v := rfl
theorem evalF_global (f : Tmp → Value) (g : Nat) : evalF f (.global g) = .pointer (some ⟨g, 0, none⟩) := rfl
theorem evalF_func (f : Tmp → Value) (g : FuncId) : evalF f (.func g) = .func (.func g) #[] #[] := rfl
/-- An operation, over what the slots hold. -/
def givesF (P : Program) (o : Oper) (g : Option (Tmp × Bool)) (f : Tmp → Value) (w : World) (K : Value → World → Prop) : Prop :=
  match g with
  | none => givesUpon P K ((execOp (evalF f) o).run P w)
  | some (t, b) => if isB (f t) b = true then givesUpon P K ((execOp (evalF f) o).run P w) else K undef w
theorem givesF_none (P : Program) (o : Oper) (f : Tmp → Value) (w : World) (K : Value → World → Prop) : givesF P o none f w K = givesUpon P K ((execOp (evalF f) o).run P w) := rfl
theorem givesF_some (P : Program) (o : Oper) (t : Tmp) (b : Bool) (f : Tmp → Value) (w : World) (K : Value → World → Prop) : givesF P o (some (t, b)) f w K = if isB (f t) b = true then givesUpon P K ((execOp (evalF f) o).run P w) else K undef w := rfl
def guardAt (ops : Array Oper) (o : Oper) : Option (Option (Tmp × Bool)) :=
  match o.guard with
  | none => some none
  | some (k, b) => match (ops[k]?).bind (·.dst) with
    | some t => some (some (t, b))
    | none => none

theorem eval_evalF (a : Act) : a.eval = evalF (slot a) := by funext x; cases x <;> rfl

theorem gives_slot {P : Program} {ops : Array Oper} {o : Oper} {a : Act} {w : World} {K : Value → World → Prop} {g : Option (Tmp × Bool)} (hg : guardAt ops o = some g) (hs : ∀ t b, g = some (t, b) → t < a.tmps.size)
    (h : givesF P o g (slot a) w K) : gives P ops o a w K := by
  unfold gives
  unfold guardAt at hg
  cases hq : o.guard with
  | none =>
    rw [hq] at hg
    simp only [Option.some.injEq] at hg
    subst hg
    have : Region.wanted o (yielded ops a.tmps) = true := by unfold Region.wanted; rw [hq]
    rw [if_pos this, eval_evalF]
    exact h
  | some kb =>
    obtain ⟨k, b⟩ := kb
    rw [hq] at hg
    cases hd : (ops[k]?).bind (·.dst) with
    | none => simp [hd] at hg
    | some t =>
      simp only [hd, Option.some.injEq] at hg
      subst hg
      have ht := hs t b rfl
      have hy : Region.wanted o (yielded ops a.tmps) = isB (slot a t) b := by
        unfold Region.wanted yielded slot
        rw [hq]
        simp only [hd, Option.bind_some]
        rw [Array.getD_eq_getD_getElem?, Array.getElem?_eq_getElem ht]
        simp only [Option.getD_some]
        generalize a.tmps[t] = v
        cases v <;> simp [isB]
      rw [hy, eval_evalF]
      exact h

theorem slot_put (a : Act) (d s : Tmp) (v : Value) (hd : d < a.tmps.size) : slot (a.put (some d) v) s = if d = s then v else slot a s := by
  unfold slot
  simp only [Act.put, Array.getD_eq_getD_getElem?, Array.getElem?_setIfInBounds]
  by_cases h : d = s
  · subst h; simp [hd]
  · simp [h]
theorem slot_putAll (xs : Nat → Value) (s : Tmp) : ∀ (l : List (Tmp × Nat)) (a : Act), (l.all fun x => decide (x.1 < a.tmps.size)) = true → slot (putAll xs l a) s = lookL xs s (slot a s) l
  | [], _, _ => rfl
  | (d, j) :: l, a, h => by
    rw [List.all_cons, Bool.and_eq_true, decide_eq_true_eq] at h
    rw [putAll, slot_putAll xs s l _ (by simpa [put_size] using h.2), slot_put _ _ _ _ h.1, lookL]
theorem size_putAll (xs : Nat → Value) : ∀ (l : List (Tmp × Nat)) (a : Act), (putAll xs l a).tmps.size = a.tmps.size
  | [], _ => rfl
  | (d, j) :: l, a => by rw [putAll, size_putAll xs l, put_size]
theorem slot_at {a0 : Act} {L : List Value} {d : List Deferred} (ha : a0 = ⟨L.toArray, d⟩) (n : Nat) {v : Value} (h : L[n]? = some v) : slot a0 n = v := by
  subst ha
  simp [slot, h]
theorem size_at {a0 : Act} {L : List Value} {d : List Deferred} (ha : a0 = ⟨L.toArray, d⟩) : a0.tmps.size = L.length := by subst ha; rfl

section
variable {P : Program} {ops : Array Oper} {a0 : Act} {w0 : World} {Ext : World → World → Prop} {F : List (Value → World → Prop) → Prop} {i : Nat} {o : Oper} {rest : List Oper} {Ts : List (Value → World → Prop)}

def boundsF (n : Nat) (l : List (Tmp × Nat)) (g : Option (Tmp × Bool)) : Bool := (l.all fun x => decide (x.1 < n)) && (match g with | none => true | some (t, _) => decide (t < n))

theorem gives_look {xs : Nat → Value} {l : List (Tmp × Nat)} {g : Option (Tmp × Bool)} {n : Nat} {w : World} {K : Value → World → Prop} (hn : a0.tmps.size = n) (hb : boundsF n l g = true) (hg : guardAt ops o = some g)
    (h : givesF P o g (fun s => lookL xs s (slot a0 s) l) w K) : gives P ops o (putAll xs l a0) w K := by
  unfold boundsF at hb
  rw [Bool.and_eq_true] at hb
  refine gives_slot hg (fun t b e => ?_) ?_
  · subst e
    rw [size_putAll, hn]
    simpa using hb.2
  · rw [show slot (putAll xs l a0) = fun s => lookL xs s (slot a0 s) l from funext fun s => slot_putAll xs s l a0 (by rw [hn]; exact hb.1)]
    exact h

/-- An operation of which a value is known. -/
theorem lexf_eq {n : Nat} (hn : a0.tmps.size = n) (ps : List (Nat × Bool)) (l : List (Tmp × Nat)) (g : Option (Tmp × Bool)) (hb : boundsF n l g = true) (hg : guardAt ops o = some g)
    (h1 : (ps.all fun x => (preds o).contains x.1 && (dstAt ops x.1).isSome == x.2 && decide (x.1 < i)) = true) (h2 : places ops i = l) (h3 : o.dst.isSome = true) {c : Value}
    (hstep : ∀ (xs : Nat → Value) (w : World), Ext w0 w → holdsL Ts xs w ps → ∀ K : Value → World → Prop, (∀ w', Ext w w' → K c w') → givesF P o g (fun s => lookL xs s (slot a0 s) l) w K)
    (hrest : lexAll P ops a0 w0 Ext F (i + 1) rest (Ts ++ [fun v _ => v = c])) : lexAll P ops a0 w0 Ext F i (o :: rest) Ts :=
  ⟨fun v _ => v = c, fun _ _ _ _ h => h, ⟨ps, l, true, h1, h2, h3, fun xs w hw hp K hK => gives_look hn hb hg (hstep xs w hw hp K fun w' hx => hK c w' rfl hx)⟩, hrest⟩

/-- An operation of whose value something is known that lasts. -/
theorem lexf_says {n : Nat} (hn : a0.tmps.size = n) (T : Value → World → Prop) (hT : ∀ v w w', Ext w w' → T v w → T v w') (ps : List (Nat × Bool)) (l : List (Tmp × Nat)) (g : Option (Tmp × Bool)) (hb : boundsF n l g = true) (hg : guardAt ops o = some g)
    (h1 : (ps.all fun x => (preds o).contains x.1 && (dstAt ops x.1).isSome == x.2 && decide (x.1 < i)) = true) (h2 : places ops i = l) (h3 : o.dst.isSome = true)
    (hstep : ∀ (xs : Nat → Value) (w : World), Ext w0 w → holdsL Ts xs w ps → ∀ K : Value → World → Prop, (∀ v w', T v w' → Ext w w' → K v w') → givesF P o g (fun s => lookL xs s (slot a0 s) l) w K)
    (hrest : lexAll P ops a0 w0 Ext F (i + 1) rest (Ts ++ [T])) : lexAll P ops a0 w0 Ext F i (o :: rest) Ts :=
  ⟨T, hT, ⟨ps, l, true, h1, h2, h3, fun xs w hw hp K hK => gives_look hn hb hg (hstep xs w hw hp K fun v w' hv hx => hK v w' hv hx)⟩, hrest⟩

/-- An operation without a value, of whose world something is known that lasts. -/
theorem lexf_none {n : Nat} (hn : a0.tmps.size = n) (T : World → Prop) (hT : ∀ w w', Ext w w' → T w → T w') (ps : List (Nat × Bool)) (l : List (Tmp × Nat)) (g : Option (Tmp × Bool)) (hb : boundsF n l g = true) (hg : guardAt ops o = some g)
    (h1 : (ps.all fun x => (preds o).contains x.1 && (dstAt ops x.1).isSome == x.2 && decide (x.1 < i)) = true) (h2 : places ops i = l) (h3 : o.dst.isSome = false)
    (hstep : ∀ (xs : Nat → Value) (w : World), Ext w0 w → holdsL Ts xs w ps → ∀ K : Value → World → Prop, (∀ v w', T w' → Ext w w' → K v w') → givesF P o g (fun s => lookL xs s (slot a0 s) l) w K)
    (hrest : lexAll P ops a0 w0 Ext F (i + 1) rest (Ts ++ [fun _ w => T w])) : lexAll P ops a0 w0 Ext F i (o :: rest) Ts :=
  ⟨fun _ w => T w, fun _ w w' hx h => hT w w' hx h, ⟨ps, l, false, h1, h2, h3, fun xs w hw hp K hK => gives_look hn hb hg (hstep xs w hw hp K fun v w' hv hx => hK v w' hv hx)⟩, hrest⟩
end

/-- The law, with a name for the frame. -/
theorem wp_region_ext_named {P : Program} {ops : Array Oper} {a0 : Act} {w0 : World} {id : Nat} {Q : Exit → Act → World → Prop} (hm : P.follows .mixedOrders = true) (N : Nat) (Ext : World → World → Prop)
    (h0 : Ext w0.drew w0.drew) (htr : ∀ u v w, Ext u v → Ext v w → Ext u w)
    (hsh : shaped ops a0.tmps.size N = true)
    (l : List (Tmp × Nat)) (hl : placesTo ops N = l) (al : List (Nat × Bool)) (hal : (al.all fun x => decide (x.1 < N) && (dstAt ops x.1).isSome == x.2) = true) {first last : List Oper} (hf : ops.toList.take N = first) (ht : ops.toList.drop N = last)
    (h : ∀ a, a = a0 → lexAll P ops a w0.drew Ext (fun Ts => ∀ (xs : Nat → Value) (w : World), Ext w0.drew w → holdsL Ts xs w al → wpList P ops Q last (putAll xs l a) w) 0 first []) :
    (Code.region id ops true).wp P Q a0 w0 := by
  refine wp_region_lex hm N Ext hsh h0 htr l hl first last hf ht ?_
  exact lexAll_mono (fun Ts hTs xs w hw hv => hTs xs w hw (holdsL_all hv al hal)) _ _ _ (h a0 rfl)
theorem wp_region_grow_named {P : Program} {ops : Array Oper} {a0 : Act} {w0 : World} {id : Nat} {Q : Exit → Act → World → Prop} (hm : P.follows .mixedOrders = true) (N : Nat)
    (hsh : shaped ops a0.tmps.size N = true)
    (l : List (Tmp × Nat)) (hl : placesTo ops N = l) (al : List (Nat × Bool)) (hal : (al.all fun x => decide (x.1 < N) && (dstAt ops x.1).isSome == x.2) = true) {first last : List Oper} (hf : ops.toList.take N = first) (ht : ops.toList.drop N = last)
    (h : ∀ a, a = a0 → lexAll P ops a w0.drew Grow (fun Ts => ∀ (xs : Nat → Value) (w : World), Grow w0.drew w → holdsL Ts xs w al → wpList P ops Q last (putAll xs l a) w) 0 first []) :
    (Code.region id ops true).wp P Q a0 w0 :=
  wp_region_ext_named hm N Grow (Grow.refl _) (fun _ _ _ => Grow.trans) hsh l hl al hal hf ht h

end Go.Proofs.Ytgijmlienolhpaa
