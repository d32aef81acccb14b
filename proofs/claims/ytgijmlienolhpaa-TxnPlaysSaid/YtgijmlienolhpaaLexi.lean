
/- Regions that draw, in which two operations change what is known of the world, each once. -/
import Derived.Test.YtgijmlienolhpaaLexm
namespace Go.Proofs.Ytgijmlienolhpaa
open Go.RowKit

section
variable {P : Program} {ops : Array Oper} {N : Nat} {a0 : Act} {w0 : World} {mA mB : Nat} {inv : Bool → Bool → World → Prop} {T : Nat → Value → World → Prop} {Ext : World → World → Prop} {L : Array Bool} {a : Act} {w : World}

/-- The state within: what is known of the world goes by which of the two has been. -/
def UnderI (P : Program) (ops : Array Oper) (N : Nat) (a0 : Act) (w0 : World) (mA mB : Nat) (inv : Bool → Bool → World → Prop) (T : Nat → Value → World → Prop) (Ext : World → World → Prop) (L : Array Bool) (a : Act) (w : World) : Prop :=
  Under P ops N a0 w0 T Ext L a w ∧ inv (L.getD mA false) (L.getD mB false) w
/-- What is asked of operation i. -/
def stepAtI (P : Program) (ops : Array Oper) (a0 : Act) (w0 : World) (mA mB : Nat) (inv : Bool → Bool → World → Prop) (T : Nat → Value → World → Prop) (Ext : World → World → Prop) (i : Nat) (o : Oper) : Prop :=
  ∀ (xs : Nat → Value) (w : World) (bA bB : Bool), Ext w0 w → inv bA bB w → (i = mA → bA = false) → (i = mB → bB = false) → (∀ j ∈ preds o, T j (dv (dstAt ops j) (xs j)) w) →
    ∀ K : Value → World → Prop, (∀ v w', T i (dv o.dst v) w' → Ext w w' → inv (bA || i == mA) (bB || i == mB) w' → K v w') → gives P ops o (frm ops i xs a0) w K

theorem getD_false {L : Array Bool} {j : Nat} (h : j < L.size) (d d' : Bool) : L.getD j d = L.getD j d' := by simp [Array.getD, h]
theorem inv_done {L : Array Bool} (h : inv (L.getD mA false) (L.getD mB false) w) (hA : mA < L.size) (hB : mB < L.size) (h1 : L.getD mA true = true) (h2 : L.getD mB true = true) : inv true true w := by
  rw [getD_false hA false true, getD_false hB false true, h1, h2] at h; exact h

theorem wpOp_stepI {Q' : Exit → Act → World → Prop} {i : Nat} (hs : ∀ j s, dstAt ops j = some s → s < a0.tmps.size) (hd : ∀ j k s, j ≠ k → dstAt ops j = some s → dstAt ops k ≠ some s)
    (_hlt : ∀ j o, ops[j]? = some o → ∀ k ∈ preds o, k < j) (hA : mA < N) (hB : mB < N) (hNs : N ≤ ops.size) (hse : ∀ j v w w', Ext w w' → T j v w → T j v w') (htr : ∀ u v w, Ext u v → Ext v w → Ext u w)
    (hall : ∀ i o, i < N → ops[i]? = some o → stepAtI P ops a0 w0 mA mB inv T Ext i o)
    (hM : UnderI P ops N a0 w0 mA mB inv T Ext L a w) (hi : i ∈ Region.ready .any ops L) (hN : i < N) :
    wpOp P ops Q' i (fun a' w' => UnderI P ops N a0 w0 mA mB inv T Ext (L.setIfInBounds i true) a' w') a w := by
  obtain ⟨o, ho, hl, hp⟩ := ready_iff.1 hi
  have h := hM.1
  have hset : ∀ j, j < N → (L.setIfInBounds i true).getD j false = (L.getD j false || i == j) := by
    intro j hj
    have hjl : j < L.size := by rw [h.lsize]; omega
    have hil : i < L.size := by rw [h.lsize]; omega
    simp only [Array.getD_eq_getD_getElem?]
    by_cases hji : i = j
    · subst hji; simp [hil]
    · rw [Array.getElem?_setIfInBounds_ne hji]; simp [hji]
  have hfl : ∀ j, j < N → i = j → L.getD j false = false := by
    rintro j hj rfl
    rw [getD_false (by rw [h.lsize]; omega) false true]; exact hl
  have hdone : ∀ j ∈ preds o, j < ops.size ∧ L.getD j true = true := by
    intro j hj
    have h1 := hp j hj
    have hjl : j < L.size := by
      rcases Nat.lt_or_ge j L.size with h' | h'
      · exact h'
      · rw [Array.getD_eq_getD_getElem?, Array.getElem?_eq_none h'] at h1; simp at h1
    exact ⟨h.lsize ▸ hjl, by simpa [Array.getD, hjl] using h1⟩
  unfold wpOp
  simp only [ho]
  have hg := hall i o hN ho (fun j => valAt a (dstAt ops j)) w (L.getD mA false) (L.getD mB false) h.ext hM.2 (hfl mA hA) (hfl mB hB) (fun j hj => by
    rw [dv_valAt]
    exact h.vals j (hdone j hj).1 (hdone j hj).2)
    (fun v w' => UnderI P ops N a0 w0 mA mB inv T Ext (L.setIfInBounds i true) (a.put o.dst v) w')
    (fun v w' hv hx hu => ⟨under_stepM hs hd h ho hl hp hN (htr _ _ _ h.ext hx) (fun j hj hl => hse j _ _ _ hx (h.vals j hj hl)) hv, by rw [hset mA hA, hset mB hB]; exact hu⟩)
  rw [frm_eq hs h hl] at hg
  have := upon_of_gives (P := P) (Q' := Q') (K := fun a' w' => UnderI P ops N a0 w0 mA mB inv T Ext (L.setIfInBounds i true) a' w') hg
  split
  · rename_i hw; rw [if_pos hw] at this; exact .inl this
  · rename_i hw; rw [if_neg hw] at this; exact this

theorem wpAny_relI {Q : Exit → Act → World → Prop} (hs : ∀ j s, dstAt ops j = some s → s < a0.tmps.size) (hd : ∀ j k s, j ≠ k → dstAt ops j = some s → dstAt ops k ≠ some s)
    (hN : N ≤ ops.size) (hcov : ∀ i, N ≤ i → i < ops.size → ∀ j, j < i → j ∈ covered ops i i)
    (hlt : ∀ j o, ops[j]? = some o → ∀ k ∈ preds o, k < j) (hA : mA < N) (hB : mB < N) (hse : ∀ j v w w', Ext w w' → T j v w → T j v w') (htr : ∀ u v w, Ext u v → Ext v w → Ext u w)
    (hall : ∀ i o, i < N → ops[i]? = some o → stepAtI P ops a0 w0 mA mB inv T Ext i o)
    (hfin : ∀ (xs : Nat → Value) (w : World), Ext w0 w → inv true true w → (∀ j, j < N → T j (dv (dstAt ops j) (xs j)) w) → wpList P ops Q (ops.toList.drop N) (frmTo ops N xs a0) w) :
    ∀ (fuel : Nat) (L : Array Bool) (a : Act) (w : World), UnderI P ops N a0 w0 mA mB inv T Ext L a w → unl ops L = fuel → wpAny P .any ops Q fuel L a w := by
  intro fuel
  induction fuel with
  | zero =>
    intro L a w hM hu
    have h := hM.1
    have hdone : ∀ k, k < ops.size → L.getD k true = true := by
      intro k hk
      unfold unl at hu
      rw [List.length_eq_zero_iff, List.filter_eq_nil_iff] at hu
      simpa using hu k (List.mem_range.2 hk)
    have hNs : N = ops.size := by
      rcases Nat.lt_or_ge N ops.size with h' | h'
      · have h1 := h.tail N (Nat.le_refl _) h'
        rw [hdone N h'] at h1; cases h1
      · omega
    refine wpAny_tail (N := N) hlt hcov 0 ops.size L a w rfl hN h.lsize (fun j hj d => ?_) ?_
    · have h1 := hdone j hj
      have hj' : j < L.size := by rw [h.lsize]; exact hj
      simp only [Array.getD, hj', dite_true] at h1 ⊢
      rw [h1]; simp [hj]
    · have := hfin _ w h.ext (inv_done hM.2 (by rw [h.lsize]; omega) (by rw [h.lsize]; omega) (hdone mA (by omega)) (hdone mB (by omega))) (fun j hj => by rw [dv_valAt]; exact h.vals j (by omega) (hdone j (by omega)))
      rw [frmTo_eq hs h] at this
      rwa [hNs] at this
  | succ fuel ih =>
    intro L a w hM hu
    have h := hM.1
    by_cases hdone : ∀ k, k < N → L.getD k true = true
    · have hf : fuel + 1 = ops.size - N := by
        rw [← hu]; unfold unl
        have e : ((List.range ops.size).filter fun j => !L.getD j true) = (List.range ops.size).filter fun j => decide (N ≤ j) := by
          refine List.filter_congr fun j hj => ?_
          have hj := List.mem_range.1 hj
          rcases Nat.lt_or_ge j N with h' | h'
          · rw [hdone j h']; simp; omega
          · rw [h.tail j h' hj]; simp [h']
        rw [e]
        have e2 : ∀ n, ((List.range n).filter fun j => decide (N ≤ j)).length = n - N := by
          intro n
          induction n with
          | zero => simp
          | succ n ihn => rw [List.range_succ, List.filter_append, List.length_append, ihn, List.filter_cons]; split <;> simp at * <;> omega
        exact e2 _
      refine wpAny_tail (N := N) hlt hcov (fuel + 1) N L a w (by omega) (Nat.le_refl _) h.lsize (fun j hj d => ?_) ?_
      · have hj' : j < L.size := by rw [h.lsize]; exact hj
        rcases Nat.lt_or_ge j N with h' | h'
        · have h1 := hdone j h'
          simp only [Array.getD, hj', dite_true] at h1 ⊢
          rw [h1]; simp [h']
        · have h1 := h.tail j h' hj
          simp only [Array.getD, hj', dite_true] at h1 ⊢
          rw [h1]; simp; omega
      · have := hfin _ w h.ext (inv_done hM.2 (by rw [h.lsize]; omega) (by rw [h.lsize]; omega) (hdone mA hA) (hdone mB hB)) (fun j hj => by rw [dv_valAt]; exact h.vals j (by omega) (hdone j hj))
        rwa [frmTo_eq hs h] at this
    · have hsome : ∀ k, k < ops.size → L.getD k true = false → ∃ i, i ∈ Region.ready .any ops L := by
        intro k
        induction k using Nat.strongRecOn with
        | _ k ihk =>
          intro hk hl
          have hok : ops[k]? = some ops[k] := by simp [hk]
          by_cases hp : ∀ j ∈ preds ops[k], L.getD j false = true
          · exact ⟨k, ready_iff.2 ⟨_, hok, hl, hp⟩⟩
          · simp only [Classical.not_forall] at hp
            obtain ⟨j, hj, hjl⟩ := hp
            have hjk := hlt k _ hok j hj
            have hj' : j < L.size := by rw [h.lsize]; omega
            refine ihk j hjk (by omega) ?_
            simp only [Array.getD, hj', dite_true] at hjl ⊢
            simpa using hjl
      simp only [Classical.not_forall] at hdone
      obtain ⟨k, hkN, hkl⟩ := hdone
      have hkl' : L.getD k true = false := by simpa using hkl
      obtain ⟨i0, hi0⟩ := hsome k (by omega) hkl'
      refine ⟨fun h0 => (by rw [h0] at hi0; cases hi0), fun i hi => ?_⟩
      obtain ⟨o, ho, hl, hp⟩ := ready_iff.1 hi
      have hi' : i < ops.size := by
        rcases Nat.lt_or_ge i ops.size with h | h
        · exact h
        · simp [Array.getElem?_eq_none h] at ho
      have hiN : i < N := by
        rcases Nat.lt_or_ge i N with h' | h'
        · exact h'
        · exfalso
          have h3 := covered_listed ho hp h.down i k (hcov i h' hi' k (by omega))
          have hk' : k < L.size := by rw [h.lsize]; omega
          simp only [Array.getD, hk', dite_true] at h3 hkl'
          rw [h3] at hkl'; cases hkl'
      refine wpOp_mono (fun a' w' hh => ih _ a' w' hh ?_) (wpOp_stepI hs hd hlt hA hB (by omega) hse htr hall hM hi hiN)
      have := unl_set h.lsize hi' hl
      omega


theorem wp_region_relI {id : Nat} {Q : Exit → Act → World → Prop} (hm : P.follows .mixedOrders = true) (N mA mB : Nat) (hA : mA < N) (hB : mB < N) (inv : Bool → Bool → World → Prop) (T : Nat → Value → World → Prop) (Ext : World → World → Prop)
    (hsh : shaped ops a0.tmps.size N = true)
    (h0 : Ext { w0 with drawn := w0.drawn + 1 } { w0 with drawn := w0.drawn + 1 }) (hi0 : inv false false { w0 with drawn := w0.drawn + 1 })
    (hse : ∀ j v w w', Ext w w' → T j v w → T j v w') (htr : ∀ u v w, Ext u v → Ext v w → Ext u w)
    (hall : allFrom (stepAtI P ops a0 { w0 with drawn := w0.drawn + 1 } mA mB inv T Ext) 0 (ops.toList.take N))
    (hfin : ∀ (xs : Nat → Value) (w : World), Ext { w0 with drawn := w0.drawn + 1 } w → inv true true w → (∀ j, j < N → T j (dv (dstAt ops j) (xs j)) w) → wpList P ops Q (ops.toList.drop N) (frmTo ops N xs a0) w) :
    (Code.region id ops true).wp P Q a0 w0 := by
  unfold shaped at hsh
  simp only [Bool.and_eq_true, List.all_eq_true, decide_eq_true_eq, List.mem_range] at hsh
  obtain ⟨⟨⟨⟨h1, h2⟩, h3⟩, h4⟩, h5⟩ := hsh
  refine wp_region_any hm ?_
  have hs : ∀ j s, dstAt ops j = some s → s < a0.tmps.size := by
    intro j s hjs
    unfold dstAt at hjs
    cases ho : ops[j]? with
    | none => rw [ho] at hjs; simp at hjs
    | some o =>
      rw [ho] at hjs
      have := h3 o (Array.mem_toList_iff.2 (Array.mem_of_getElem? ho))
      have hd : o.dst = some s := by simpa using hjs
      rw [hd] at this
      simpa using this
  have hd : ∀ j k s, j ≠ k → dstAt ops j = some s → dstAt ops k ≠ some s := by
    have conv : ∀ j s, dstAt ops j = some s ↔ (ops.toList.map (·.dst))[j]? = some (some s) := by
      intro j s
      unfold dstAt
      rw [List.getElem?_map, Array.getElem?_toList]
      cases ops[j]? <;> simp
    intro j k s hjk hj hk
    exact distinct_spec _ h2 j k s hjk ((conv j s).1 hj) ((conv k s).1 hk)
  refine wpAny_relI hs hd h4 ?_ ?_ hA hB hse htr (fun i o hi ho => allFrom_of hall hi ho) hfin ops.size _ a0 _ ?_ ?_
  · intro i hNi hi j hj
    have := h5 (i - N) (by omega) j (by omega)
    rw [show N + (i - N) = i from by omega] at this
    simpa using this
  · intro j o ho k hk
    have hmem : (o, j) ∈ ops.toList.zipIdx := List.mem_zipIdx_iff_getElem?.2 (by simpa using ho)
    exact h1 _ hmem k hk
  · have hrep : ∀ j, j < ops.size → (Array.replicate ops.size false).getD j true = false := by intro j hj; simp [Array.getD, hj]
    refine ⟨⟨by simp, rfl, rfl, h0, fun _ _ => rfl, fun j hj hl => ?_, fun j o ho hl => ?_, fun j _ hj => hrep j hj⟩, ?_⟩
    · rw [hrep j hj] at hl; cases hl
    · have hj : j < ops.size := by
        rcases Nat.lt_or_ge j ops.size with h | h
        · exact h
        · simp [Array.getElem?_eq_none h] at ho
      rw [hrep j hj] at hl; cases hl
    · have hf : ∀ j, (Array.replicate ops.size false).getD j false = false := by
        intro j
        by_cases hj : j < ops.size
        · simp [Array.getD, hj]
        · simp [Array.getD, hj]
      rw [hf, hf]; exact hi0
  · unfold unl
    rw [List.filter_eq_self.2 (fun j hj => by simp [Array.getD, List.mem_range.1 hj]), List.length_range]

end

/-- The walk over the operations, each with what is said of its value. -/
def lexAllI (P : Program) (ops : Array Oper) (a0 : Act) (w0 : World) (mA mB : Nat) (inv : Bool → Bool → World → Prop) (Ext : World → World → Prop) (F : List (Value → World → Prop) → Prop) : Nat → List Oper → List (Value → World → Prop) → Prop
  | _, [], Ts => F Ts
  | i, o :: rest, Ts => ∃ T : Value → World → Prop, (∀ v w w', Ext w w' → T v w → T v w') ∧
      (∃ (ps : List (Nat × Bool)) (l : List (Tmp × Nat)) (b : Bool), (ps.all fun x => (preds o).contains x.1 && (dstAt ops x.1).isSome == x.2 && decide (x.1 < i)) = true ∧ places ops i = l ∧ o.dst.isSome = b ∧
        ∀ (xs : Nat → Value) (w : World) (bA bB : Bool), Ext w0 w → inv bA bB w → (i = mA → bA = false) → (i = mB → bB = false) → holdsL Ts xs w ps → ∀ K : Value → World → Prop, (∀ v w', T (if b then v else undef) w' → Ext w w' → inv (bA || i == mA) (bB || i == mB) w' → K v w') → gives P ops o (putAll xs l a0) w K) ∧
      lexAllI P ops a0 w0 mA mB inv Ext F (i + 1) rest (Ts ++ [T])

theorem lexAllI_spec {P : Program} {ops : Array Oper} {a0 : Act} {w0 : World} {mA mB : Nat} {inv : Bool → Bool → World → Prop} {Ext : World → World → Prop} {F : List (Value → World → Prop) → Prop} :
    ∀ (rest : List Oper) (i : Nat) (Ts : List (Value → World → Prop)), Ts.length = i → lexAllI P ops a0 w0 mA mB inv Ext F i rest Ts →
      ∃ Tn, F (Ts ++ Tn) ∧ (∀ T ∈ Tn, ∀ v w w', Ext w w' → T v w → T v w') ∧
        allFrom (stepAtI P ops a0 w0 mA mB inv (fun j => (Ts ++ Tn).getD j fun _ _ => True) Ext) i rest
  | [], i, Ts, _, h => ⟨[], by simpa [lexAllI] using h, by simp, trivial⟩
  | o :: rest, i, Ts, hl, h => by
    obtain ⟨T, hse, ⟨ps, l, b, h1, h2, h3, h4⟩, h5⟩ := h
    obtain ⟨Tn, hF, hsen, hall⟩ := lexAllI_spec rest (i + 1) (Ts ++ [T]) (by simp [hl]) h5
    refine ⟨T :: Tn, by simpa using hF, ?_, ?_, ?_⟩
    · intro T' hT'
      rcases List.mem_cons.1 hT' with rfl | hT'
      · exact hse
      · exact hsen T' hT'
    · intro xs w bA bB hw hin ha hb hp K hK
      rw [frm_places, h2]
      refine h4 xs w bA bB hw hin ha hb (holdsL_of (T := fun j => (Ts ++ T :: Tn).getD j fun _ _ => True) (fun j hj => ?_) hp ps h1) K fun v w' hv hx hu => hK v w' ?_ hx hu
      · simp only [List.getD_eq_getElem?_getD]
        rw [List.getElem?_append_left (by omega)]
      · have e : ((Ts ++ T :: Tn).getD i fun _ _ => True) = T := by
          rw [List.getD_eq_getElem?_getD, List.getElem?_append_right (by omega), hl, Nat.sub_self]; rfl
        show ((Ts ++ T :: Tn).getD i fun _ _ => True) _ _
        rw [e]
        cases hd : o.dst with
        | none => rw [hd] at h3; subst h3; exact hv
        | some d => rw [hd] at h3; subst h3; exact hv
    · simpa using hall

theorem wp_region_i_named {P : Program} {ops : Array Oper} {a0 : Act} {w0 : World} {id : Nat} {Q : Exit → Act → World → Prop} (hm : P.follows .mixedOrders = true) (N mA mB : Nat) (hA : mA < N) (hB : mB < N) (inv : Bool → Bool → World → Prop) (Ext : World → World → Prop)
    (h0 : Ext w0.drew w0.drew) (hi0 : inv false false w0.drew) (htr : ∀ u v w, Ext u v → Ext v w → Ext u w)
    (hsh : shaped ops a0.tmps.size N = true)
    (l : List (Tmp × Nat)) (hl : placesTo ops N = l) (al : List (Nat × Bool)) (hal : (al.all fun x => decide (x.1 < N) && (dstAt ops x.1).isSome == x.2) = true) {first last : List Oper} (hf : ops.toList.take N = first) (ht : ops.toList.drop N = last)
    (h : ∀ a, a = a0 → lexAllI P ops a w0.drew mA mB inv Ext (fun Ts => ∀ (xs : Nat → Value) (w : World), Ext w0.drew w → inv true true w → holdsL Ts xs w al → wpList P ops Q last (putAll xs l a) w) 0 first []) :
    (Code.region id ops true).wp P Q a0 w0 := by
  obtain ⟨Tn, hF, hse, hall⟩ := lexAllI_spec _ 0 [] rfl (h a0 rfl)
  rw [List.nil_append] at hF hall
  refine wp_region_relI hm N mA mB hA hB inv (fun j => Tn.getD j fun _ _ => True) Ext hsh h0 hi0 ?_ htr ?_ ?_
  · intro j v w w' hx hv
    rcases Nat.lt_or_ge j Tn.length with hj | hj
    · simp only [List.getD_eq_getElem?_getD, List.getElem?_eq_getElem hj, Option.getD_some] at hv ⊢
      exact hse _ (List.getElem_mem hj) v w w' hx hv
    · simp only [List.getD_eq_getElem?_getD, List.getElem?_eq_none hj, Option.getD_none]
  · rw [hf]; exact hall
  · intro xs w hx hu hv
    rw [ht, frmTo_places, hl]
    exact hF xs w hx hu (holdsL_all hv al hal)

section
variable {P : Program} {ops : Array Oper} {a0 : Act} {w0 : World} {mA mB : Nat} {inv : Bool → Bool → World → Prop} {Ext : World → World → Prop} {F : List (Value → World → Prop) → Prop} {i : Nat} {o : Oper} {rest : List Oper} {Ts : List (Value → World → Prop)}

/-- An operation that changes nothing, of which a value is known. -/
theorem lexi_eq {n : Nat} (hn : a0.tmps.size = n) (ps : List (Nat × Bool)) (l : List (Tmp × Nat)) (g : Option (Tmp × Bool)) (hb : boundsF n l g = true) (hg : guardAt ops o = some g)
    (h1 : (ps.all fun x => (preds o).contains x.1 && (dstAt ops x.1).isSome == x.2 && decide (x.1 < i)) = true) (h2 : places ops i = l) (h3 : o.dst.isSome = true) (hA : i ≠ mA) (hB : i ≠ mB) (hrefl : ∀ w, Ext w w) {c : Value}
    (hstep : ∀ (xs : Nat → Value) (w : World), Ext w0 w → holdsL Ts xs w ps → ∀ K : Value → World → Prop, K c w → givesF P o g (fun s => lookL xs s (slot a0 s) l) w K)
    (hrest : lexAllI P ops a0 w0 mA mB inv Ext F (i + 1) rest (Ts ++ [fun v _ => v = c])) : lexAllI P ops a0 w0 mA mB inv Ext F i (o :: rest) Ts :=
  ⟨fun v _ => v = c, fun _ _ _ _ h => h, ⟨ps, l, true, h1, h2, h3, fun xs w bA bB hw hin _ _ hp K hK => gives_look hn hb hg (hstep xs w hw hp K (hK c w rfl (hrefl w) (by rw [beq_false_of_ne hA, beq_false_of_ne hB, Bool.or_false, Bool.or_false]; exact hin)))⟩, hrest⟩

/-- The first of the two that change something; its value is known. -/
theorem lexi_a {n : Nat} (hn : a0.tmps.size = n) (ps : List (Nat × Bool)) (l : List (Tmp × Nat)) (g : Option (Tmp × Bool)) (hb : boundsF n l g = true) (hg : guardAt ops o = some g)
    (h1 : (ps.all fun x => (preds o).contains x.1 && (dstAt ops x.1).isSome == x.2 && decide (x.1 < mA)) = true) (h2 : places ops mA = l) (h3 : o.dst.isSome = true) (hAB : mA ≠ mB) {c : Value}
    (hstep : ∀ (xs : Nat → Value) (w : World) (bB : Bool), Ext w0 w → inv false bB w → holdsL Ts xs w ps → ∀ K : Value → World → Prop, (∀ w', Ext w w' → inv true bB w' → K c w') → givesF P o g (fun s => lookL xs s (slot a0 s) l) w K)
    (hrest : lexAllI P ops a0 w0 mA mB inv Ext F (mA + 1) rest (Ts ++ [fun v _ => v = c])) : lexAllI P ops a0 w0 mA mB inv Ext F mA (o :: rest) Ts :=
  ⟨fun v _ => v = c, fun _ _ _ _ h => h, ⟨ps, l, true, h1, h2, h3, fun xs w bA bB hw hin ha _ hp K hK => gives_look hn hb hg (hstep xs w bB hw (by rw [← ha rfl]; exact hin) hp K fun w' hx hi => hK c w' rfl hx (by rw [beq_false_of_ne hAB, Bool.or_false, beq_self_eq_true, Bool.or_true]; exact hi))⟩, hrest⟩
/-- The second. -/
theorem lexi_b {n : Nat} (hn : a0.tmps.size = n) (ps : List (Nat × Bool)) (l : List (Tmp × Nat)) (g : Option (Tmp × Bool)) (hb : boundsF n l g = true) (hg : guardAt ops o = some g)
    (h1 : (ps.all fun x => (preds o).contains x.1 && (dstAt ops x.1).isSome == x.2 && decide (x.1 < mB)) = true) (h2 : places ops mB = l) (h3 : o.dst.isSome = true) (hBA : mB ≠ mA) {c : Value}
    (hstep : ∀ (xs : Nat → Value) (w : World) (bA : Bool), Ext w0 w → inv bA false w → holdsL Ts xs w ps → ∀ K : Value → World → Prop, (∀ w', Ext w w' → inv bA true w' → K c w') → givesF P o g (fun s => lookL xs s (slot a0 s) l) w K)
    (hrest : lexAllI P ops a0 w0 mA mB inv Ext F (mB + 1) rest (Ts ++ [fun v _ => v = c])) : lexAllI P ops a0 w0 mA mB inv Ext F mB (o :: rest) Ts :=
  ⟨fun v _ => v = c, fun _ _ _ _ h => h, ⟨ps, l, true, h1, h2, h3, fun xs w bA bB hw hin _ hb' hp K hK => gives_look hn hb hg (hstep xs w bA hw (by rw [← hb' rfl]; exact hin) hp K fun w' hx hi => hK c w' rfl hx (by rw [beq_false_of_ne hBA, Bool.or_false, beq_self_eq_true, Bool.or_true]; exact hi))⟩, hrest⟩
end

end Go.Proofs.Ytgijmlienolhpaa
