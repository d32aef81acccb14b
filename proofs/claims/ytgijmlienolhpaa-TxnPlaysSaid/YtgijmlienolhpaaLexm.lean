
/- Regions that draw, in which one operation changes what others made: what was known of that holds until then. -/
import Derived.Test.YtgijmlienolhpaaLexf
namespace Go.Proofs.Ytgijmlienolhpaa
open Go.RowKit

section
variable {P : Program} {ops : Array Oper} {N : Nat} {a0 : Act} {w0 : World} {m : Nat} {late : Nat → Bool} {T U : Nat → Value → World → Prop} {Ext : World → World → Prop} {L : Array Bool} {a : Act} {w : World}

/-- The state within: T holds for good, U until operation m. -/
def UnderM (P : Program) (ops : Array Oper) (N : Nat) (a0 : Act) (w0 : World) (m : Nat) (T U : Nat → Value → World → Prop) (Ext : World → World → Prop) (L : Array Bool) (a : Act) (w : World) : Prop :=
  Under P ops N a0 w0 T Ext L a w ∧ (L.getD m true = false → ∀ j, j < ops.size → L.getD j true = true → U j (valAt a (dstAt ops j)) w)

/-- What is asked of operation i: of m more is known, and it may do more. -/
def stepAtM (P : Program) (ops : Array Oper) (a0 : Act) (w0 : World) (m : Nat) (T U : Nat → Value → World → Prop) (Ext : World → World → Prop) (i : Nat) (o : Oper) : Prop :=
  ∀ (xs : Nat → Value) (w : World), Ext w0 w → (∀ j ∈ preds o, T j (dv (dstAt ops j) (xs j)) w) → (i = m → ∀ j ∈ preds o, U j (dv (dstAt ops j) (xs j)) w) →
    ∀ K : Value → World → Prop, (∀ v w', T i (dv o.dst v) w' → (i = m → Ext w w') → (i ≠ m → U i (dv o.dst v) w' ∧ Grow w w') → K v w') → gives P ops o (frm ops i xs a0) w K

/-- One operation more. -/
theorem under_stepM {i : Nat} {o : Oper} {v : Value} {w' : World} (hs : ∀ j s, dstAt ops j = some s → s < a0.tmps.size) (hd : ∀ j k s, j ≠ k → dstAt ops j = some s → dstAt ops k ≠ some s)
    (h : Under P ops N a0 w0 T Ext L a w) (ho : ops[i]? = some o) (hi : L.getD i true = false) (hp : ∀ k ∈ preds o, L.getD k false = true) (hN : i < N)
    (hx : Ext w0 w') (hkeep : ∀ j, j < ops.size → L.getD j true = true → T j (valAt a (dstAt ops j)) w') (hv : T i (dv o.dst v) w') : Under P ops N a0 w0 T Ext (L.setIfInBounds i true) (a.put o.dst v) w' := by
  have hil : i < L.size := by
    rcases Nat.lt_or_ge i L.size with h' | h'
    · exact h'
    · rw [Array.getD_eq_getD_getElem?, Array.getElem?_eq_none h'] at hi; simp at hi
  have hdi : dstAt ops i = o.dst := by simp [dstAt, ho]
  have hset : ∀ j d, (L.setIfInBounds i true).getD j d = if j = i then true else L.getD j d := by
    intro j d
    simp only [Array.getD_eq_getD_getElem?]
    by_cases hj : j = i
    · subst hj; simp [hil]
    · rw [Array.getElem?_setIfInBounds_ne (fun e => hj e.symm), if_neg hj]
  refine ⟨by simp [h.lsize], by rw [put_size, h.size], by rw [put_defers', h.defers], hx, ?_, ?_, ?_, ?_⟩
  · intro s hns
    rw [put_other _ _ _ _ (by have := hns i (h.lsize ▸ hil) (by rw [hset, if_pos rfl]); rwa [hdi] at this)]
    refine h.other s fun j hj hl => hns j hj ?_
    rw [hset]; split <;> simp [hl]
  · intro j hj hl
    by_cases hji : j = i
    · subst hji
      rw [hdi, put_same _ _ _ (fun s hs' => by rw [h.size]; exact hs j s (hdi.trans hs'))]
      exact hv
    · rw [hset, if_neg hji] at hl
      rw [put_valAt _ _ _ _ (fun s hs' => hd i j s (fun e => hji e.symm) (hdi.trans hs'))]
      exact hkeep j hj hl
  · intro j o' ho' hl k hk
    rw [hset]
    split
    · rfl
    · by_cases hji : j = i
      · subst hji
        rw [ho] at ho'
        cases ho'
        exact hp k hk
      · rw [hset, if_neg hji] at hl
        exact h.down j o' ho' hl k hk
  · intro j hNj hj
    rw [hset, if_neg (by omega)]
    exact h.tail j hNj hj

theorem late_not (hlt : ∀ j o, ops[j]? = some o → ∀ k ∈ preds o, k < j) (hla : ∀ j o, ops[j]? = some o → late j = true → j = m ∨ ∃ k ∈ preds o, late k = true) (h : Under P ops N a0 w0 T Ext L a w) (hm : L.getD m true = false) :
    ∀ j, j < ops.size → L.getD j true = true → late j = false := by
  intro j
  induction j using Nat.strongRecOn with
  | _ j ih =>
    intro hj hl
    cases hc : late j with
    | false => rfl
    | true =>
      have ho : ops[j]? = some ops[j] := by simp [hj]
      rcases hla j _ ho hc with rfl | ⟨k, hk, hkl⟩
      · rw [hm] at hl; cases hl
      · have h1 := h.down j _ ho hl k hk
        have hkj := hlt j _ ho k hk
        have hk' : k < L.size := by rw [h.lsize]; omega
        have := ih k hkj (by omega) (by simp only [Array.getD, hk', dite_true] at h1 ⊢; exact h1)
        rw [hkl] at this; cases this

theorem underM_step {i : Nat} {o : Oper} {v : Value} {w' : World} (hs : ∀ j s, dstAt ops j = some s → s < a0.tmps.size) (hd : ∀ j k s, j ≠ k → dstAt ops j = some s → dstAt ops k ≠ some s)
    (hlt : ∀ j o, ops[j]? = some o → ∀ k ∈ preds o, k < j) (hla : ∀ j o, ops[j]? = some o → late j = true → j = m ∨ ∃ k ∈ preds o, late k = true) (hsg : ∀ j v w w', Grow w w' → T j v w → T j v w') (hse : ∀ j, late j = false → ∀ v w w', Ext w w' → T j v w → T j v w') (hsu : ∀ j v w w', Grow w w' → U j v w → U j v w') (hge : ∀ u v, Grow u v → Ext u v) (htr : ∀ u v w, Ext u v → Ext v w → Ext u w)
    (hM : UnderM P ops N a0 w0 m T U Ext L a w) (ho : ops[i]? = some o) (hi : L.getD i true = false) (hp : ∀ k ∈ preds o, L.getD k false = true) (hN : i < N)
    (hv : T i (dv o.dst v) w') (hx : i = m → Ext w w') (hu : i ≠ m → U i (dv o.dst v) w' ∧ Grow w w') : UnderM P ops N a0 w0 m T U Ext (L.setIfInBounds i true) (a.put o.dst v) w' := by
  have h := hM.1
  have hxx : Ext w w' := by
    by_cases e : i = m
    · exact hx e
    · exact hge _ _ (hu e).2
  refine ⟨under_stepM hs hd h ho hi hp hN (htr _ _ _ h.ext hxx) (fun j hj hl => ?_) hv, ?_⟩
  · by_cases e : i = m
    · exact hse j (late_not hlt hla h (by rw [← e]; exact hi) j hj hl) _ _ _ hxx (h.vals j hj hl)
    · exact hsg j _ _ _ (hu e).2 (h.vals j hj hl)
  have hil : i < L.size := by
    rcases Nat.lt_or_ge i L.size with h' | h'
    · exact h'
    · rw [Array.getD_eq_getD_getElem?, Array.getElem?_eq_none h'] at hi; simp at hi
  have hdi : dstAt ops i = o.dst := by simp [dstAt, ho]
  have hset : ∀ j d, (L.setIfInBounds i true).getD j d = if j = i then true else L.getD j d := by
    intro j d
    simp only [Array.getD_eq_getD_getElem?]
    by_cases hj : j = i
    · subst hj; simp [hil]
    · rw [Array.getElem?_setIfInBounds_ne (fun e => hj e.symm), if_neg hj]
  intro hm j hj hl
  have him : i ≠ m := by
    rintro rfl
    rw [hset, if_pos rfl] at hm
    cases hm
  rw [hset, if_neg (fun e => him e.symm)] at hm
  obtain ⟨hu1, hu2⟩ := hu him
  by_cases hji : j = i
  · subst hji
    rw [hdi, put_same _ _ _ (fun s hs' => by rw [h.size]; exact hs j s (hdi.trans hs'))]
    exact hu1
  · rw [hset, if_neg hji] at hl
    rw [put_valAt _ _ _ _ (fun s hs' => hd i j s (fun e => hji e.symm) (hdi.trans hs'))]
    exact hsu _ _ _ _ hu2 (hM.2 hm j hj hl)

theorem wpOp_stepM {Q' : Exit → Act → World → Prop} {i : Nat} (hs : ∀ j s, dstAt ops j = some s → s < a0.tmps.size) (hd : ∀ j k s, j ≠ k → dstAt ops j = some s → dstAt ops k ≠ some s)
    (hlt : ∀ j o, ops[j]? = some o → ∀ k ∈ preds o, k < j) (hla : ∀ j o, ops[j]? = some o → late j = true → j = m ∨ ∃ k ∈ preds o, late k = true) (hsg : ∀ j v w w', Grow w w' → T j v w → T j v w') (hse : ∀ j, late j = false → ∀ v w w', Ext w w' → T j v w → T j v w') (hsu : ∀ j v w w', Grow w w' → U j v w → U j v w') (hge : ∀ u v, Grow u v → Ext u v) (htr : ∀ u v w, Ext u v → Ext v w → Ext u w)
    (hall : ∀ i o, i < N → ops[i]? = some o → stepAtM P ops a0 w0 m T U Ext i o)
    (hM : UnderM P ops N a0 w0 m T U Ext L a w) (hi : i ∈ Region.ready .any ops L) (hN : i < N) :
    wpOp P ops Q' i (fun a' w' => UnderM P ops N a0 w0 m T U Ext (L.setIfInBounds i true) a' w') a w := by
  obtain ⟨o, ho, hl, hp⟩ := ready_iff.1 hi
  have h := hM.1
  have hdone : ∀ j ∈ preds o, j < ops.size ∧ L.getD j true = true := by
    intro j hj
    have h1 := hp j hj
    have hjl : j < L.size := by
      rcases Nat.lt_or_ge j L.size with h' | h'
      · exact h'
      · rw [Array.getD_eq_getD_getElem?, Array.getElem?_eq_none h'] at h1; simp at h1
    exact ⟨h.lsize ▸ hjl, by simpa [Array.getD, hjl] using h1⟩
  unfold wpOp
  simp only [ho]
  have hg := hall i o hN ho (fun j => valAt a (dstAt ops j)) w h.ext (fun j hj => by
    rw [dv_valAt]
    exact h.vals j (hdone j hj).1 (hdone j hj).2)
    (fun him j hj => by
      rw [dv_valAt]
      exact hM.2 (by rw [← him]; exact hl) j (hdone j hj).1 (hdone j hj).2)
    (fun v w' => UnderM P ops N a0 w0 m T U Ext (L.setIfInBounds i true) (a.put o.dst v) w')
    (fun v w' hv hx hu => underM_step hs hd hlt hla hsg hse hsu hge htr hM ho hl hp hN hv hx hu)
  rw [frm_eq hs h hl] at hg
  have := upon_of_gives (P := P) (Q' := Q') (K := fun a' w' => UnderM P ops N a0 w0 m T U Ext (L.setIfInBounds i true) a' w') hg
  split
  · rename_i hw; rw [if_pos hw] at this; exact .inl this
  · rename_i hw; rw [if_neg hw] at this; exact this

theorem wpAny_relM {Q : Exit → Act → World → Prop} (hs : ∀ j s, dstAt ops j = some s → s < a0.tmps.size) (hd : ∀ j k s, j ≠ k → dstAt ops j = some s → dstAt ops k ≠ some s)
    (hN : N ≤ ops.size) (hcov : ∀ i, N ≤ i → i < ops.size → ∀ j, j < i → j ∈ covered ops i i)
    (hlt : ∀ j o, ops[j]? = some o → ∀ k ∈ preds o, k < j) (hla : ∀ j o, ops[j]? = some o → late j = true → j = m ∨ ∃ k ∈ preds o, late k = true) (hsg : ∀ j v w w', Grow w w' → T j v w → T j v w') (hse : ∀ j, late j = false → ∀ v w w', Ext w w' → T j v w → T j v w') (hsu : ∀ j v w w', Grow w w' → U j v w → U j v w') (hge : ∀ u v, Grow u v → Ext u v) (htr : ∀ u v w, Ext u v → Ext v w → Ext u w)
    (hall : ∀ i o, i < N → ops[i]? = some o → stepAtM P ops a0 w0 m T U Ext i o)
    (hfin : ∀ (xs : Nat → Value) (w : World), Ext w0 w → (∀ j, j < N → T j (dv (dstAt ops j) (xs j)) w) → wpList P ops Q (ops.toList.drop N) (frmTo ops N xs a0) w) :
    ∀ (fuel : Nat) (L : Array Bool) (a : Act) (w : World), UnderM P ops N a0 w0 m T U Ext L a w → unl ops L = fuel → wpAny P .any ops Q fuel L a w := by
  intro fuel
  induction fuel with
  | zero =>
    intro L a w hM hu
    have h := hM.1
    have hdone : ∀ k, k < ops.size → L.getD k true = true := by
      intro k hk
      unfold unl at hu
      rw [List.length_eq_zero_iff, List.filter_eq_nil_iff] at hu
      simpa using hu k (List.mem_range.2 hk)
    have hNs : N = ops.size := by
      rcases Nat.lt_or_ge N ops.size with h' | h'
      · have h1 := h.tail N (Nat.le_refl _) h'
        rw [hdone N h'] at h1; cases h1
      · omega
    refine wpAny_tail (N := N) hlt hcov 0 ops.size L a w rfl hN h.lsize (fun j hj d => ?_) ?_
    · have h1 := hdone j hj
      have hj' : j < L.size := by rw [h.lsize]; exact hj
      simp only [Array.getD, hj', dite_true] at h1 ⊢
      rw [h1]; simp [hj]
    · have := hfin _ w h.ext (fun j hj => by rw [dv_valAt]; exact h.vals j (by omega) (hdone j (by omega)))
      rw [frmTo_eq hs h] at this
      rwa [hNs] at this
  | succ fuel ih =>
    intro L a w hM hu
    have h := hM.1
    by_cases hdone : ∀ k, k < N → L.getD k true = true
    · have hf : fuel + 1 = ops.size - N := by
        rw [← hu]; unfold unl
        have e : ((List.range ops.size).filter fun j => !L.getD j true) = (List.range ops.size).filter fun j => decide (N ≤ j) := by
          refine List.filter_congr fun j hj => ?_
          have hj := List.mem_range.1 hj
          rcases Nat.lt_or_ge j N with h' | h'
          · rw [hdone j h']; simp; omega
          · rw [h.tail j h' hj]; simp [h']
        rw [e]
        have e2 : ∀ n, ((List.range n).filter fun j => decide (N ≤ j)).length = n - N := by
          intro n
          induction n with
          | zero => simp
          | succ n ihn => rw [List.range_succ, List.filter_append, List.length_append, ihn, List.filter_cons]; split <;> simp at * <;> omega
        exact e2 _
      refine wpAny_tail (N := N) hlt hcov (fuel + 1) N L a w (by omega) (Nat.le_refl _) h.lsize (fun j hj d => ?_) ?_
      · have hj' : j < L.size := by rw [h.lsize]; exact hj
        rcases Nat.lt_or_ge j N with h' | h'
        · have h1 := hdone j h'
          simp only [Array.getD, hj', dite_true] at h1 ⊢
          rw [h1]; simp [h']
        · have h1 := h.tail j h' hj
          simp only [Array.getD, hj', dite_true] at h1 ⊢
          rw [h1]; simp; omega
      · have := hfin _ w h.ext (fun j hj => by rw [dv_valAt]; exact h.vals j (by omega) (hdone j hj))
        rwa [frmTo_eq hs h] at this
    · have hsome : ∀ k, k < ops.size → L.getD k true = false → ∃ i, i ∈ Region.ready .any ops L := by
        intro k
        induction k using Nat.strongRecOn with
        | _ k ihk =>
          intro hk hl
          have hok : ops[k]? = some ops[k] := by simp [hk]
          by_cases hp : ∀ j ∈ preds ops[k], L.getD j false = true
          · exact ⟨k, ready_iff.2 ⟨_, hok, hl, hp⟩⟩
          · simp only [Classical.not_forall] at hp
            obtain ⟨j, hj, hjl⟩ := hp
            have hjk := hlt k _ hok j hj
            have hj' : j < L.size := by rw [h.lsize]; omega
            refine ihk j hjk (by omega) ?_
            simp only [Array.getD, hj', dite_true] at hjl ⊢
            simpa using hjl
      simp only [Classical.not_forall] at hdone
      obtain ⟨k, hkN, hkl⟩ := hdone
      have hkl' : L.getD k true = false := by simpa using hkl
      obtain ⟨i0, hi0⟩ := hsome k (by omega) hkl'
      refine ⟨fun h0 => (by rw [h0] at hi0; cases hi0), fun i hi => ?_⟩
      obtain ⟨o, ho, hl, hp⟩ := ready_iff.1 hi
      have hi' : i < ops.size := by
        rcases Nat.lt_or_ge i ops.size with h | h
        · exact h
        · simp [Array.getElem?_eq_none h] at ho
      have hiN : i < N := by
        rcases Nat.lt_or_ge i N with h' | h'
        · exact h'
        · exfalso
          have h3 := covered_listed ho hp h.down i k (hcov i h' hi' k (by omega))
          have hk' : k < L.size := by rw [h.lsize]; omega
          simp only [Array.getD, hk', dite_true] at h3 hkl'
          rw [h3] at hkl'; cases hkl'
      refine wpOp_mono (fun a' w' hh => ih _ a' w' hh ?_) (wpOp_stepM hs hd hlt hla hsg hse hsu hge htr hall hM hi hiN)
      have := unl_set h.lsize hi' hl
      omega


theorem wp_region_relM {id : Nat} {Q : Exit → Act → World → Prop} (hm : P.follows .mixedOrders = true) (N m : Nat) (late : Nat → Bool) (T U : Nat → Value → World → Prop) (Ext : World → World → Prop)
    (hsh : shaped ops a0.tmps.size N = true)
    (h0 : Ext { w0 with drawn := w0.drawn + 1 } { w0 with drawn := w0.drawn + 1 })
    (hla : ∀ j o, ops[j]? = some o → late j = true → j = m ∨ ∃ k ∈ preds o, late k = true) (hsg : ∀ j v w w', Grow w w' → T j v w → T j v w') (hse : ∀ j, late j = false → ∀ v w w', Ext w w' → T j v w → T j v w') (hsu : ∀ j v w w', Grow w w' → U j v w → U j v w') (hge : ∀ u v, Grow u v → Ext u v) (htr : ∀ u v w, Ext u v → Ext v w → Ext u w)
    (hall : allFrom (stepAtM P ops a0 { w0 with drawn := w0.drawn + 1 } m T U Ext) 0 (ops.toList.take N))
    (hfin : ∀ (xs : Nat → Value) (w : World), Ext { w0 with drawn := w0.drawn + 1 } w → (∀ j, j < N → T j (dv (dstAt ops j) (xs j)) w) → wpList P ops Q (ops.toList.drop N) (frmTo ops N xs a0) w) :
    (Code.region id ops true).wp P Q a0 w0 := by
  unfold shaped at hsh
  simp only [Bool.and_eq_true, List.all_eq_true, decide_eq_true_eq, List.mem_range] at hsh
  obtain ⟨⟨⟨⟨h1, h2⟩, h3⟩, h4⟩, h5⟩ := hsh
  refine wp_region_any hm ?_
  have hs : ∀ j s, dstAt ops j = some s → s < a0.tmps.size := by
    intro j s hjs
    unfold dstAt at hjs
    cases ho : ops[j]? with
    | none => rw [ho] at hjs; simp at hjs
    | some o =>
      rw [ho] at hjs
      have := h3 o (Array.mem_toList_iff.2 (Array.mem_of_getElem? ho))
      have hd : o.dst = some s := by simpa using hjs
      rw [hd] at this
      simpa using this
  have hd : ∀ j k s, j ≠ k → dstAt ops j = some s → dstAt ops k ≠ some s := by
    have conv : ∀ j s, dstAt ops j = some s ↔ (ops.toList.map (·.dst))[j]? = some (some s) := by
      intro j s
      unfold dstAt
      rw [List.getElem?_map, Array.getElem?_toList]
      cases ops[j]? <;> simp
    intro j k s hjk hj hk
    exact distinct_spec _ h2 j k s hjk ((conv j s).1 hj) ((conv k s).1 hk)
  refine wpAny_relM hs hd h4 ?_ ?_ hla hsg hse hsu hge htr (fun i o hi ho => allFrom_of hall hi ho) hfin ops.size _ a0 _ ?_ ?_
  · intro i hNi hi j hj
    have := h5 (i - N) (by omega) j (by omega)
    rw [show N + (i - N) = i from by omega] at this
    simpa using this
  · intro j o ho k hk
    have hmem : (o, j) ∈ ops.toList.zipIdx := List.mem_zipIdx_iff_getElem?.2 (by simpa using ho)
    exact h1 _ hmem k hk
  · have hrep : ∀ j, j < ops.size → (Array.replicate ops.size false).getD j true = false := by intro j hj; simp [Array.getD, hj]
    refine ⟨⟨by simp, rfl, rfl, h0, fun _ _ => rfl, fun j hj hl => ?_, fun j o ho hl => ?_, fun j _ hj => hrep j hj⟩, fun _ j hj hl => ?_⟩
    · rw [hrep j hj] at hl; cases hl
    · have hj : j < ops.size := by
        rcases Nat.lt_or_ge j ops.size with h | h
        · exact h
        · simp [Array.getElem?_eq_none h] at ho
      rw [hrep j hj] at hl; cases hl
    · rw [hrep j hj] at hl; cases hl
  · unfold unl
    rw [List.filter_eq_self.2 (fun j hj => by simp [Array.getD, List.mem_range.1 hj]), List.length_range]

end

/-- The walk over the operations, each with what is said of its value: for good (T), and until operation m (U). -/
def lexAllM (P : Program) (ops : Array Oper) (a0 : Act) (w0 : World) (m : Nat) (late : Nat → Bool) (Ext : World → World → Prop) (F : List (Value → World → Prop) → Prop) : Nat → List Oper → List (Value → World → Prop) → List (Value → World → Prop) → Prop
  | _, [], Ts, _ => F Ts
  | i, o :: rest, Ts, Us => ∃ T U : Value → World → Prop, (∀ v w w', Grow w w' → T v w → T v w') ∧ (late i = false → ∀ v w w', Ext w w' → T v w → T v w') ∧ (∀ v w w', Grow w w' → U v w → U v w') ∧
      (∃ (ps : List (Nat × Bool)) (l : List (Tmp × Nat)) (b : Bool), (ps.all fun x => (preds o).contains x.1 && (dstAt ops x.1).isSome == x.2 && decide (x.1 < i)) = true ∧ places ops i = l ∧ o.dst.isSome = b ∧
        ∀ (xs : Nat → Value) (w : World), Ext w0 w → holdsL Ts xs w ps → (i = m → holdsL Us xs w ps) → ∀ K : Value → World → Prop, (∀ v w', T (if b then v else undef) w' → (i = m → Ext w w') → (i ≠ m → U (if b then v else undef) w' ∧ Grow w w') → K v w') → gives P ops o (putAll xs l a0) w K) ∧
      lexAllM P ops a0 w0 m late Ext F (i + 1) rest (Ts ++ [T]) (Us ++ [U])

theorem lexAllM_spec {P : Program} {ops : Array Oper} {a0 : Act} {w0 : World} {m : Nat} {late : Nat → Bool} {Ext : World → World → Prop} {F : List (Value → World → Prop) → Prop} :
    ∀ (rest : List Oper) (i : Nat) (Ts Us : List (Value → World → Prop)), Ts.length = i → Us.length = i → lexAllM P ops a0 w0 m late Ext F i rest Ts Us →
      ∃ Tn Un, F (Ts ++ Tn) ∧ (∀ T ∈ Tn, ∀ v w w', Grow w w' → T v w → T v w') ∧ (∀ j (h : j < Tn.length), late (i + j) = false → ∀ v w w', Ext w w' → Tn[j] v w → Tn[j] v w') ∧ (∀ U ∈ Un, ∀ v w w', Grow w w' → U v w → U v w') ∧
        allFrom (stepAtM P ops a0 w0 m (fun j => (Ts ++ Tn).getD j fun _ _ => True) (fun j => (Us ++ Un).getD j fun _ _ => True) Ext) i rest
  | [], i, Ts, Us, _, _, h => ⟨[], [], by simpa [lexAllM] using h, by simp, by simp, by simp, trivial⟩
  | o :: rest, i, Ts, Us, hl, hlu, h => by
    obtain ⟨T, U, hsg, hse, hsu, ⟨ps, l, b, h1, h2, h3, h4⟩, h5⟩ := h
    obtain ⟨Tn, Un, hF, hsgn, hsen, hsun, hall⟩ := lexAllM_spec rest (i + 1) (Ts ++ [T]) (Us ++ [U]) (by simp [hl]) (by simp [hlu]) h5
    refine ⟨T :: Tn, U :: Un, by simpa using hF, ?_, ?_, ?_, ?_, ?_⟩
    · intro T' hT'
      rcases List.mem_cons.1 hT' with rfl | hT'
      · exact hsg
      · exact hsgn T' hT'
    · intro j hj hlj
      cases j with
      | zero => exact hse hlj
      | succ j => exact hsen j (by simpa using hj) (by rw [show i + 1 + j = i + (j + 1) by omega]; exact hlj)
    · intro T' hT'
      rcases List.mem_cons.1 hT' with rfl | hT'
      · exact hsu
      · exact hsun T' hT'
    · intro xs w hw hp hpu K hK
      rw [frm_places, h2]
      refine h4 xs w hw (holdsL_of (T := fun j => (Ts ++ T :: Tn).getD j fun _ _ => True) (fun j hj => ?_) hp ps h1)
        (fun him => holdsL_of (T := fun j => (Us ++ U :: Un).getD j fun _ _ => True) (fun j hj => ?_) (hpu him) ps h1) K fun v w' hv hx hu => hK v w' ?_ hx fun him => ?_
      · simp only [List.getD_eq_getElem?_getD]
        rw [List.getElem?_append_left (by omega)]
      · simp only [List.getD_eq_getElem?_getD]
        rw [List.getElem?_append_left (by omega)]
      · have e : ((Ts ++ T :: Tn).getD i fun _ _ => True) = T := by
          rw [List.getD_eq_getElem?_getD, List.getElem?_append_right (by omega), hl, Nat.sub_self]; rfl
        show ((Ts ++ T :: Tn).getD i fun _ _ => True) _ _
        rw [e]
        cases hd : o.dst with
        | none => rw [hd] at h3; subst h3; exact hv
        | some d => rw [hd] at h3; subst h3; exact hv
      · have e : ((Us ++ U :: Un).getD i fun _ _ => True) = U := by
          rw [List.getD_eq_getElem?_getD, List.getElem?_append_right (by omega), hlu, Nat.sub_self]; rfl
        refine ⟨?_, (hu him).2⟩
        show ((Us ++ U :: Un).getD i fun _ _ => True) _ _
        rw [e]
        cases hd : o.dst with
        | none => rw [hd] at h3; subst h3; exact (hu him).1
        | some d => rw [hd] at h3; subst h3; exact (hu him).1
    · simpa using hall

theorem wp_region_m_named {P : Program} {ops : Array Oper} {a0 : Act} {w0 : World} {id : Nat} {Q : Exit → Act → World → Prop} (hm : P.follows .mixedOrders = true) (N m : Nat) (late : Nat → Bool) (Ext : World → World → Prop)
    (h0 : Ext w0.drew w0.drew) (hge : ∀ u v, Grow u v → Ext u v) (htr : ∀ u v w, Ext u v → Ext v w → Ext u w) (hla : (ops.toList.zipIdx.all fun x => !late x.2 || (x.2 == m || (preds x.1).any late)) = true)
    (hsh : shaped ops a0.tmps.size N = true)
    (l : List (Tmp × Nat)) (hl : placesTo ops N = l) (al : List (Nat × Bool)) (hal : (al.all fun x => decide (x.1 < N) && (dstAt ops x.1).isSome == x.2) = true) {first last : List Oper} (hf : ops.toList.take N = first) (ht : ops.toList.drop N = last)
    (h : ∀ a, a = a0 → lexAllM P ops a w0.drew m late Ext (fun Ts => ∀ (xs : Nat → Value) (w : World), Ext w0.drew w → holdsL Ts xs w al → wpList P ops Q last (putAll xs l a) w) 0 first [] []) :
    (Code.region id ops true).wp P Q a0 w0 := by
  obtain ⟨Tn, Un, hF, hsg, hse, hsu, hall⟩ := lexAllM_spec _ 0 [] [] rfl rfl (h a0 rfl)
  rw [List.nil_append] at hF hall
  rw [List.nil_append] at hall
  refine wp_region_relM hm N m late (fun j => Tn.getD j fun _ _ => True) (fun j => Un.getD j fun _ _ => True) Ext hsh h0 ?_ ?_ ?_ ?_ hge htr ?_ ?_
  · intro j o ho hlj
    have := List.all_eq_true.1 hla (o, j) (List.mem_zipIdx_iff_getElem?.2 (by simpa using ho))
    simp only [hlj, Bool.not_true, Bool.false_or, Bool.or_eq_true, beq_iff_eq, List.any_eq_true] at this
    exact this
  · intro j v w w' hx hv
    rcases Nat.lt_or_ge j Tn.length with hj | hj
    · simp only [List.getD_eq_getElem?_getD, List.getElem?_eq_getElem hj, Option.getD_some] at hv ⊢
      exact hsg _ (List.getElem_mem hj) v w w' hx hv
    · simp only [List.getD_eq_getElem?_getD, List.getElem?_eq_none hj, Option.getD_none]
  · intro j hlj v w w' hx hv
    rcases Nat.lt_or_ge j Tn.length with hj | hj
    · simp only [List.getD_eq_getElem?_getD, List.getElem?_eq_getElem hj, Option.getD_some] at hv ⊢
      exact hse j hj (by rw [Nat.zero_add]; exact hlj) v w w' hx hv
    · simp only [List.getD_eq_getElem?_getD, List.getElem?_eq_none hj, Option.getD_none]
  · intro j v w w' hx hv
    rcases Nat.lt_or_ge j Un.length with hj | hj
    · simp only [List.getD_eq_getElem?_getD, List.getElem?_eq_getElem hj, Option.getD_some] at hv ⊢
      exact hsu _ (List.getElem_mem hj) v w w' hx hv
    · simp only [List.getD_eq_getElem?_getD, List.getElem?_eq_none hj, Option.getD_none]
  · rw [hf]; exact hall
  · intro xs w hx hv
    rw [ht, frmTo_places, hl]
    exact hF xs w hx (holdsL_all hv al hal)

section
variable {P : Program} {ops : Array Oper} {a0 : Act} {w0 : World} {m : Nat} {late : Nat → Bool} {Ext : World → World → Prop} {F : List (Value → World → Prop) → Prop} {i : Nat} {o : Oper} {rest : List Oper} {Ts Us : List (Value → World → Prop)}

/-- An operation of which a value is known. -/
theorem lexm_eq {n : Nat} (hn : a0.tmps.size = n) (ps : List (Nat × Bool)) (l : List (Tmp × Nat)) (g : Option (Tmp × Bool)) (hb : boundsF n l g = true) (hg : guardAt ops o = some g)
    (h1 : (ps.all fun x => (preds o).contains x.1 && (dstAt ops x.1).isSome == x.2 && decide (x.1 < i)) = true) (h2 : places ops i = l) (h3 : o.dst.isSome = true) (him : i ≠ m) {c : Value}
    (hstep : ∀ (xs : Nat → Value) (w : World), Ext w0 w → holdsL Ts xs w ps → ∀ K : Value → World → Prop, (∀ w', Grow w w' → K c w') → givesF P o g (fun s => lookL xs s (slot a0 s) l) w K)
    (hrest : lexAllM P ops a0 w0 m late Ext F (i + 1) rest (Ts ++ [fun v _ => v = c]) (Us ++ [fun v _ => v = c])) : lexAllM P ops a0 w0 m late Ext F i (o :: rest) Ts Us :=
  ⟨fun v _ => v = c, fun v _ => v = c, fun _ _ _ _ h => h, fun _ _ _ _ _ h => h, fun _ _ _ _ h => h, ⟨ps, l, true, h1, h2, h3, fun xs w hw hp _ K hK => gives_look hn hb hg (hstep xs w hw hp K fun w' hx => hK c w' rfl (fun e => absurd e him) fun _ => ⟨rfl, hx⟩)⟩, hrest⟩

/-- An operation of whose value something is known until m. -/
theorem lexm_until {n : Nat} (hn : a0.tmps.size = n) (U : Value → World → Prop) (hU : ∀ v w w', Grow w w' → U v w → U v w') (ps : List (Nat × Bool)) (l : List (Tmp × Nat)) (g : Option (Tmp × Bool)) (hb : boundsF n l g = true) (hg : guardAt ops o = some g)
    (h1 : (ps.all fun x => (preds o).contains x.1 && (dstAt ops x.1).isSome == x.2 && decide (x.1 < i)) = true) (h2 : places ops i = l) (h3 : o.dst.isSome = true) (him : i ≠ m)
    (hstep : ∀ (xs : Nat → Value) (w : World), Ext w0 w → holdsL Ts xs w ps → ∀ K : Value → World → Prop, (∀ v w', U v w' → Grow w w' → K v w') → givesF P o g (fun s => lookL xs s (slot a0 s) l) w K)
    (hrest : lexAllM P ops a0 w0 m late Ext F (i + 1) rest (Ts ++ [fun _ _ => True]) (Us ++ [U])) : lexAllM P ops a0 w0 m late Ext F i (o :: rest) Ts Us :=
  ⟨fun _ _ => True, U, fun _ _ _ _ h => h, fun _ _ _ _ _ h => h, hU, ⟨ps, l, true, h1, h2, h3, fun xs w hw hp _ K hK => gives_look hn hb hg (hstep xs w hw hp K fun v w' hv hx => hK v w' trivial (fun e => absurd e him) fun _ => ⟨hv, hx⟩)⟩, hrest⟩

/-- Operation m. -/
theorem lexm_it {n : Nat} (hlm : late m = true) (hn : a0.tmps.size = n) (T : Value → World → Prop) (hT : ∀ v w w', Grow w w' → T v w → T v w') (ps : List (Nat × Bool)) (l : List (Tmp × Nat)) (g : Option (Tmp × Bool)) (hb : boundsF n l g = true) (hg : guardAt ops o = some g)
    (h1 : (ps.all fun x => (preds o).contains x.1 && (dstAt ops x.1).isSome == x.2 && decide (x.1 < m)) = true) (h2 : places ops m = l) (h3 : o.dst.isSome = true)
    (hstep : ∀ (xs : Nat → Value) (w : World), Ext w0 w → holdsL Us xs w ps → ∀ K : Value → World → Prop, (∀ v w', T v w' → Ext w w' → K v w') → givesF P o g (fun s => lookL xs s (slot a0 s) l) w K)
    (hrest : lexAllM P ops a0 w0 m late Ext F (m + 1) rest (Ts ++ [T]) (Us ++ [fun _ _ => True])) : lexAllM P ops a0 w0 m late Ext F m (o :: rest) Ts Us :=
  ⟨T, fun _ _ => True, hT, fun e => absurd (hlm.symm.trans e) (by decide), fun _ _ _ _ h => h, ⟨ps, l, true, h1, h2, h3, fun xs w hw _ hpu K hK => gives_look hn hb hg (hstep xs w hw (hpu rfl) K fun v w' hv hx => hK v w' hv (fun _ => hx) fun e => absurd rfl e)⟩, hrest⟩

/-- An operation behind m, of whose value something is known. -/
theorem lexm_late {n : Nat} (hli : late i = true) (hn : a0.tmps.size = n) (T : Value → World → Prop) (hT : ∀ v w w', Grow w w' → T v w → T v w') (ps : List (Nat × Bool)) (l : List (Tmp × Nat)) (g : Option (Tmp × Bool)) (hb : boundsF n l g = true) (hg : guardAt ops o = some g)
    (h1 : (ps.all fun x => (preds o).contains x.1 && (dstAt ops x.1).isSome == x.2 && decide (x.1 < i)) = true) (h2 : places ops i = l) (h3 : o.dst.isSome = true) (him : i ≠ m)
    (hstep : ∀ (xs : Nat → Value) (w : World), Ext w0 w → holdsL Ts xs w ps → ∀ K : Value → World → Prop, (∀ v w', T v w' → Grow w w' → K v w') → givesF P o g (fun s => lookL xs s (slot a0 s) l) w K)
    (hrest : lexAllM P ops a0 w0 m late Ext F (i + 1) rest (Ts ++ [T]) (Us ++ [T])) : lexAllM P ops a0 w0 m late Ext F i (o :: rest) Ts Us :=
  ⟨T, T, hT, fun e => absurd (hli.symm.trans e) (by decide), hT, ⟨ps, l, true, h1, h2, h3, fun xs w hw hp _ K hK => gives_look hn hb hg (hstep xs w hw hp K fun v w' hv hx => hK v w' hv (fun e => absurd e him) fun _ => ⟨hv, hx⟩)⟩, hrest⟩
end

end Go.Proofs.Ytgijmlienolhpaa
