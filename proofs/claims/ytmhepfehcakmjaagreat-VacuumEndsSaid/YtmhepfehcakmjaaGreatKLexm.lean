import Derived.WalkKit
import Derived.Orders
namespace Go.Proofs.YtmhepfehcakmjaaGreat
open Go.RowKit
def givesUpon (P : Program) (K : Value → World → Prop) : Result Next → Prop
 | .ok (.value u) w' => K u w'
 | .ok .skip w' => K undef w'
 | .ok (.enter f args) w' => Calls P f args w' (fun e w'' => ∃ v, e = .returned v ∧ K v w'')
 | _ => False
def gives (P : Program) (ops : Array Oper) (o : Oper) (a : Act) (w : World) (K : Value → World → Prop) : Prop :=
 if Region.wanted o (yielded ops a.tmps) then givesUpon P K ((execOp a.eval o).run P w) else K undef w
theorem givesUpon_value (P : Program) (K : Value → World → Prop) (u : Value) (w : World) : givesUpon P K (.ok (.value u) w) = K u w := rfl
theorem givesUpon_skip (P : Program) (K : Value → World → Prop) (w : World) : givesUpon P K (.ok .skip w) = K undef w := rfl
theorem givesUpon_enter (P : Program) (K : Value → World → Prop) (f : FuncId) (args : Array Value) (w : World) :
  givesUpon P K (.ok (.enter f args) w) = Calls P f args w (fun e w'' => ∃ v, e = .returned v ∧ K v w'') := rfl
def preds (o : Oper) : List Nat := (o.after.toList.filter (Region.binds .any)).map (·.on)
def dstAt (ops : Array Oper) (j : Nat) : Option Tmp := (ops[j]?).bind (·.dst)
def frm (ops : Array Oper) (i : Nat) (xs : Nat → Value) (a0 : Act) : Act :=
 (List.range ops.size).foldl (fun a j => if j == i || ((ops[j]?).map fun o => (preds o).contains i).getD false then a else a.put (dstAt ops j) (xs j)) a0
def frmTo (ops : Array Oper) (n : Nat) (xs : Nat → Value) (a0 : Act) : Act :=
 (List.range n).foldl (fun a j => a.put (dstAt ops j) (xs j)) a0
def allFrom (p : Nat → Oper → Prop) : Nat → List Oper → Prop
 | _, [] => True
 | i, o :: l => p i o ∧ allFrom p (i + 1) l
theorem allFrom_get {p : Nat → Oper → Prop} {l : List Oper} : ∀ {k : Nat}, allFrom p k l → ∀ {i : Nat} {o : Oper}, l[i]? = some o → p (k + i) o := by
 induction l with
 | nil => intro k _ i o h; simp at h
 | cons x l ih =>
  intro k h i o hi
  cases i with
  | zero => simp at hi; subst hi; exact h.1
  | succ i =>
   have := ih h.2 (i := i) (o := o) (by simpa using hi)
   rwa [show k + 1 + i = k + (i + 1) from by omega] at this
def covered (ops : Array Oper) (i : Nat) : Nat → List Nat
 | 0 => []
 | m + 1 =>
  let c := covered ops i m
  let k := i - 1 - m
  if ((ops[i]?).map fun o => (preds o).contains k).getD false || c.any (fun j => ((ops[j]?).map fun o => (preds o).contains k).getD false) then k :: c else c
def distinct : List (Option Tmp) → Bool
 | [] => true
 | none :: l => distinct l
 | some d :: l => !l.contains (some d) && distinct l
def shaped (ops : Array Oper) (size n : Nat) : Bool :=
 ops.toList.zipIdx.all (fun x => (preds x.1).all (· < x.2)) && distinct (ops.toList.map (·.dst)) && ops.toList.all (fun o => (o.dst.map (fun d => decide (d < size))).getD true) &&
 decide (n ≤ ops.size) && (List.range (ops.size - n)).all (fun k => (List.range (n + k)).all fun j => (covered ops (n + k) (n + k)).contains j)
def valAt (a : Act) : Option Tmp → Value
 | some d => a.tmps.getD d undef
 | none => undef
def dv : Option Tmp → Value → Value
 | some _, v => v
 | none, _ => undef
structure Under (P : Program) (ops : Array Oper) (N : Nat) (a0 : Act) (w0 : World) (T : Nat → Value → World → Prop) (Ext : World → World → Prop) (L : Array Bool) (a : Act) (w : World) : Prop where
 lsize : L.size = ops.size
 size : a.tmps.size = a0.tmps.size
 defers : a.defers = a0.defers
 ext : Ext w0 w
 other : ∀ s, (∀ j, j < ops.size → L.getD j true = true → dstAt ops j ≠ some s) → a.tmps[s]? = a0.tmps[s]?
 vals : ∀ j, j < ops.size → L.getD j true = true → T j (valAt a (dstAt ops j)) w
 down : ∀ j o, ops[j]? = some o → L.getD j true = true → ∀ k ∈ preds o, L.getD k false = true
 tail : ∀ j, N ≤ j → j < ops.size → L.getD j true = false
section
variable {P : Program} {ops : Array Oper} {N : Nat} {a0 : Act} {w0 : World} {T : Nat → Value → World → Prop} {Ext : World → World → Prop} {L : Array Bool} {a : Act} {w : World}
theorem ready_iff {i : Nat} : i ∈ Region.ready .any ops L ↔ ∃ o, ops[i]? = some o ∧ L.getD i true = false ∧ ∀ k ∈ preds o, L.getD k false = true := by
 unfold Region.ready preds
 simp only [List.mem_filter, List.mem_range, Bool.and_eq_true, Bool.not_eq_true', List.mem_map, Array.mem_toList_iff]
 constructor
 ·rintro ⟨hi, h1, h2⟩
  refine ⟨ops[i], by simp [hi], h1, ?_⟩
  simp only [hi, getElem?_pos, Option.map_some, Option.getD_some, Array.all_eq_true] at h2
  rintro k ⟨e, ⟨he, hb⟩, rfl⟩
  obtain ⟨n, hn, rfl⟩ := Array.getElem_of_mem he
  have := h2 n hn
  simpa [hb] using this
 ·rintro ⟨o, ho, h1, h2⟩
  have hi : i < ops.size := by
   rcases Nat.lt_or_ge i ops.size with h | h
   ·exact h
   ·simp [Array.getElem?_eq_none h] at ho
  refine ⟨hi, h1, ?_⟩
  rw [ho]
  simp only [Option.map_some, Option.getD_some, Array.all_eq_true]
  intro n hn
  cases hb : Region.binds .any o.after[n] with
  | false => simp
  | true => simpa using h2 _ ⟨_, ⟨Array.getElem_mem hn, hb⟩, rfl⟩
theorem put_size (a : Act) (d : Option Tmp) (v : Value) : (a.put d v).tmps.size = a.tmps.size := by cases d <;> simp [Act.put]
theorem put_defers' (a : Act) (d : Option Tmp) (v : Value) : (a.put d v).defers = a.defers := by cases d <;> rfl
theorem put_other (a : Act) (d : Option Tmp) (v : Value) (s : Nat) (h : d ≠ some s) : (a.put d v).tmps[s]? = a.tmps[s]? := by
 cases d with
 | none => rfl
 | some d => simp only [Act.put]; rw [Array.getElem?_setIfInBounds_ne (fun e => h (by rw [e]))]
theorem put_valAt (a : Act) (d e : Option Tmp) (v : Value) (h : ∀ s, d = some s → e ≠ some s) : valAt (a.put d v) e = valAt a e := by
 cases e with
 | none => rfl
 | some s =>
  have hd : d ≠ some s := fun h' => h s h' rfl
  simp only [valAt, Array.getD_eq_getD_getElem?, put_other a d v s hd]
theorem put_same (a : Act) (d : Option Tmp) (v : Value) (h : ∀ s, d = some s → s < a.tmps.size) : valAt (a.put d v) d = dv d v := by
 cases d with
 | none => rfl
 | some s => simp [valAt, Act.put, dv, h s rfl]
theorem frm_eq {i : Nat} (hs : ∀ j s, dstAt ops j = some s → s < a0.tmps.size) (h : Under P ops N a0 w0 T Ext L a w) (hi : L.getD i true = false) :
  frm ops i (fun j => valAt a (dstAt ops j)) a0 = a := by
 have key : ∀ (l : List Nat) (b : Act), b.tmps.size = a.tmps.size → b.defers = a.defers →
   (∀ s, b.tmps[s]? = a.tmps[s]? ∨ ∃ j ∈ l, (j == i || ((ops[j]?).map fun o => (preds o).contains i).getD false) = false ∧ dstAt ops j = some s) →
   l.foldl (fun b j => if j == i || ((ops[j]?).map fun o => (preds o).contains i).getD false then b else b.put (dstAt ops j) (valAt a (dstAt ops j))) b = a := by
  intro l
  induction l with
  | nil =>
   intro b h1 h2 h3
   obtain ⟨bt, bd⟩ := b
   obtain ⟨at_, ad⟩ := a
   simp only at h1 h2 h3
   subst h2
   simp only [List.foldl_nil, Act.mk.injEq, and_true]
   exact Array.ext_getElem? fun s => by rcases h3 s with h | ⟨_, h, _⟩; exact h; simp at h
  | cons j l ih =>
   intro b h1 h2 h3
   rw [List.foldl_cons]
   by_cases hc : (j == i || ((ops[j]?).map fun o => (preds o).contains i).getD false) = true
   ·rw [if_pos hc]
    refine ih b h1 h2 fun s => ?_
    rcases h3 s with h | ⟨j', hj', hc', hd⟩
    ·exact .inl h
    ·rcases List.mem_cons.1 hj' with rfl | hj'
     ·rw [hc] at hc'; cases hc'
     ·exact .inr ⟨j', hj', hc', hd⟩
   ·rw [if_neg hc]
    refine ih _ (by rw [put_size, h1]) (by rw [put_defers', h2]) fun s => ?_
    by_cases hd : dstAt ops j = some s
    ·left
     have hlt := hs j s hd
     rw [← h.size] at hlt
     rw [hd]
     simp [Act.put, valAt, h1, hlt]
    ·rw [put_other _ _ _ _ hd]
     rcases h3 s with h | ⟨j', hj', hc', hd'⟩
     ·exact .inl h
     ·rcases List.mem_cons.1 hj' with rfl | hj'
      ·exact absurd hd' hd
      ·exact .inr ⟨j', hj', hc', hd'⟩
 refine key _ a0 h.size.symm h.defers.symm fun s => ?_
 by_cases hx : ∀ j, j < ops.size → L.getD j true = true → dstAt ops j ≠ some s
 ·exact .inl (h.other s hx).symm
 ·right
  simp only [Classical.not_forall, Classical.not_not] at hx
  obtain ⟨j, hj, hl, hd⟩ := hx
  refine ⟨j, List.mem_range.2 hj, ?_, hd⟩
  have hji : (j == i) = false := by
   rw [beq_eq_false_iff_ne]; rintro rfl; rw [hl] at hi; cases hi
  rw [hji, Bool.false_or]
  have ho : ops[j]? = some ops[j] := by simp [hj]
  rw [ho]
  simp only [Option.map_some, Option.getD_some]
  cases hc : (preds ops[j]).contains i with
  | false => rfl
  | true =>
   have := h.down j _ ho hl i (by simpa using hc)
   have e : L.getD i false = L.getD i true := by
    have hil : i < L.size := by
     rcases Nat.lt_or_ge i L.size with h' | h'
     ·exact h'
     ·rw [Array.getD_eq_getD_getElem?, Array.getElem?_eq_none h'] at hi; simp at hi
    simp [Array.getD, hil]
   rw [e, hi] at this
   cases this
theorem under_step {i : Nat} {o : Oper} {v : Value} {w' : World} (hs : ∀ j s, dstAt ops j = some s → s < a0.tmps.size) (hd : ∀ j k s, j ≠ k → dstAt ops j = some s → dstAt ops k ≠ some s)
  (hst : ∀ j v w w', Ext w w' → T j v w → T j v w') (htr : ∀ u v w, Ext u v → Ext v w → Ext u w)
  (h : Under P ops N a0 w0 T Ext L a w) (ho : ops[i]? = some o) (hi : L.getD i true = false) (hp : ∀ k ∈ preds o, L.getD k false = true) (hN : i < N)
  (hx : Ext w w') (hv : T i (dv o.dst v) w') : Under P ops N a0 w0 T Ext (L.setIfInBounds i true) (a.put o.dst v) w' := by
 have hil : i < L.size := by
  rcases Nat.lt_or_ge i L.size with h' | h'
  ·exact h'
  ·rw [Array.getD_eq_getD_getElem?, Array.getElem?_eq_none h'] at hi; simp at hi
 have hdi : dstAt ops i = o.dst := by simp [dstAt, ho]
 have hset : ∀ j d, (L.setIfInBounds i true).getD j d = if j = i then true else L.getD j d := by
  intro j d
  simp only [Array.getD_eq_getD_getElem?]
  by_cases hj : j = i
  ·subst hj; simp [hil]
  ·rw [Array.getElem?_setIfInBounds_ne (fun e => hj e.symm), if_neg hj]
 refine ⟨by simp [h.lsize], by rw [put_size, h.size], by rw [put_defers', h.defers], htr _ _ _ h.ext hx, ?_, ?_, ?_, ?_⟩
 ·intro s hns
  rw [put_other _ _ _ _ (by have := hns i (h.lsize ▸ hil) (by rw [hset, if_pos rfl]); rwa [hdi] at this)]
  refine h.other s fun j hj hl => hns j hj ?_
  rw [hset]; split <;> simp [hl]
 ·intro j hj hl
  by_cases hji : j = i
  ·subst hji
   rw [hdi, put_same _ _ _ (fun s hs' => by rw [h.size]; exact hs j s (hdi.trans hs'))]
   exact hv
  ·rw [hset, if_neg hji] at hl
   rw [put_valAt _ _ _ _ (fun s hs' => hd i j s (fun e => hji e.symm) (hdi.trans hs'))]
   exact hst _ _ _ _ hx (h.vals j hj hl)
 ·intro j o' ho' hl k hk
  rw [hset]
  split
  ·rfl
  ·by_cases hji : j = i
   ·subst hji
    rw [ho] at ho'
    cases ho'
    exact hp k hk
   ·rw [hset, if_neg hji] at hl
    exact h.down j o' ho' hl k hk
 ·intro j hNj hj
  rw [hset, if_neg (by omega)]
  exact h.tail j hNj hj
def stepAt (P : Program) (ops : Array Oper) (a0 : Act) (w0 : World) (T : Nat → Value → World → Prop) (Ext : World → World → Prop) (i : Nat) (o : Oper) : Prop :=
 ∀ (xs : Nat → Value) (w : World), Ext w0 w → (∀ j ∈ preds o, T j (dv (dstAt ops j) (xs j)) w) → ∀ K : Value → World → Prop, (∀ v w', T i (dv o.dst v) w' → Ext w w' → K v w') → gives P ops o (frm ops i xs a0) w K
theorem upon_of_gives {Q' : Exit → Act → World → Prop} {K : Act → World → Prop} {o : Oper} (h : gives P ops o a w (fun v w' => K (a.put o.dst v) w')) :
  if Region.wanted o (yielded ops a.tmps) then o.wp P a w K Q' else K (a.put o.dst undef) w := by
 unfold gives at h
 split
 ·rename_i hw
  rw [if_pos hw] at h
  unfold Oper.wp
  generalize (execOp a.eval o).run P w = r at h
  cases r with
  | ok n w' =>
   cases n <;> simp only [givesUpon] at h <;> simp only [Oper.upon]
   case value u => exact h
   case skip => exact h
   case enter f args =>
    refine h.mono ?_
    rintro e w'' ⟨v, rfl, hk⟩
    exact hk
  | halt x w' => simp only [givesUpon] at h
 ·rename_i hw
  rw [if_neg hw] at h
  exact h
theorem dv_valAt (j : Nat) : dv (dstAt ops j) (valAt a (dstAt ops j)) = valAt a (dstAt ops j) := by
 cases dstAt ops j <;> rfl
theorem wpOp_step {Q' : Exit → Act → World → Prop} {i : Nat} (hs : ∀ j s, dstAt ops j = some s → s < a0.tmps.size) (hd : ∀ j k s, j ≠ k → dstAt ops j = some s → dstAt ops k ≠ some s)
  (hst : ∀ j v w w', Ext w w' → T j v w → T j v w') (htr : ∀ u v w, Ext u v → Ext v w → Ext u w)
  (hall : ∀ i o, i < N → ops[i]? = some o → stepAt P ops a0 w0 T Ext i o)
  (h : Under P ops N a0 w0 T Ext L a w) (hi : i ∈ Region.ready .any ops L) (hN : i < N) :
  wpOp P ops Q' i (fun a' w' => Under P ops N a0 w0 T Ext (L.setIfInBounds i true) a' w') a w := by
 obtain ⟨o, ho, hl, hp⟩ := ready_iff.1 hi
 unfold wpOp
 simp only [ho]
 have hg := hall i o hN ho (fun j => valAt a (dstAt ops j)) w h.ext (fun j hj => by
  have h1 := hp j hj
  have hjl : j < L.size := by
   rcases Nat.lt_or_ge j L.size with h' | h'
   ·exact h'
   ·rw [Array.getD_eq_getD_getElem?, Array.getElem?_eq_none h'] at h1; simp at h1
  rw [dv_valAt]
  refine h.vals j (h.lsize ▸ hjl) ?_
  simpa [Array.getD, hjl] using h1)
  (fun v w' => Under P ops N a0 w0 T Ext (L.setIfInBounds i true) (a.put o.dst v) w')
  (fun v w' hv hx => under_step hs hd hst htr h ho hl hp hN hx hv)
 rw [frm_eq hs h hl] at hg
 have := upon_of_gives (P := P) (Q' := Q') (K := fun a' w' => Under P ops N a0 w0 T Ext (L.setIfInBounds i true) a' w') hg
 split
 ·rename_i hw; rw [if_pos hw] at this; exact .inl this
 ·rename_i hw; rw [if_neg hw] at this; exact this
theorem frmTo_eq (hs : ∀ j s, dstAt ops j = some s → s < a0.tmps.size) (h : Under P ops N a0 w0 T Ext L a w) :
  frmTo ops N (fun j => valAt a (dstAt ops j)) a0 = a := by
 have key : ∀ (l : List Nat) (b : Act), b.tmps.size = a.tmps.size → b.defers = a.defers →
   (∀ s, b.tmps[s]? = a.tmps[s]? ∨ ∃ j ∈ l, dstAt ops j = some s) →
   l.foldl (fun b j => b.put (dstAt ops j) (valAt a (dstAt ops j))) b = a := by
  intro l
  induction l with
  | nil =>
   intro b h1 h2 h3
   obtain ⟨bt, bd⟩ := b
   obtain ⟨at_, ad⟩ := a
   simp only at h1 h2 h3
   subst h2
   simp only [List.foldl_nil, Act.mk.injEq, and_true]
   exact Array.ext_getElem? fun s => by rcases h3 s with h | ⟨_, h, _⟩; exact h; simp at h
  | cons j l ih =>
   intro b h1 h2 h3
   rw [List.foldl_cons]
   refine ih _ (by rw [put_size, h1]) (by rw [put_defers', h2]) fun s => ?_
   by_cases hd : dstAt ops j = some s
   ·left
    have hlt := hs j s hd
    rw [← h.size] at hlt
    rw [hd]
    simp [Act.put, valAt, h1, hlt]
   ·rw [put_other _ _ _ _ hd]
    rcases h3 s with h | ⟨j', hj', hd'⟩
    ·exact .inl h
    ·rcases List.mem_cons.1 hj' with rfl | hj'
     ·exact absurd hd' hd
     ·exact .inr ⟨j', hj', hd'⟩
 refine key _ a0 h.size.symm h.defers.symm fun s => ?_
 by_cases hx : ∀ j, j < ops.size → L.getD j true = true → dstAt ops j ≠ some s
 ·exact .inl (h.other s hx).symm
 ·right
  simp only [Classical.not_forall, Classical.not_not] at hx
  obtain ⟨j, hj, hl, hd⟩ := hx
  refine ⟨j, List.mem_range.2 ?_, hd⟩
  rcases Nat.lt_or_ge j N with h' | h'
  ·exact h'
  ·have := h.tail j h' hj
   rw [hl] at this; cases this
theorem covered_listed {i : Nat} {o : Oper} (ho : ops[i]? = some o) (hp : ∀ k ∈ preds o, L.getD k false = true) (hdn : ∀ j o, ops[j]? = some o → L.getD j true = true → ∀ k ∈ preds o, L.getD k false = true) :
  ∀ m, ∀ k ∈ covered ops i m, L.getD k false = true := by
 intro m
 induction m with
 | zero => intro k hk; simp [covered] at hk
 | succ m ih =>
  intro k hk
  simp only [covered] at hk
  split at hk
  ·rename_i hc
   rcases List.mem_cons.1 hk with rfl | hk
   ·rw [Bool.or_eq_true] at hc
    rcases hc with hc | hc
    ·rw [ho] at hc
     exact hp _ (by simpa using hc)
    ·rw [List.any_eq_true] at hc
     obtain ⟨j, hj, hc⟩ := hc
     cases hoj : ops[j]? with
     | none => rw [hoj] at hc; simp at hc
     | some oj =>
      rw [hoj] at hc
      have h1 := ih j hj
      have h2 : L.getD j true = true := by
       rw [Array.getD_eq_getD_getElem?] at h1 ⊢
       cases hL : L[j]? with
       | none => rw [hL] at h1; simp at h1
       | some b => rw [hL] at h1; simpa using h1
      exact hdn j oj hoj h2 _ (by simpa using hc)
   ·exact ih k hk
  ·exact ih k hk
theorem wpAny_tail {Q : Exit → Act → World → Prop} (hlt : ∀ j o, ops[j]? = some o → ∀ k ∈ preds o, k < j) (hcov : ∀ i, N ≤ i → i < ops.size → ∀ j, j < i → j ∈ covered ops i i) :
  ∀ (r m : Nat) (L : Array Bool) (a : Act) (w : World), m + r = ops.size → N ≤ m → L.size = ops.size → (∀ j, j < ops.size → ∀ d, L.getD j d = decide (j < m)) → wpList P ops Q (ops.toList.drop m) a w → wpAny P .any ops Q r L a w := by
 intro r
 induction r with
 | zero =>
  intro m L a w hm hN hs hL h
  have hdrop : ops.toList.drop m = [] := List.drop_eq_nil_of_le (by simp; omega)
  rw [hdrop] at h
  refine ⟨?_, h⟩
  rw [List.eq_nil_iff_forall_not_mem]
  intro i hi
  obtain ⟨o, ho, h1, _⟩ := ready_iff.1 hi
  have hi' : i < ops.size := by
   rcases Nat.lt_or_ge i ops.size with h | h
   ·exact h
   ·simp [Array.getElem?_eq_none h] at ho
  rw [hL i hi' true] at h1
  simp at h1; omega
 | succ r ih =>
  intro m L a w hm hN hs hL h
  have hmo : ops[m]? = some ops[m] := by rw [Array.getElem?_eq_getElem]
  have hready : m ∈ Region.ready .any ops L := ready_iff.2 ⟨ops[m], hmo, by rw [hL m (by omega) true]; simp, fun k hk => by
   have := hlt m _ hmo k hk
   rw [hL k (by omega) false]; simpa using this⟩
  refine ⟨fun h0 => (by rw [h0] at hready; cases hready), fun i hi => ?_⟩
  obtain ⟨o, ho, h1, h2⟩ := ready_iff.1 hi
  have hi' : i < ops.size := by
   rcases Nat.lt_or_ge i ops.size with h | h
   ·exact h
   ·simp [Array.getElem?_eq_none h] at ho
  have hge : m ≤ i := by
   rw [hL i hi' true] at h1; simpa using h1
  have him : i = m := by
   rcases Nat.lt_or_ge m i with hlt' | hge'
   ·exfalso
    have h3 := covered_listed ho h2 (fun j oj hoj hl k hk => by
     have hj' : j < ops.size := by
      rcases Nat.lt_or_ge j ops.size with h | h
      ·exact h
      ·simp [Array.getElem?_eq_none h] at hoj
     have hkj := hlt j oj hoj k hk
     rw [hL j hj' true] at hl
     rw [hL k (by omega) false]
     simp at hl ⊢; omega) i m (hcov i (by omega) hi' m hlt')
    rw [hL m (by omega) false] at h3
    simp at h3
   ·omega
  subst him
  have hdrop : ops.toList.drop i = ops[i] :: ops.toList.drop (i + 1) := by
   rw [List.drop_eq_getElem_cons (by simpa using hi')]; simp
  rw [hdrop] at h
  unfold wpOp
  rw [hmo]
  simp only [wpList] at h ⊢
  have hnext : ∀ a w, wpList P ops Q (ops.toList.drop (i + 1)) a w → wpAny P .any ops Q r (L.setIfInBounds i true) a w := fun a w hh =>
   ih (i + 1) _ a w (by omega) (by omega) (by simpa using hs) (fun j hj d => by
    rw [Array.getD_eq_getD_getElem?]
    by_cases hji : j = i
    ·subst hji; simp [hs, hi']
    ·rw [Array.getElem?_setIfInBounds_ne (fun e => hji e.symm), ← Array.getD_eq_getD_getElem?, hL j hj d, decide_eq_decide]; omega) hh
  split
  ·rename_i hw
   rw [if_pos hw] at h
   exact h.imp (Oper.wp_mono hnext) id
  ·rename_i hw
   rw [if_neg hw] at h
   exact hnext _ _ h
theorem filt_erase (l : List Nat) (p : Nat → Bool) (i : Nat) (hl : l.Nodup) (hi : i ∈ l) (hp : p i = true) : (l.filter fun j => p j && j != i).length + 1 = (l.filter p).length := by
 have h1 : (l.filter fun j => p j && j != i) = (l.filter p).erase i := by
  rw [List.Nodup.erase_eq_filter (hl.filter _), List.filter_filter]
  congr 1; funext j; rw [Bool.and_comm]
 have h2 : i ∈ l.filter p := List.mem_filter.2 ⟨hi, hp⟩
 rw [h1, List.length_erase_of_mem h2]
 have := List.length_pos_of_mem h2
 omega
def unl (ops : Array Oper) (L : Array Bool) : Nat := ((List.range ops.size).filter fun j => !L.getD j true).length
theorem unl_set {i : Nat} (hs : L.size = ops.size) (hi : i < ops.size) (h : L.getD i true = false) : unl ops (L.setIfInBounds i true) + 1 = unl ops L := by
 unfold unl
 rw [← filt_erase (List.range ops.size) (fun j => !L.getD j true) i List.nodup_range (List.mem_range.2 hi) (by rw [h]; rfl)]
 congr 2
 refine List.filter_congr fun j hj => ?_
 simp only [Array.getD_eq_getD_getElem?]
 by_cases hji : j = i
 ·subst hji; simp [hs, hi]
 ·rw [Array.getElem?_setIfInBounds_ne (fun e => hji e.symm)]; simp [hji]
theorem wpAny_rel {Q : Exit → Act → World → Prop} (hs : ∀ j s, dstAt ops j = some s → s < a0.tmps.size) (hd : ∀ j k s, j ≠ k → dstAt ops j = some s → dstAt ops k ≠ some s)
  (hlt : ∀ j o, ops[j]? = some o → ∀ k ∈ preds o, k < j) (hN : N ≤ ops.size) (hcov : ∀ i, N ≤ i → i < ops.size → ∀ j, j < i → j ∈ covered ops i i)
  (hst : ∀ j v w w', Ext w w' → T j v w → T j v w') (htr : ∀ u v w, Ext u v → Ext v w → Ext u w)
  (hall : ∀ i o, i < N → ops[i]? = some o → stepAt P ops a0 w0 T Ext i o)
  (hfin : ∀ (xs : Nat → Value) (w : World), Ext w0 w → (∀ j, j < N → T j (dv (dstAt ops j) (xs j)) w) → wpList P ops Q (ops.toList.drop N) (frmTo ops N xs a0) w) :
  ∀ (fuel : Nat) (L : Array Bool) (a : Act) (w : World), Under P ops N a0 w0 T Ext L a w → unl ops L = fuel → wpAny P .any ops Q fuel L a w := by
 intro fuel
 induction fuel with
 | zero =>
  intro L a w h hu
  have hdone : ∀ k, k < ops.size → L.getD k true = true := by
   intro k hk
   unfold unl at hu
   rw [List.length_eq_zero_iff, List.filter_eq_nil_iff] at hu
   simpa using hu k (List.mem_range.2 hk)
  have hNs : N = ops.size := by
   rcases Nat.lt_or_ge N ops.size with h' | h'
   ·have h1 := h.tail N (Nat.le_refl _) h'
    rw [hdone N h'] at h1; cases h1
   ·omega
  refine wpAny_tail (N := N) hlt hcov 0 ops.size L a w rfl hN h.lsize (fun j hj d => ?_) ?_
  ·have h1 := hdone j hj
   have hj' : j < L.size := by rw [h.lsize]; exact hj
   simp only [Array.getD, hj', dite_true] at h1 ⊢
   rw [h1]; simp [hj]
  ·have := hfin _ w h.ext (fun j hj => by rw [dv_valAt]; exact h.vals j (by omega) (hdone j (by omega)))
   rw [frmTo_eq hs h] at this
   rwa [hNs] at this
 | succ fuel ih =>
  intro L a w h hu
  by_cases hdone : ∀ k, k < N → L.getD k true = true
  ·have hf : fuel + 1 = ops.size - N := by
    rw [← hu]; unfold unl
    have e : ((List.range ops.size).filter fun j => !L.getD j true) = (List.range ops.size).filter fun j => decide (N ≤ j) := by
     refine List.filter_congr fun j hj => ?_
     have hj := List.mem_range.1 hj
     rcases Nat.lt_or_ge j N with h' | h'
     ·rw [hdone j h']; simp; omega
     ·rw [h.tail j h' hj]; simp [h']
    rw [e]
    have e2 : ∀ n, ((List.range n).filter fun j => decide (N ≤ j)).length = n - N := by
     intro n
     induction n with
     | zero => simp
     | succ n ihn => rw [List.range_succ, List.filter_append, List.length_append, ihn, List.filter_cons]; split <;> simp at * <;> omega
    exact e2 _
   refine wpAny_tail (N := N) hlt hcov (fuel + 1) N L a w (by omega) (Nat.le_refl _) h.lsize (fun j hj d => ?_) ?_
   ·have hj' : j < L.size := by rw [h.lsize]; exact hj
    rcases Nat.lt_or_ge j N with h' | h'
    ·have h1 := hdone j h'
     simp only [Array.getD, hj', dite_true] at h1 ⊢
     rw [h1]; simp [h']
    ·have h1 := h.tail j h' hj
     simp only [Array.getD, hj', dite_true] at h1 ⊢
     rw [h1]; simp; omega
   ·have := hfin _ w h.ext (fun j hj => by rw [dv_valAt]; exact h.vals j (by omega) (hdone j hj))
    rwa [frmTo_eq hs h] at this
  ·have hsome : ∀ k, k < ops.size → L.getD k true = false → ∃ i, i ∈ Region.ready .any ops L := by
    intro k
    induction k using Nat.strongRecOn with
    | _ k ihk =>
     intro hk hl
     have hok : ops[k]? = some ops[k] := by simp [hk]
     by_cases hp : ∀ j ∈ preds ops[k], L.getD j false = true
     ·exact ⟨k, ready_iff.2 ⟨_, hok, hl, hp⟩⟩
     ·simp only [Classical.not_forall] at hp
      obtain ⟨j, hj, hjl⟩ := hp
      have hjk := hlt k _ hok j hj
      have hj' : j < L.size := by rw [h.lsize]; omega
      refine ihk j hjk (by omega) ?_
      simp only [Array.getD, hj', dite_true] at hjl ⊢
      simpa using hjl
   simp only [Classical.not_forall] at hdone
   obtain ⟨k, hkN, hkl⟩ := hdone
   have hkl' : L.getD k true = false := by simpa using hkl
   obtain ⟨i0, hi0⟩ := hsome k (by omega) hkl'
   refine ⟨fun h0 => (by rw [h0] at hi0; cases hi0), fun i hi => ?_⟩
   obtain ⟨o, ho, hl, hp⟩ := ready_iff.1 hi
   have hi' : i < ops.size := by
    rcases Nat.lt_or_ge i ops.size with h | h
    ·exact h
    ·simp [Array.getElem?_eq_none h] at ho
   have hiN : i < N := by
    rcases Nat.lt_or_ge i N with h' | h'
    ·exact h'
    ·exfalso
     have h3 := covered_listed ho hp h.down i k (hcov i h' hi' k (by omega))
     have hk' : k < L.size := by rw [h.lsize]; omega
     simp only [Array.getD, hk', dite_true] at h3 hkl'
     rw [h3] at hkl'; cases hkl'
   refine wpOp_mono (fun a' w' hh => ih _ a' w' hh ?_) (wpOp_step hs hd hst htr hall h hi hiN)
   have := unl_set h.lsize hi' hl
   omega
theorem allFrom_of {p : Nat → Oper → Prop} {ops : Array Oper} {N : Nat} (h : allFrom p 0 (ops.toList.take N)) {i : Nat} {o : Oper} (hi : i < N) (ho : ops[i]? = some o) : p i o := by
 have := allFrom_get h (i := i) (o := o) (by rw [List.getElem?_take, if_pos hi]; simpa using ho)
 rwa [Nat.zero_add] at this
theorem distinct_spec : ∀ (l : List (Option Tmp)), distinct l = true → ∀ (i j : Nat) (s : Tmp), i ≠ j → l[i]? = some (some s) → l[j]? ≠ some (some s)
 | [], _, i, j, s, _, h => by simp at h
 | none :: l, hd, i, j, s, hij, h => by
  cases i with
  | zero => simp at h
  | succ i =>
   cases j with
   | zero => simp
   | succ j => simpa using distinct_spec l hd i j s (by omega) (by simpa using h)
 | some d :: l, hd, i, j, s, hij, h => by
  simp only [distinct, Bool.and_eq_true, Bool.not_eq_true'] at hd
  cases i with
  | zero =>
   simp at h
   subst h
   cases j with
   | zero => omega
   | succ j =>
    intro h2
    have : some d ∈ l := List.mem_of_getElem? (by simpa using h2)
    have h3 := hd.1
    simp [this] at h3
  | succ i =>
   cases j with
   | zero =>
    intro h2
    simp at h2
    subst h2
    have : some d ∈ l := List.mem_of_getElem? (by simpa using h)
    have h3 := hd.1
    simp [this] at h3
   | succ j => simpa using distinct_spec l hd.2 i j s (by omega) (by simpa using h)
theorem wp_region_rel {id : Nat} {Q : Exit → Act → World → Prop} (hm : P.follows .mixedOrders = true) (N : Nat) (T : Nat → Value → World → Prop) (Ext : World → World → Prop)
  (hsh : shaped ops a0.tmps.size N = true)
  (h0 : Ext { w0 with drawn := w0.drawn + 1 } { w0 with drawn := w0.drawn + 1 })
  (hst : ∀ j v w w', Ext w w' → T j v w → T j v w') (htr : ∀ u v w, Ext u v → Ext v w → Ext u w)
  (hall : allFrom (stepAt P ops a0 { w0 with drawn := w0.drawn + 1 } T Ext) 0 (ops.toList.take N))
  (hfin : ∀ (xs : Nat → Value) (w : World), Ext { w0 with drawn := w0.drawn + 1 } w → (∀ j, j < N → T j (dv (dstAt ops j) (xs j)) w) → wpList P ops Q (ops.toList.drop N) (frmTo ops N xs a0) w) :
  (Code.region id ops true).wp P Q a0 w0 := by
 unfold shaped at hsh
 simp only [Bool.and_eq_true, List.all_eq_true, decide_eq_true_eq, List.mem_range] at hsh
 obtain ⟨⟨⟨⟨h1, h2⟩, h3⟩, h4⟩, h5⟩ := hsh
 refine wp_region_any hm ?_
 have hs : ∀ j s, dstAt ops j = some s → s < a0.tmps.size := by
  intro j s hjs
  unfold dstAt at hjs
  cases ho : ops[j]? with
  | none => rw [ho] at hjs; simp at hjs
  | some o =>
   rw [ho] at hjs
   have := h3 o (Array.mem_toList_iff.2 (Array.mem_of_getElem? ho))
   have hd : o.dst = some s := by simpa using hjs
   rw [hd] at this
   simpa using this
 have hd : ∀ j k s, j ≠ k → dstAt ops j = some s → dstAt ops k ≠ some s := by
  have conv : ∀ j s, dstAt ops j = some s ↔ (ops.toList.map (·.dst))[j]? = some (some s) := by
   intro j s
   unfold dstAt
   rw [List.getElem?_map, Array.getElem?_toList]
   cases ops[j]? <;> simp
  intro j k s hjk hj hk
  exact distinct_spec _ h2 j k s hjk ((conv j s).1 hj) ((conv k s).1 hk)
 refine wpAny_rel hs hd ?_ h4 ?_ hst htr (fun i o hi ho => allFrom_of hall hi ho) hfin ops.size _ a0 _ ?_ ?_
 ·intro j o ho k hk
  have hmem : (o, j) ∈ ops.toList.zipIdx := List.mem_zipIdx_iff_getElem?.2 (by simpa using ho)
  exact h1 _ hmem k hk
 ·intro i hNi hi j hj
  have := h5 (i - N) (by omega) j (by omega)
  rw [show N + (i - N) = i from by omega] at this
  simpa using this
 ·have hrep : ∀ j, j < ops.size → (Array.replicate ops.size false).getD j true = false := by intro j hj; simp [Array.getD, hj]
  refine ⟨by simp, rfl, rfl, h0, fun _ _ => rfl, fun j hj hl => ?_, fun j o ho hl => ?_, fun j _ hj => hrep j hj⟩
  ·rw [hrep j hj] at hl; cases hl
  ·have hj : j < ops.size := by
    rcases Nat.lt_or_ge j ops.size with h | h
    ·exact h
    ·simp [Array.getElem?_eq_none h] at ho
   rw [hrep j hj] at hl; cases hl
 ·unfold unl
  rw [List.filter_eq_self.2 (fun j hj => by simp [Array.getD, List.mem_range.1 hj]), List.length_range]
end
def holdsL (Ts : List (Value → World → Prop)) (xs : Nat → Value) (w : World) : List (Nat × Bool) → Prop
 | [] => True
 | (j, b) :: l => (Ts.getD j fun _ _ => True) (if b then xs j else undef) w ∧ holdsL Ts xs w l
theorem hz : (∀ (Ts : List (Value → World → Prop)) (xs : Nat → Value) (w : World), holdsL Ts xs w [] = True) ∧ (∀ (Ts : List (Value → World → Prop)) (xs : Nat → Value) (w : World) (j : Nat) (l : List (Nat × Bool)), holdsL Ts xs w ((j, true) :: l) = ((Ts.getD j fun _ _ => True) (xs j) w ∧ holdsL Ts xs w l)) ∧
  (∀ (Ts : List (Value → World → Prop)) (xs : Nat → Value) (w : World) (j : Nat) (l : List (Nat × Bool)), holdsL Ts xs w ((j, false) :: l) = ((Ts.getD j fun _ _ => True) undef w ∧ holdsL Ts xs w l)) ∧ (∀ l : List (Value → World → Prop), [] ++ l = l) ∧
  (∀ (a : Value → World → Prop) (l m : List (Value → World → Prop)), (a :: l) ++ m = a :: (l ++ m)) ∧ (∀ (a : Value → World → Prop) (l : List (Value → World → Prop)) (n : Nat) (d : Value → World → Prop), (a :: l).getD (n + 1) d = l.getD n d) ∧
  (∀ (a : Value → World → Prop) (l : List (Value → World → Prop)) (d : Value → World → Prop), (a :: l).getD 0 d = a) ∧ (∀ p : Prop, (p ∧ True) = p) :=
 ⟨fun _ _ _ => rfl, fun _ _ _ _ _ => rfl, fun _ _ _ _ _ => rfl, fun _ => rfl, fun _ _ _ => rfl, fun _ _ _ _ => rfl, fun _ _ _ => rfl, fun _ => and_true _⟩
def places (ops : Array Oper) (i : Nat) : List (Tmp × Nat) :=
 (List.range ops.size).filterMap fun j => if j == i || ((ops[j]?).map fun o => (preds o).contains i).getD false then none else (dstAt ops j).map fun d => (d, j)
def placesTo (ops : Array Oper) (n : Nat) : List (Tmp × Nat) := (List.range n).filterMap fun j => (dstAt ops j).map fun d => (d, j)
def putAll (xs : Nat → Value) : List (Tmp × Nat) → Act → Act
 | [], a => a
 | (d, j) :: l, a => putAll xs l (a.put (some d) (xs j))
theorem putAll_filterMap (xs : Nat → Value) (f : Nat → Option (Tmp × Nat)) (g : Act → Nat → Act) (h : ∀ a j, g a j = match f j with | some (d, k) => a.put (some d) (xs k) | none => a) :
  ∀ (l : List Nat) (a : Act), l.foldl g a = putAll xs (l.filterMap f) a
 | [], a => rfl
 | j :: l, a => by
  rw [List.foldl_cons, putAll_filterMap xs f g h l, List.filterMap_cons, h]
  cases f j with
  | none => rfl
  | some x => obtain ⟨d, k⟩ := x; rfl
theorem frm_places (ops : Array Oper) (i : Nat) (xs : Nat → Value) (a0 : Act) : frm ops i xs a0 = putAll xs (places ops i) a0 := by
 refine putAll_filterMap xs _ _ (fun a j => ?_) _ _
 by_cases hc : (j == i || ((ops[j]?).map fun o => (preds o).contains i).getD false) = true
 ·rw [if_pos hc, if_pos hc]
 ·rw [if_neg hc, if_neg hc]
  cases dstAt ops j <;> rfl
theorem frmTo_places (ops : Array Oper) (n : Nat) (xs : Nat → Value) (a0 : Act) : frmTo ops n xs a0 = putAll xs (placesTo ops n) a0 := by
 refine putAll_filterMap xs _ _ (fun a j => ?_) _ _
 cases dstAt ops j <;> rfl
def lexAll (P : Program) (ops : Array Oper) (a0 : Act) (w0 : World) (Ext : World → World → Prop) (F : List (Value → World → Prop) → Prop) : Nat → List Oper → List (Value → World → Prop) → Prop
 | _, [], Ts => F Ts
 | i, o :: rest, Ts => ∃ T : Value → World → Prop, (∀ v w w', Ext w w' → T v w → T v w') ∧
   (∃ (ps : List (Nat × Bool)) (l : List (Tmp × Nat)) (b : Bool), (ps.all fun x => (preds o).contains x.1 && (dstAt ops x.1).isSome == x.2 && decide (x.1 < i)) = true ∧ places ops i = l ∧ o.dst.isSome = b ∧
    ∀ (xs : Nat → Value) (w : World), Ext w0 w → holdsL Ts xs w ps → ∀ K : Value → World → Prop, (∀ v w', T (if b then v else undef) w' → Ext w w' → K v w') → gives P ops o (putAll xs l a0) w K) ∧
   lexAll P ops a0 w0 Ext F (i + 1) rest (Ts ++ [T])
theorem holdsL_of {Ts : List (Value → World → Prop)} {ops : Array Oper} {xs : Nat → Value} {w : World} {T : Nat → Value → World → Prop} {i : Nat} {o : Oper} (hT : ∀ j, j < i → T j = Ts.getD j fun _ _ => True)
  (h : ∀ j ∈ preds o, T j (dv (dstAt ops j) (xs j)) w) : ∀ (ps : List (Nat × Bool)), (ps.all fun x => (preds o).contains x.1 && (dstAt ops x.1).isSome == x.2 && decide (x.1 < i)) = true → holdsL Ts xs w ps
 | [], _ => trivial
 | (j, b) :: l, hp => by
  rw [List.all_cons, Bool.and_eq_true] at hp
  refine ⟨?_, holdsL_of hT h l hp.2⟩
  simp only [Bool.and_eq_true, decide_eq_true_eq] at hp
  obtain ⟨⟨⟨h1, h2⟩, h3⟩, _⟩ := hp
  have h4 := h j (by simpa using h1)
  rw [hT j h3] at h4
  have h5 : (dstAt ops j).isSome = b := by simpa using h2
  have h6 : dv (dstAt ops j) (xs j) = if b then xs j else undef := by
   cases hd : dstAt ops j with
   | none => rw [hd] at h5; subst h5; rfl
   | some d => rw [hd] at h5; subst h5; rfl
  rw [h6] at h4
  exact h4
theorem lexAll_spec {P : Program} {ops : Array Oper} {a0 : Act} {w0 : World} {Ext : World → World → Prop} {F : List (Value → World → Prop) → Prop} :
  ∀ (rest : List Oper) (i : Nat) (Ts : List (Value → World → Prop)), Ts.length = i → lexAll P ops a0 w0 Ext F i rest Ts →
   ∃ Tn, F (Ts ++ Tn) ∧ Tn.length = rest.length ∧ (∀ T ∈ Tn, ∀ v w w', Ext w w' → T v w → T v w') ∧ allFrom (stepAt P ops a0 w0 (fun j => (Ts ++ Tn).getD j fun _ _ => True) Ext) i rest
 | [], i, Ts, _, h => ⟨[], by simpa [lexAll] using h, rfl, by simp, trivial⟩
 | o :: rest, i, Ts, hl, h => by
  obtain ⟨T, hst, ⟨ps, l, b, h1, h2, h3, h4⟩, h5⟩ := h
  obtain ⟨Tn, hF, hlen, hstn, hall⟩ := lexAll_spec rest (i + 1) (Ts ++ [T]) (by simp [hl]) h5
  refine ⟨T :: Tn, by simpa using hF, by simp [hlen], ?_, ?_, ?_⟩
  ·intro T' hT'
   rcases List.mem_cons.1 hT' with rfl | hT'
   ·exact hst
   ·exact hstn T' hT'
  ·intro xs w hw hp K hK
   rw [frm_places, h2]
   refine h4 xs w hw (holdsL_of (T := fun j => (Ts ++ T :: Tn).getD j fun _ _ => True) (fun j hj => ?_) hp ps h1) K fun v w' hv hx => hK v w' ?_ hx
   ·simp only [List.getD_eq_getElem?_getD]
    rw [List.getElem?_append_left (by omega)]
   ·have e : ((Ts ++ T :: Tn).getD i fun _ _ => True) = T := by
     rw [List.getD_eq_getElem?_getD, List.getElem?_append_right (by omega), hl, Nat.sub_self]; rfl
    show ((Ts ++ T :: Tn).getD i fun _ _ => True) _ _
    rw [e]
    cases hd : o.dst with
    | none => rw [hd] at h3; subst h3; exact hv
    | some d => rw [hd] at h3; subst h3; exact hv
  ·simpa using hall
theorem lexAll_mono {P : Program} {ops : Array Oper} {a0 : Act} {w0 : World} {Ext : World → World → Prop} {F G : List (Value → World → Prop) → Prop} (hFG : ∀ Ts, F Ts → G Ts) :
  ∀ (rest : List Oper) (i : Nat) (Ts : List (Value → World → Prop)), lexAll P ops a0 w0 Ext F i rest Ts → lexAll P ops a0 w0 Ext G i rest Ts
 | [], _, _, h => hFG _ h
 | _ :: rest, i, _, ⟨T, h1, h2, h3⟩ => ⟨T, h1, h2, lexAll_mono hFG rest (i + 1) _ h3⟩
theorem wp_region_lex {P : Program} {ops : Array Oper} {a0 : Act} {w0 : World} {id : Nat} {Q : Exit → Act → World → Prop} (hm : P.follows .mixedOrders = true) (N : Nat) (Ext : World → World → Prop)
  (hsh : shaped ops a0.tmps.size N = true) (h0 : Ext w0.drew w0.drew) (htr : ∀ u v w, Ext u v → Ext v w → Ext u w)
  (l : List (Tmp × Nat)) (hl : placesTo ops N = l) (first last : List Oper) (hf : ops.toList.take N = first) (ht : ops.toList.drop N = last)
  (h : lexAll P ops a0 w0.drew Ext (fun Ts => ∀ (xs : Nat → Value) (w : World), Ext w0.drew w → (∀ j, j < N → (Ts.getD j fun _ _ => True) (dv (dstAt ops j) (xs j)) w) → wpList P ops Q last (putAll xs l a0) w) 0 first []) :
  (Code.region id ops true).wp P Q a0 w0 := by
 obtain ⟨Tn, hF, hlen, hst, hall⟩ := lexAll_spec _ 0 [] rfl h
 rw [List.nil_append] at hF hall
 refine wp_region_rel hm N (fun j => Tn.getD j fun _ _ => True) Ext hsh h0 ?_ htr ?_ ?_
 ·intro j v w w' hx hv
  rcases Nat.lt_or_ge j Tn.length with hj | hj
  ·simp only [List.getD_eq_getElem?_getD, List.getElem?_eq_getElem hj, Option.getD_some] at hv ⊢
   exact hst _ (List.getElem_mem hj) v w w' hx hv
  ·simp only [List.getD_eq_getElem?_getD, List.getElem?_eq_none hj, Option.getD_none]
 ·rw [hf]; exact hall
 ·intro xs w hx hv
  rw [ht, frmTo_places, hl]
  exact hF xs w hx hv
def Grow (u v : World) : Prop := Below u.heap.size u v
theorem Grow.refl (u : World) : Grow u u := Below.refl _ _
theorem Grow.trans {u v w : World} (h : Grow u v) (k : Grow v w) : Grow u w := Below.trans h (k.mono h.size)
theorem Grow.undrew {u v : World} (h : Grow u.drew v) : Grow u v := ⟨h.os, h.tape, h.output, h.size, h.block⟩
theorem Grow.alloc {u v : World} (h : Grow u v) (o : Obj) : Grow u (v.alloc o) := Below.alloc h h.size o
section
variable {P : Program} {ops : Array Oper} {a0 : Act} {w0 : World} {F : List (Value → World → Prop) → Prop} {i : Nat} {o : Oper} {rest : List Oper} {Ts : List (Value → World → Prop)}
theorem lex_eq (ps : List (Nat × Bool)) (l : List (Tmp × Nat)) (h1 : (ps.all fun x => (preds o).contains x.1 && (dstAt ops x.1).isSome == x.2 && decide (x.1 < i)) = true) (h2 : places ops i = l) (h3 : o.dst.isSome = true) {c : Value}
  (hstep : ∀ (xs : Nat → Value) (w : World), Grow w0 w → holdsL Ts xs w ps → ∀ K : Value → World → Prop, (∀ w', Grow w w' → K c w') → gives P ops o (putAll xs l a0) w K)
  (hrest : lexAll P ops a0 w0 Grow F (i + 1) rest (Ts ++ [fun v _ => v = c])) : lexAll P ops a0 w0 Grow F i (o :: rest) Ts :=
 ⟨fun v _ => v = c, fun _ _ _ _ h => h, ⟨ps, l, true, h1, h2, h3, fun xs w hw hp K hK => hstep xs w hw hp K fun w' hx => hK c w' rfl hx⟩, hrest⟩
theorem lex_says (T : Value → World → Prop) (hT : ∀ v w w', Grow w w' → T v w → T v w') (ps : List (Nat × Bool)) (l : List (Tmp × Nat)) (h1 : (ps.all fun x => (preds o).contains x.1 && (dstAt ops x.1).isSome == x.2 && decide (x.1 < i)) = true)
  (h2 : places ops i = l) (h3 : o.dst.isSome = true)
  (hstep : ∀ (xs : Nat → Value) (w : World), Grow w0 w → holdsL Ts xs w ps → ∀ K : Value → World → Prop, (∀ v w', T v w' → Grow w w' → K v w') → gives P ops o (putAll xs l a0) w K)
  (hrest : lexAll P ops a0 w0 Grow F (i + 1) rest (Ts ++ [T])) : lexAll P ops a0 w0 Grow F i (o :: rest) Ts :=
 ⟨T, hT, ⟨ps, l, true, h1, h2, h3, fun xs w hw hp K hK => hstep xs w hw hp K fun v w' hv hx => hK v w' hv hx⟩, hrest⟩
theorem holdsL_all {N : Nat} {xs : Nat → Value} {w : World} (hv : ∀ j, j < N → (Ts.getD j fun _ _ => True) (dv (dstAt ops j) (xs j)) w) :
  ∀ (al : List (Nat × Bool)), (al.all fun x => decide (x.1 < N) && (dstAt ops x.1).isSome == x.2) = true → holdsL Ts xs w al
 | [], _ => trivial
 | (j, b) :: l, hp => by
  rw [List.all_cons, Bool.and_eq_true] at hp
  refine ⟨?_, holdsL_all hv l hp.2⟩
  simp only [Bool.and_eq_true, decide_eq_true_eq] at hp
  have h4 := hv j hp.1.1
  have h5 : (dstAt ops j).isSome = b := by simpa using hp.1.2
  have h6 : dv (dstAt ops j) (xs j) = if b then xs j else undef := by
   cases hd : dstAt ops j with
   | none => rw [hd] at h5; subst h5; rfl
   | some d => rw [hd] at h5; subst h5; rfl
  rw [h6] at h4
  exact h4
end
theorem wp_region_grow {P : Program} {ops : Array Oper} {a0 : Act} {w0 : World} {id : Nat} {Q : Exit → Act → World → Prop} (hm : P.follows .mixedOrders = true) (N : Nat)
  (hsh : shaped ops a0.tmps.size N = true)
  (l : List (Tmp × Nat)) (hl : placesTo ops N = l) (al : List (Nat × Bool)) (hal : (al.all fun x => decide (x.1 < N) && (dstAt ops x.1).isSome == x.2) = true) {first last : List Oper} (hf : ops.toList.take N = first) (ht : ops.toList.drop N = last)
  (h : lexAll P ops a0 w0.drew Grow (fun Ts => ∀ (xs : Nat → Value) (w : World), Grow w0.drew w → holdsL Ts xs w al → wpList P ops Q last (putAll xs l a0) w) 0 first []) :
  (Code.region id ops true).wp P Q a0 w0 := by
 refine wp_region_lex hm N Grow hsh (Grow.refl _) (fun _ _ _ => Grow.trans) l hl first last hf ht ?_
 exact lexAll_mono (fun Ts hTs xs w hw hv => hTs xs w hw (holdsL_all hv al hal)) _ _ _ h
end Go.Proofs.YtmhepfehcakmjaaGreat
namespace Go.Proofs.YtmhepfehcakmjaaGreat
open Go.RowKit
def slot (a : Act) (s : Tmp) : Value := a.tmps.getD s undef
def lookL (xs : Nat → Value) (s : Tmp) : Value → List (Tmp × Nat) → Value
 | v, [] => v
 | v, (d, j) :: l => lookL xs s (if d = s then xs j else v) l
def evalF (f : Tmp → Value) : Operand → Value
 | .tmp t => f t
 | .const v => v
 | .global g => .pointer (some ⟨g, 0, none⟩)
 | .func f => .func (.func f) #[] #[]
def isB : Value → Bool → Bool
 | .bool c, b => c == b
 | _, _ => false
theorem isB_bool (c b : Bool) : isB (.bool c) b = (c == b) := rfl
theorem isB_undef (b : Bool) : isB undef b = false := rfl
theorem evalF_tmp (f : Tmp → Value) (t : Tmp) : evalF f (.tmp t) = f t := rfl
theorem evalF_const (f : Tmp → Value) (v : Value) : evalF f (.const v) = v := rfl
theorem evalF_global (f : Tmp → Value) (g : Nat) : evalF f (.global g) = .pointer (some ⟨g, 0, none⟩) := rfl
theorem evalF_func (f : Tmp → Value) (g : FuncId) : evalF f (.func g) = .func (.func g) #[] #[] := rfl
def givesF (P : Program) (o : Oper) (g : Option (Tmp × Bool)) (f : Tmp → Value) (w : World) (K : Value → World → Prop) : Prop :=
 match g with
 | none => givesUpon P K ((execOp (evalF f) o).run P w)
 | some (t, b) => if isB (f t) b = true then givesUpon P K ((execOp (evalF f) o).run P w) else K undef w
theorem givesF_none (P : Program) (o : Oper) (f : Tmp → Value) (w : World) (K : Value → World → Prop) : givesF P o none f w K = givesUpon P K ((execOp (evalF f) o).run P w) := rfl
theorem givesF_some (P : Program) (o : Oper) (t : Tmp) (b : Bool) (f : Tmp → Value) (w : World) (K : Value → World → Prop) : givesF P o (some (t, b)) f w K = if isB (f t) b = true then givesUpon P K ((execOp (evalF f) o).run P w) else K undef w := rfl
def guardAt (ops : Array Oper) (o : Oper) : Option (Option (Tmp × Bool)) :=
 match o.guard with
 | none => some none
 | some (k, b) => match (ops[k]?).bind (·.dst) with
  | some t => some (some (t, b))
  | none => none
theorem eval_evalF (a : Act) : a.eval = evalF (slot a) := by funext x; cases x <;> rfl
theorem gives_slot {P : Program} {ops : Array Oper} {o : Oper} {a : Act} {w : World} {K : Value → World → Prop} {g : Option (Tmp × Bool)} (hg : guardAt ops o = some g) (hs : ∀ t b, g = some (t, b) → t < a.tmps.size)
  (h : givesF P o g (slot a) w K) : gives P ops o a w K := by
 unfold gives
 unfold guardAt at hg
 cases hq : o.guard with
 | none =>
  rw [hq] at hg
  simp only [Option.some.injEq] at hg
  subst hg
  have : Region.wanted o (yielded ops a.tmps) = true := by unfold Region.wanted; rw [hq]
  rw [if_pos this, eval_evalF]
  exact h
 | some kb =>
  obtain ⟨k, b⟩ := kb
  rw [hq] at hg
  cases hd : (ops[k]?).bind (·.dst) with
  | none => simp [hd] at hg
  | some t =>
   simp only [hd, Option.some.injEq] at hg
   subst hg
   have ht := hs t b rfl
   have hy : Region.wanted o (yielded ops a.tmps) = isB (slot a t) b := by
    unfold Region.wanted yielded slot
    rw [hq]
    simp only [hd, Option.bind_some]
    rw [Array.getD_eq_getD_getElem?, Array.getElem?_eq_getElem ht]
    simp only [Option.getD_some]
    generalize a.tmps[t] = v
    cases v <;> simp [isB]
   rw [hy, eval_evalF]
   exact h
theorem slot_put (a : Act) (d s : Tmp) (v : Value) (hd : d < a.tmps.size) : slot (a.put (some d) v) s = if d = s then v else slot a s := by
 unfold slot
 simp only [Act.put, Array.getD_eq_getD_getElem?, Array.getElem?_setIfInBounds]
 by_cases h : d = s
 ·subst h; simp [hd]
 ·simp [h]
theorem slot_putAll (xs : Nat → Value) (s : Tmp) : ∀ (l : List (Tmp × Nat)) (a : Act), (l.all fun x => decide (x.1 < a.tmps.size)) = true → slot (putAll xs l a) s = lookL xs s (slot a s) l
 | [], _, _ => rfl
 | (d, j) :: l, a, h => by
  rw [List.all_cons, Bool.and_eq_true, decide_eq_true_eq] at h
  rw [putAll, slot_putAll xs s l _ (by simpa [put_size] using h.2), slot_put _ _ _ _ h.1, lookL]
theorem size_putAll (xs : Nat → Value) : ∀ (l : List (Tmp × Nat)) (a : Act), (putAll xs l a).tmps.size = a.tmps.size
 | [], _ => rfl
 | (d, j) :: l, a => by rw [putAll, size_putAll xs l, put_size]
theorem slot_at {a0 : Act} {L : List Value} {d : List Deferred} (ha : a0 = ⟨L.toArray, d⟩) (n : Nat) {v : Value} (h : L[n]? = some v) : slot a0 n = v := by
 subst ha
 simp [slot, h]
theorem size_at {a0 : Act} {L : List Value} {d : List Deferred} (ha : a0 = ⟨L.toArray, d⟩) : a0.tmps.size = L.length := by subst ha; rfl
section
variable {P : Program} {ops : Array Oper} {a0 : Act} {w0 : World} {Ext : World → World → Prop} {F : List (Value → World → Prop) → Prop} {i : Nat} {o : Oper} {rest : List Oper} {Ts : List (Value → World → Prop)}
def boundsF (n : Nat) (l : List (Tmp × Nat)) (g : Option (Tmp × Bool)) : Bool := (l.all fun x => decide (x.1 < n)) && (match g with | none => true | some (t, _) => decide (t < n))
theorem gives_look {xs : Nat → Value} {l : List (Tmp × Nat)} {g : Option (Tmp × Bool)} {n : Nat} {w : World} {K : Value → World → Prop} (hn : a0.tmps.size = n) (hb : boundsF n l g = true) (hg : guardAt ops o = some g)
  (h : givesF P o g (fun s => lookL xs s (slot a0 s) l) w K) : gives P ops o (putAll xs l a0) w K := by
 unfold boundsF at hb
 rw [Bool.and_eq_true] at hb
 refine gives_slot hg (fun t b e => ?_) ?_
 ·subst e
  rw [size_putAll, hn]
  simpa using hb.2
 ·rw [show slot (putAll xs l a0) = fun s => lookL xs s (slot a0 s) l from funext fun s => slot_putAll xs s l a0 (by rw [hn]; exact hb.1)]
  exact h
theorem lexf_eq {n : Nat} (hn : a0.tmps.size = n) (ps : List (Nat × Bool)) (l : List (Tmp × Nat)) (g : Option (Tmp × Bool)) (hb : boundsF n l g = true) (hg : guardAt ops o = some g)
  (h1 : (ps.all fun x => (preds o).contains x.1 && (dstAt ops x.1).isSome == x.2 && decide (x.1 < i)) = true) (h2 : places ops i = l) (h3 : o.dst.isSome = true) {c : Value}
  (hstep : ∀ (xs : Nat → Value) (w : World), Ext w0 w → holdsL Ts xs w ps → ∀ K : Value → World → Prop, (∀ w', Ext w w' → K c w') → givesF P o g (fun s => lookL xs s (slot a0 s) l) w K)
  (hrest : lexAll P ops a0 w0 Ext F (i + 1) rest (Ts ++ [fun v _ => v = c])) : lexAll P ops a0 w0 Ext F i (o :: rest) Ts :=
 ⟨fun v _ => v = c, fun _ _ _ _ h => h, ⟨ps, l, true, h1, h2, h3, fun xs w hw hp K hK => gives_look hn hb hg (hstep xs w hw hp K fun w' hx => hK c w' rfl hx)⟩, hrest⟩
theorem lq {n : Nat} (hn : a0.tmps.size = n) (ps : List (Nat × Bool)) (l : List (Tmp × Nat)) (g : Option (Tmp × Bool))
  (h : (boundsF n l g, guardAt ops o, (ps.all fun x => (preds o).contains x.1 && (dstAt ops x.1).isSome == x.2 && decide (x.1 < i)), places ops i) = (true, some g, true, l)) (h3 : o.dst.isSome = true) {c : Value}
  (hstep : ∀ (xs : Nat → Value) (w : World), Ext w0 w → holdsL Ts xs w ps → ∀ K : Value → World → Prop, (∀ w', Ext w w' → K c w') → givesF P o g (fun s => lookL xs s (slot a0 s) l) w K)
  (hrest : lexAll P ops a0 w0 Ext F (i + 1) rest (Ts ++ [fun v _ => v = c])) : lexAll P ops a0 w0 Ext F i (o :: rest) Ts := by
 simp only [Prod.mk.injEq] at h
 exact lexf_eq hn ps l g h.1 h.2.1 h.2.2.1 h.2.2.2 h3 hstep hrest
theorem lexf_says {n : Nat} (hn : a0.tmps.size = n) (T : Value → World → Prop) (hT : ∀ v w w', Ext w w' → T v w → T v w') (ps : List (Nat × Bool)) (l : List (Tmp × Nat)) (g : Option (Tmp × Bool)) (hb : boundsF n l g = true) (hg : guardAt ops o = some g)
  (h1 : (ps.all fun x => (preds o).contains x.1 && (dstAt ops x.1).isSome == x.2 && decide (x.1 < i)) = true) (h2 : places ops i = l) (h3 : o.dst.isSome = true)
  (hstep : ∀ (xs : Nat → Value) (w : World), Ext w0 w → holdsL Ts xs w ps → ∀ K : Value → World → Prop, (∀ v w', T v w' → Ext w w' → K v w') → givesF P o g (fun s => lookL xs s (slot a0 s) l) w K)
  (hrest : lexAll P ops a0 w0 Ext F (i + 1) rest (Ts ++ [T])) : lexAll P ops a0 w0 Ext F i (o :: rest) Ts :=
 ⟨T, hT, ⟨ps, l, true, h1, h2, h3, fun xs w hw hp K hK => gives_look hn hb hg (hstep xs w hw hp K fun v w' hv hx => hK v w' hv hx)⟩, hrest⟩
end
theorem wp_region_ext_named {P : Program} {ops : Array Oper} {a0 : Act} {w0 : World} {id : Nat} {Q : Exit → Act → World → Prop} (hm : P.follows .mixedOrders = true) (N : Nat) (Ext : World → World → Prop)
  (h0 : Ext w0.drew w0.drew) (htr : ∀ u v w, Ext u v → Ext v w → Ext u w)
  (hsh : shaped ops a0.tmps.size N = true)
  (l : List (Tmp × Nat)) (hl : placesTo ops N = l) (al : List (Nat × Bool)) (hal : (al.all fun x => decide (x.1 < N) && (dstAt ops x.1).isSome == x.2) = true) {first last : List Oper} (hf : ops.toList.take N = first) (ht : ops.toList.drop N = last)
  (h : ∀ a, a = a0 → lexAll P ops a w0.drew Ext (fun Ts => ∀ (xs : Nat → Value) (w : World), Ext w0.drew w → holdsL Ts xs w al → wpList P ops Q last (putAll xs l a) w) 0 first []) :
  (Code.region id ops true).wp P Q a0 w0 := by
 refine wp_region_lex hm N Ext hsh h0 htr l hl first last hf ht ?_
 exact lexAll_mono (fun Ts hTs xs w hw hv => hTs xs w hw (holdsL_all hv al hal)) _ _ _ (h a0 rfl)
theorem wp_region_grow_named {P : Program} {ops : Array Oper} {a0 : Act} {w0 : World} {id : Nat} {Q : Exit → Act → World → Prop} (hm : P.follows .mixedOrders = true) (N : Nat)
  (hsh : shaped ops a0.tmps.size N = true)
  (l : List (Tmp × Nat)) (hl : placesTo ops N = l) (al : List (Nat × Bool)) (hal : (al.all fun x => decide (x.1 < N) && (dstAt ops x.1).isSome == x.2) = true) {first last : List Oper} (hf : ops.toList.take N = first) (ht : ops.toList.drop N = last)
  (h : ∀ a, a = a0 → lexAll P ops a w0.drew Grow (fun Ts => ∀ (xs : Nat → Value) (w : World), Grow w0.drew w → holdsL Ts xs w al → wpList P ops Q last (putAll xs l a) w) 0 first []) :
  (Code.region id ops true).wp P Q a0 w0 :=
 wp_region_ext_named hm N Grow (Grow.refl _) (fun _ _ _ => Grow.trans) hsh l hl al hal hf ht h
end Go.Proofs.YtmhepfehcakmjaaGreat
namespace Go.Proofs.YtmhepfehcakmjaaGreat
open Go.RowKit
abbrev Kn := List (Nat × Option Tmp × ((Nat → Value) → Value))
def lookV (xs : Nat → Value) (s : Tmp) (v : Value) : Kn → Value
 | [] => v
 | (_, some d, g) :: l => if d = s then g xs else lookV xs s v l
 | (_, none, _) :: l => lookV xs s v l
def knAt (xs : Nat → Value) (k : Nat) : Kn → Value
 | [] => undef
 | (j, _, g) :: l => if j = k then g xs else knAt xs k l
def givesV (P : Program) (o : Oper) (kn : Kn) (f : Tmp → Value) (xs : Nat → Value) (w : World) (K : Value → World → Prop) : Prop :=
 match o.guard with
 | none => givesUpon P K ((execOp (evalF f) o).run P w)
 | some (k, b) => if isB (knAt xs k kn) b = true then givesUpon P K ((execOp (evalF f) o).run P w) else K undef w
def writers (ops : Array Oper) (s : Tmp) : List Nat := (List.range ops.size).filter fun j => dstAt ops j == some s
def waitsFor (ops : Array Oper) (j i : Nat) : Bool := ((ops[j]?).map fun o => (preds o).contains i).getD false
def okAt (ops : Array Oper) (n i : Nat) : Bool :=
 match ops[i]? with
 | none => false
 | some o => (preds o).all (fun j => decide (j < i) && !waitsFor ops j i) && (match o.op with | .select _ _ => false | _ => true) &&
  (match o.guard with | none => true | some (k, _) => (preds o).contains k && ((dstAt ops k).map fun t => decide (t < n) && writers ops t == [k]).getD false) &&
  o.op.operands.toList.all fun x => match x with
   | .tmp s => decide (s < n) && (match writers ops s with | [] => true | [j] => (preds o).contains j || j == i || (decide (i < j) && waitsFor ops j i) | _ => false)
   | _ => true
structure KnOk (ops : Array Oper) (rest : List Oper) (i : Nat) (kn : Kn) (Ts : List (Value → World → Prop)) : Prop where
 row : ∃ tl, ops.toList.drop i = rest ++ tl
 len : Ts.length = i
 old : ∀ e ∈ kn, e.1 < i ∧ e.2.1 = dstAt ops e.1 ∧ ∀ d, e.2.1 = some d → ∀ xs w, (Ts.getD e.1 fun _ _ => True) (xs e.1) w → xs e.1 = e.2.2 xs
 all : ∀ j, j < i → ∃ e ∈ kn, e.1 = j
 ord : (kn.map fun e => e.1).reverse = List.range i
def lexV (P : Program) (ops : Array Oper) (a0 : Act) (w0 : World) (Ext : World → World → Prop) (F : List (Value → World → Prop) → Prop) (i : Nat) (rest : List Oper) (kn : Kn) (Ts : List (Value → World → Prop)) : Prop :=
 KnOk ops rest i kn Ts → lexAll P ops a0 w0 Ext F i rest Ts
theorem lookL_no {xs : Nat → Value} {s : Tmp} : ∀ {l : List (Tmp × Nat)} {v : Value}, (∀ x ∈ l, x.1 ≠ s) → lookL xs s v l = v
 | [], _, _ => rfl
 | (d, j) :: l, v, h => by rw [lookL, if_neg (h (d, j) (by simp)), lookL_no fun x hx => h x (by simp [hx])]
theorem lookL_one {xs : Nat → Value} {s : Tmp} {j : Nat} : ∀ {l : List (Tmp × Nat)} {v : Value}, (∀ x ∈ l, x.1 = s → x.2 = j) → (v = xs j ∨ ∃ x ∈ l, x.1 = s) → lookL xs s v l = xs j
 | [], v, _, h => by rcases h with h | ⟨x, hx, _⟩; exact h; cases hx
 | (d, k) :: l, v, h1, h2 => by
  rw [lookL]
  refine lookL_one (fun x hx => h1 x (by simp [hx])) ?_
  by_cases e : d = s
  ·rw [if_pos e]
   have : k = j := h1 (d, k) (by simp) e
   rw [this]; exact .inl rfl
  ·rw [if_neg e]
   rcases h2 with h2 | ⟨x, hx, hs⟩
   ·exact .inl h2
   ·rcases List.mem_cons.1 hx with rfl | hx
    ·exact absurd hs e
    ·exact .inr ⟨x, hx, hs⟩
theorem lookV_no {xs : Nat → Value} {s : Tmp} {v : Value} : ∀ {l : Kn}, (∀ e ∈ l, e.2.1 ≠ some s) → lookV xs s v l = v
 | [], _ => rfl
 | (k, some d, g) :: l, h => by rw [lookV, if_neg (fun e => h (k, some d, g) (by simp) (by rw [e])), lookV_no fun x hx => h x (by simp [hx])]
 | (k, none, g) :: l, h => by rw [lookV, lookV_no fun x hx => h x (by simp [hx])]
theorem lookV_one {xs : Nat → Value} {s : Tmp} {v c : Value} : ∀ {l : Kn}, (∀ e ∈ l, e.2.1 = some s → e.2.2 xs = c) → (∃ e ∈ l, e.2.1 = some s) → lookV xs s v l = c
 | [], _, ⟨_, hx, _⟩ => by cases hx
 | (k, some d, g) :: l, h1, h2 => by
  rw [lookV]
  by_cases e : d = s
  ·rw [if_pos e]; exact h1 (k, some d, g) (by simp) (by rw [e])
  ·rw [if_neg e]
   refine lookV_one (fun x hx => h1 x (by simp [hx])) ?_
   obtain ⟨x, hx, hs⟩ := h2
   rcases List.mem_cons.1 hx with rfl | hx
   ·exact absurd (Option.some.inj hs) e
   ·exact ⟨x, hx, hs⟩
 | (k, none, g) :: l, h1, h2 => by
  rw [lookV]
  refine lookV_one (fun x hx => h1 x (by simp [hx])) ?_
  obtain ⟨x, hx, hs⟩ := h2
  rcases List.mem_cons.1 hx with rfl | hx
  ·cases hs
  ·exact ⟨x, hx, hs⟩
theorem knAt_one {xs : Nat → Value} {k : Nat} {c : Value} : ∀ {l : Kn}, (∀ e ∈ l, e.1 = k → e.2.2 xs = c) → (∃ e ∈ l, e.1 = k) → knAt xs k l = c
 | [], _, ⟨_, hx, _⟩ => by cases hx
 | (j, d, g) :: l, h1, h2 => by
  rw [knAt]
  by_cases e : j = k
  ·rw [if_pos e]; exact h1 (j, d, g) (by simp) e
  ·rw [if_neg e]
   refine knAt_one (fun x hx => h1 x (by simp [hx])) ?_
   obtain ⟨x, hx, hs⟩ := h2
   rcases List.mem_cons.1 hx with rfl | hx
   ·exact absurd hs e
   ·exact ⟨x, hx, hs⟩
theorem mem_places {ops : Array Oper} {i : Nat} {x : Tmp × Nat} : x ∈ places ops i ↔ x.2 < ops.size ∧ x.2 ≠ i ∧ waitsFor ops x.2 i = false ∧ dstAt ops x.2 = some x.1 := by
 obtain ⟨d, j⟩ := x
 unfold places waitsFor
 simp only [List.mem_filterMap, List.mem_range]
 constructor
 ·rintro ⟨k, hk, h⟩
  split at h
  ·cases h
  ·rename_i hc
   simp only [Bool.or_eq_true, beq_iff_eq, not_or, Bool.not_eq_true] at hc
   cases hd : dstAt ops k with
   | none => rw [hd] at h; cases h
   | some e =>
    rw [hd] at h
    simp only [Option.map_some, Option.some.injEq, Prod.mk.injEq] at h
    obtain ⟨rfl, rfl⟩ := h
    exact ⟨hk, hc.1, hc.2, hd⟩
 ·rintro ⟨h1, h2, h3, h4⟩
  refine ⟨j, h1, ?_⟩
  rw [if_neg (by simp only [Bool.or_eq_true, beq_iff_eq, not_or, Bool.not_eq_true]; exact ⟨h2, h3⟩), h4]
  rfl
theorem mem_writers {ops : Array Oper} {s : Tmp} {j : Nat} : j ∈ writers ops s ↔ j < ops.size ∧ dstAt ops j = some s := by
 unfold writers; simp
theorem dst_lt {ops : Array Oper} {j : Nat} {s : Tmp} (h : dstAt ops j = some s) : j < ops.size := by
 rcases Nat.lt_or_ge j ops.size with h' | h'
 ·exact h'
 ·unfold dstAt at h; simp [Array.getElem?_eq_none h'] at h
section
variable {P : Program} {ops : Array Oper} {a0 : Act} {w0 : World} {Ext : World → World → Prop} {F : List (Value → World → Prop) → Prop} {i : Nat} {o : Oper} {rest : List Oper} {kn : Kn} {Ts : List (Value → World → Prop)}
theorem facts_of {xs : Nat → Value} {w : World} : ∀ {ps : List (Nat × Bool)}, holdsL Ts xs w ps → ∀ j, (j, true) ∈ ps → (Ts.getD j fun _ _ => True) (xs j) w
 | (k, b) :: l, h, j, hj => by
  rcases List.mem_cons.1 hj with e | hj
  ·cases e; exact h.1
  ·exact facts_of h.2 j hj
theorem slot_of {xs : Nat → Value} {w : World} {s : Tmp} (hk : KnOk ops (o :: rest) i kn Ts) (hp : ∀ j ∈ preds o, dstAt ops j ≠ none → (Ts.getD j fun _ _ => True) (xs j) w) (hlt : ∀ j ∈ preds o, j < i) (hnw : ∀ j ∈ preds o, waitsFor ops j i = false)
  (hw : match writers ops s with | [] => True | [j] => (preds o).contains j = true ∨ j = i ∨ (i < j ∧ waitsFor ops j i = true) | _ => False) :
  lookL xs s (slot a0 s) (places ops i) = lookV xs s (slot a0 s) kn := by
 have hall : ∀ j, dstAt ops j = some s → j ∈ writers ops s := fun j h => mem_writers.2 ⟨dst_lt h, h⟩
 generalize hW : writers ops s = W at hw hall
 match W, hw with
 | [], _ =>
  rw [lookL_no, lookV_no]
  ·intro e he h
   obtain ⟨_, h2, _⟩ := hk.old e he
   rw [h2] at h
   have := hall _ h
   cases this
  ·intro x hx h
   have := hall x.2 (by rw [(mem_places.1 hx).2.2.2, h])
   cases this
 | [j], hw =>
  have hone : ∀ k, dstAt ops k = some s → k = j := fun k h => by simpa using hall k h
  have hj : dstAt ops j = some s := (mem_writers.1 (by rw [hW]; simp)).2
  by_cases hc : (preds o).contains j = true
  ·have hjp : j ∈ preds o := by simpa using hc
   have hji := hlt j hjp
   have hT := hp j hjp (by rw [hj]; exact fun h => by cases h)
   rw [lookL_one (j := j), lookV_one (c := xs j)]
   ·intro e he h
    obtain ⟨_, h2, h3⟩ := hk.old e he
    have e1 : e.1 = j := hone _ (by rw [← h2, h])
    rw [← h3 s h xs w (by rw [e1]; exact hT), e1]
   ·obtain ⟨e, he, h1⟩ := hk.all j hji
    exact ⟨e, he, by rw [(hk.old e he).2.1, h1, hj]⟩
   ·intro x hx h
    exact hone _ (by rw [(mem_places.1 hx).2.2.2, h])
   ·exact .inr ⟨(s, j), mem_places.2 ⟨dst_lt hj, by simp; omega, hnw j hjp, hj⟩, rfl⟩
  ·have hc' : j = i ∨ (i < j ∧ waitsFor ops j i = true) := hw.resolve_left hc
   rw [lookL_no, lookV_no]
   ·intro e he h
    obtain ⟨h1, h2, _⟩ := hk.old e he
    have e1 : e.1 = j := hone _ (by rw [← h2, h])
    rcases hc' with h | h <;> omega
   ·intro x hx h
    obtain ⟨_, g2, g3, g4⟩ := mem_places.1 hx
    have e1 : x.2 = j := hone _ (by rw [g4, h])
    rw [e1] at g2 g3
    rcases hc' with h | ⟨_, h⟩
    ·exact g2 h
    ·rw [h] at g3; cases g3
theorem okAt_parts {n : Nat} (ho : ops[i]? = some o) (h : okAt ops n i = true) : (∀ j ∈ preds o, j < i) ∧ (∀ j ∈ preds o, waitsFor ops j i = false) ∧ (∀ cs b, o.op ≠ .select cs b) ∧
  (∀ k b, o.guard = some (k, b) → k ∈ preds o ∧ ∃ t, dstAt ops k = some t ∧ t < n ∧ writers ops t = [k]) ∧
  (∀ s, Operand.tmp s ∈ o.op.operands → s < n ∧ match writers ops s with | [] => True | [j] => (preds o).contains j = true ∨ j = i ∨ (i < j ∧ waitsFor ops j i = true) | _ => False) := by
 unfold okAt at h
 rw [ho] at h
 simp only [Bool.and_eq_true, List.all_eq_true, decide_eq_true_eq, Bool.not_eq_true'] at h
 obtain ⟨⟨⟨h1, h2⟩, h3⟩, h4⟩ := h
 refine ⟨fun j hj => (h1 j hj).1, fun j hj => (h1 j hj).2, fun cs b e => ?_, fun k b e => ?_, fun s hs => ?_⟩
 ·rw [e] at h2; cases h2
 ·rw [e] at h3
  simp only [Bool.and_eq_true] at h3
  refine ⟨by simpa using h3.1, ?_⟩
  cases hd : dstAt ops k with
  | none => rw [hd] at h3; simp at h3
  | some t =>
   rw [hd] at h3
   simp only [Option.map_some, Option.getD_some, Bool.and_eq_true, decide_eq_true_eq, beq_iff_eq] at h3
   exact ⟨t, rfl, h3.2.1, h3.2.2⟩
 ·have h5 := h4 (.tmp s) (by simpa using hs)
  simp only [Bool.and_eq_true, decide_eq_true_eq] at h5
  refine ⟨h5.1, ?_⟩
  have h6 := h5.2
  generalize writers ops s = W at h6
  match W, h6 with
  | [], _ => trivial
  | [j], h6 =>
   simp only [Bool.or_eq_true, beq_iff_eq, Bool.and_eq_true, decide_eq_true_eq] at h6
   rcases h6 with (h | h) | h
   ·exact .inl h
   ·exact .inr (.inl h)
   ·exact .inr (.inr h)
theorem guardAt_none (hg : o.guard = none) : guardAt ops o = some none := by unfold guardAt; rw [hg]
theorem guardAt_some {k t : Nat} {b : Bool} (hg : o.guard = some (k, b)) (hd : dstAt ops k = some t) : guardAt ops o = some (some (t, b)) := by
 unfold guardAt
 rw [hg]
 unfold dstAt at hd
 simp only [hd]
theorem gives_of_V {n : Nat} {xs : Nat → Value} {w : World} {K : Value → World → Prop} (hn : a0.tmps.size = n) (hk : KnOk ops (o :: rest) i kn Ts) (hok : okAt ops n i = true)
  (hp : ∀ j ∈ preds o, dstAt ops j ≠ none → (Ts.getD j fun _ _ => True) (xs j) w) (h : givesV P o kn (fun s => lookV xs s (slot a0 s) kn) xs w K) : gives P ops o (putAll xs (places ops i) a0) w K := by
 have ho : ops[i]? = some o := by
  obtain ⟨tl, ht⟩ := hk.row
  have : (ops.toList.drop i)[0]? = some o := by rw [ht]; rfl
  rw [List.getElem?_drop] at this
  simpa using this
 obtain ⟨h1, h2, h3, h4, h5⟩ := okAt_parts ho hok
 have hsl : ∀ s, slot (putAll xs (places ops i) a0) s = lookL xs s (slot a0 s) (places ops i) ∨ ∃ x ∈ places ops i, ¬ x.1 < a0.tmps.size := by
  intro s
  by_cases hb : ((places ops i).all fun x => decide (x.1 < a0.tmps.size)) = true
  ·exact .inl (slot_putAll xs s _ a0 hb)
  ·right
   simp only [List.all_eq_true, decide_eq_true_eq, Classical.not_forall] at hb
   obtain ⟨x, hx, hb⟩ := hb
   exact ⟨x, hx, hb⟩
 have key : ∀ (s : Tmp), s < n → (match writers ops s with | [] => True | [j] => (preds o).contains j = true ∨ j = i ∨ (i < j ∧ waitsFor ops j i = true) | _ => False) → slot (putAll xs (places ops i) a0) s = lookV xs s (slot a0 s) kn := by
  intro s hs hw
  rw [← slot_of (a0 := a0) hk hp h1 h2 hw]
  have : ∀ (l : List (Tmp × Nat)) (a : Act), s < a.tmps.size → slot (putAll xs l a) s = lookL xs s (slot a s) l := by
   intro l
   induction l with
   | nil => intro a _; rfl
   | cons x l ih =>
    intro a ha
    obtain ⟨d, j⟩ := x
    rw [putAll, ih _ (by rw [put_size]; exact ha), lookL]
    congr 1
    by_cases e : d = s
    ·subst e
     rw [if_pos rfl]
     exact (slot_put a d d (xs j) ha).trans (if_pos rfl)
    ·rw [if_neg e]
     unfold slot
     rw [Array.getD_eq_getD_getElem?, Array.getD_eq_getD_getElem?, put_other _ _ _ _ (fun h => e (Option.some.inj h))]
  exact this _ _ (by rw [hn]; exact hs)
 have hev : execOp (evalF (slot (putAll xs (places ops i) a0))) o = execOp (evalF (fun s => lookV xs s (slot a0 s) kn)) o := by
  refine execOp_congr o h3 fun x hx => ?_
  cases x with
  | tmp s => exact key s (h5 s hx).1 (h5 s hx).2
  | const v => rfl
  | global g => rfl
  | func f => rfl
 unfold givesV at h
 cases hg : o.guard with
 | none =>
  rw [hg] at h
  refine gives_slot (guardAt_none hg) (fun _ _ e => by cases e) ?_
  unfold givesF
  rw [hev]
  exact h
 | some kb =>
  obtain ⟨k, b⟩ := kb
  rw [hg] at h
  obtain ⟨g1, t, g2, g3, g4⟩ := h4 k b hg
  refine gives_slot (guardAt_some hg g2) (fun t' b' e => by cases e; rw [size_putAll, hn]; exact g3) ?_
  have hgv : slot (putAll xs (places ops i) a0) t = knAt xs k kn := by
   rw [key t g3 (by rw [g4]; exact .inl (by simpa using g1))]
   have hT := hp k g1 (by rw [g2]; exact fun h => by cases h)
   rw [lookV_one (c := xs k), knAt_one (c := xs k)]
   ·intro e he h
    obtain ⟨_, q2, q3⟩ := hk.old e he
    rw [← q3 t (by rw [q2, h, g2]) xs w (by rw [h]; exact hT), h]
   ·exact hk.all k (h1 k g1)
   ·intro e he h
    obtain ⟨_, q2, q3⟩ := hk.old e he
    have e1 : e.1 = k := by
     have : e.1 ∈ writers ops t := mem_writers.2 ⟨dst_lt (by rw [← q2, h]), by rw [← q2, h]⟩
     rw [g4] at this
     simpa using this
    rw [← q3 t h xs w (by rw [e1]; exact hT), e1]
   ·obtain ⟨e, he, e1⟩ := hk.all k (h1 k g1)
    exact ⟨e, he, by rw [(hk.old e he).2.1, e1, g2]⟩
  unfold givesF
  rw [hev]
  dsimp only
  rw [hgv]
  exact h
def psOf (ops : Array Oper) (o : Oper) : List (Nat × Bool) := (preds o).map fun j => (j, (dstAt ops j).isSome)
theorem psOf_ok (hlt : ∀ j ∈ preds o, j < i) : ((psOf ops o).all fun x => (preds o).contains x.1 && (dstAt ops x.1).isSome == x.2 && decide (x.1 < i)) = true := by
 unfold psOf
 rw [List.all_map]
 simp only [List.all_eq_true, Function.comp, Bool.and_eq_true, beq_self_eq_true, and_true, decide_eq_true_eq]
 exact fun j hj => ⟨by simpa using hj, hlt j hj⟩
theorem psOf_facts {xs : Nat → Value} {w : World} (h : holdsL Ts xs w (psOf ops o)) : ∀ j ∈ preds o, dstAt ops j ≠ none → (Ts.getD j fun _ _ => True) (xs j) w := by
 intro j hj hd
 refine facts_of h j ?_
 unfold psOf
 refine List.mem_map.2 ⟨j, hj, ?_⟩
 cases e : dstAt ops j with
 | none => exact absurd e hd
 | some d => rfl
theorem holdsL_mono {xs : Nat → Value} {w : World} : ∀ {ps qs : List (Nat × Bool)}, (∀ x ∈ qs, x ∈ ps) → holdsL Ts xs w ps → holdsL Ts xs w qs
 | _, [], _, _ => trivial
 | ps, (j, b) :: qs, h, hp => by
  refine ⟨?_, holdsL_mono (fun x hx => h x (by simp [hx])) hp⟩
  have hm := h (j, b) (by simp)
  clear h
  induction ps with
  | nil => cases hm
  | cons y ps ih =>
   rcases List.mem_cons.1 hm with rfl | hm
   ·exact hp.1
   ·exact ih hp.2 hm
theorem KnOk.at (hk : KnOk ops (o :: rest) i kn Ts) : ops[i]? = some o := by
 obtain ⟨tl, ht⟩ := hk.row
 have : (ops.toList.drop i)[0]? = some o := by rw [ht]; rfl
 rw [List.getElem?_drop] at this
 simpa using this
theorem KnOk.next (hk : KnOk ops (o :: rest) i kn Ts) {g : (Nat → Value) → Value} {T : Value → World → Prop} (hg : ∀ d, o.dst = some d → ∀ xs w, T (xs i) w → xs i = g xs) : KnOk ops rest (i + 1) ((i, o.dst, g) :: kn) (Ts ++ [T]) := by
 have hd : dstAt ops i = o.dst := by unfold dstAt; rw [hk.at]; rfl
 refine ⟨?_, by simp [hk.len], ?_, ?_, by rw [List.map_cons, List.reverse_cons, hk.ord, List.range_succ]⟩
 ·obtain ⟨tl, ht⟩ := hk.row
  refine ⟨tl, ?_⟩
  rw [← List.drop_drop, ht]
  rfl
 ·intro e he
  rcases List.mem_cons.1 he with rfl | he
  ·refine ⟨Nat.lt_succ_self _, hd.symm, fun d hd xs w h => hg d hd xs w ?_⟩
   rw [List.getD_eq_getElem?_getD, List.getElem?_append_right (by rw [hk.len]; exact Nat.le_refl _), hk.len, Nat.sub_self] at h
   exact h
  ·obtain ⟨h1, h2, h3⟩ := hk.old e he
   refine ⟨Nat.lt_succ_of_lt h1, h2, fun d hd xs w h => h3 d hd xs w ?_⟩
   rw [List.getD_eq_getElem?_getD, List.getElem?_append_left (by rw [hk.len]; exact h1), ← List.getD_eq_getElem?_getD] at h
   exact h
 ·intro j hj
  by_cases e : j = i
  ·subst e; exact ⟨_, List.mem_cons_self, rfl⟩
  ·obtain ⟨x, hx, h1⟩ := hk.all j (by omega)
   exact ⟨x, by simp [hx], h1⟩
theorem lxv {n : Nat} (hn : a0.tmps.size = n) (hE : ∀ u, Ext u u) (hok : okAt ops n i = true) (hds : o.dst.isSome = true) {c : Value}
  (hstep : ∀ (xs : Nat → Value) (w : World), Ext w0 w → ∀ K : Value → World → Prop, K c w → givesV P o kn (fun s => lookV xs s (slot a0 s) kn) xs w K)
  (hrest : lexV P ops a0 w0 Ext F (i + 1) rest ((i, o.dst, fun _ => c) :: kn) (Ts ++ [fun v _ => v = c])) : lexV P ops a0 w0 Ext F i (o :: rest) kn Ts := fun hk =>
 ⟨fun v _ => v = c, fun _ _ _ _ h => h, ⟨psOf ops o, _, true, psOf_ok (okAt_parts hk.at hok).1, rfl, hds, fun xs w hw hp K hK => gives_of_V hn hk hok (psOf_facts hp) (hstep xs w hw K (hK c w rfl (hE w)))⟩, hrest (hk.next fun _ _ _ _ h => h)⟩
theorem lxe {n : Nat} (hn : a0.tmps.size = n) (ps : List (Nat × Bool)) (hok : (okAt ops n i && ps.all fun x => (((ops[i]?).map preds).getD []).contains x.1 && (dstAt ops x.1).isSome == x.2) = true) (hds : o.dst.isSome = true) {c : Value}
  (hstep : ∀ (xs : Nat → Value) (w : World), Ext w0 w → holdsL Ts xs w ps → ∀ K : Value → World → Prop, (∀ w', Ext w w' → K c w') → givesV P o kn (fun s => lookV xs s (slot a0 s) kn) xs w K)
  (hrest : lexV P ops a0 w0 Ext F (i + 1) rest ((i, o.dst, fun _ => c) :: kn) (Ts ++ [fun v _ => v = c])) : lexV P ops a0 w0 Ext F i (o :: rest) kn Ts := fun hk => by
 rw [Bool.and_eq_true] at hok
 obtain ⟨hok, hps⟩ := hok
 have hsub : ∀ x ∈ ps, x ∈ psOf ops o := by
  intro x hx
  have := List.all_eq_true.1 hps x hx
  rw [hk.at] at this
  simp only [Option.map_some, Option.getD_some, Bool.and_eq_true, beq_iff_eq] at this
  refine List.mem_map.2 ⟨x.1, by simpa using this.1, ?_⟩
  rw [this.2]
 exact ⟨fun v _ => v = c, fun _ _ _ _ h => h, ⟨psOf ops o, _, true, psOf_ok (okAt_parts hk.at hok).1, rfl, hds, fun xs w hw hp K hK => gives_of_V hn hk hok (psOf_facts hp) (hstep xs w hw (holdsL_mono hsub hp) K fun w' hx => hK c w' rfl hx)⟩, hrest (hk.next fun _ _ _ _ h => h)⟩
theorem lxs {n : Nat} (hn : a0.tmps.size = n) (T : Value → World → Prop) (hT : ∀ v w w', Ext w w' → T v w → T v w') (ps : List (Nat × Bool)) (hok : (okAt ops n i && ps.all fun x => (((ops[i]?).map preds).getD []).contains x.1 && (dstAt ops x.1).isSome == x.2) = true) (hds : o.dst.isSome = true)
  (hstep : ∀ (xs : Nat → Value) (w : World), Ext w0 w → holdsL Ts xs w ps → ∀ K : Value → World → Prop, (∀ v w', T v w' → Ext w w' → K v w') → givesV P o kn (fun s => lookV xs s (slot a0 s) kn) xs w K)
  (hrest : lexV P ops a0 w0 Ext F (i + 1) rest ((i, o.dst, fun xs => xs i) :: kn) (Ts ++ [T])) : lexV P ops a0 w0 Ext F i (o :: rest) kn Ts := fun hk => by
 rw [Bool.and_eq_true] at hok
 obtain ⟨hok, hps⟩ := hok
 have hsub : ∀ x ∈ ps, x ∈ psOf ops o := by
  intro x hx
  have := List.all_eq_true.1 hps x hx
  rw [hk.at] at this
  simp only [Option.map_some, Option.getD_some, Bool.and_eq_true, beq_iff_eq] at this
  refine List.mem_map.2 ⟨x.1, by simpa using this.1, ?_⟩
  rw [this.2]
 exact ⟨T, hT, ⟨psOf ops o, _, true, psOf_ok (okAt_parts hk.at hok).1, rfl, hds, fun xs w hw hp K hK => gives_of_V hn hk hok (psOf_facts hp) (hstep xs w hw (holdsL_mono hsub hp) K fun v w' hv hx => hK v w' hv hx)⟩, hrest (hk.next fun _ _ _ _ _ => rfl)⟩
theorem lxn {n : Nat} (hn : a0.tmps.size = n) (T : World → Prop) (hT : ∀ w w', Ext w w' → T w → T w') (ps : List (Nat × Bool)) (hok : (okAt ops n i && ps.all fun x => (((ops[i]?).map preds).getD []).contains x.1 && (dstAt ops x.1).isSome == x.2) = true) (hds : o.dst.isSome = false)
  (hstep : ∀ (xs : Nat → Value) (w : World), Ext w0 w → holdsL Ts xs w ps → ∀ K : Value → World → Prop, (∀ v w', T w' → Ext w w' → K v w') → givesV P o kn (fun s => lookV xs s (slot a0 s) kn) xs w K)
  (hrest : lexV P ops a0 w0 Ext F (i + 1) rest ((i, o.dst, fun _ => undef) :: kn) (Ts ++ [fun _ w => T w])) : lexV P ops a0 w0 Ext F i (o :: rest) kn Ts := fun hk => by
 rw [Bool.and_eq_true] at hok
 obtain ⟨hok, hps⟩ := hok
 have hsub : ∀ x ∈ ps, x ∈ psOf ops o := by
  intro x hx
  have := List.all_eq_true.1 hps x hx
  rw [hk.at] at this
  simp only [Option.map_some, Option.getD_some, Bool.and_eq_true, beq_iff_eq] at this
  refine List.mem_map.2 ⟨x.1, by simpa using this.1, ?_⟩
  rw [this.2]
 exact ⟨fun _ w => T w, fun _ w w' hx h => hT w w' hx h, ⟨psOf ops o, _, false, psOf_ok (okAt_parts hk.at hok).1, rfl, hds, fun xs w hw hp K hK => gives_of_V hn hk hok (psOf_facts hp) (hstep xs w hw (holdsL_mono hsub hp) K fun v w' hv hx => hK v w' hv hx)⟩, hrest (hk.next fun d hd => by rw [hd] at hds; cases hds)⟩
theorem hzv : (∀ (Ts : List (Value → World → Prop)) (xs : Nat → Value) (w : World), holdsL Ts xs w [] = True) ∧ (∀ (Ts : List (Value → World → Prop)) (xs : Nat → Value) (w : World) (j : Nat) (l : List (Nat × Bool)), holdsL Ts xs w ((j, true) :: l) = ((Ts.getD j fun _ _ => True) (xs j) w ∧ holdsL Ts xs w l)) ∧
  (∀ (Ts : List (Value → World → Prop)) (xs : Nat → Value) (w : World) (j : Nat) (l : List (Nat × Bool)), holdsL Ts xs w ((j, false) :: l) = ((Ts.getD j fun _ _ => True) undef w ∧ holdsL Ts xs w l)) ∧ (∀ l : List (Value → World → Prop), [] ++ l = l) ∧
  (∀ (a : Value → World → Prop) (l m : List (Value → World → Prop)), (a :: l) ++ m = a :: (l ++ m)) ∧ (∀ (a : Value → World → Prop) (l : List (Value → World → Prop)) (n : Nat) (d : Value → World → Prop), (a :: l).getD (n + 1) d = l.getD n d) ∧
  (∀ (a : Value → World → Prop) (l : List (Value → World → Prop)) (d : Value → World → Prop), (a :: l).getD 0 d = a) ∧ (∀ p : Prop, (p ∧ True) = p) :=
 ⟨fun _ _ _ => rfl, fun _ _ _ _ _ => rfl, fun _ _ _ _ _ => rfl, fun _ => rfl, fun _ _ _ => rfl, fun _ _ _ _ => rfl, fun _ _ _ => rfl, fun _ => and_true _⟩
def putV (xs : Nat → Value) : Kn → Act → Act
 | [], a => a
 | (_, d, g) :: l, a => (putV xs l a).put d (g xs)
theorem putV_eq {xs : Nat → Value} : ∀ {l : Kn} {a : Act}, (∀ e ∈ l, e.2.1 = dstAt ops e.1 ∧ (e.2.1 ≠ none → xs e.1 = e.2.2 xs)) → putV xs l a = (l.map fun e => e.1).reverse.foldl (fun a j => a.put (dstAt ops j) (xs j)) a
 | [], _, _ => rfl
 | (j, d, g) :: l, a, h => by
  obtain ⟨h1, h2⟩ := h (j, d, g) (by simp)
  rw [putV, putV_eq fun e he => h e (by simp [he]), List.map_cons, List.reverse_cons, List.foldl_append, List.foldl_cons, List.foldl_nil]
  simp only at h1 h2
  rw [h1]
  cases hd : dstAt ops j with
  | none => rfl
  | some s => rw [h2 (by rw [h1, hd]; exact fun h => by cases h)]
theorem rgx {id N : Nat} {Q : Exit → Act → World → Prop} (hm : P.follows .mixedOrders = true) (Ext : World → World → Prop) (h0 : Ext w0.drew w0.drew) (htr : ∀ u v w, Ext u v → Ext v w → Ext u w) (hsh : shaped ops a0.tmps.size N = true) {first last : List Oper} (hf : ops.toList.take N = first) (ht : ops.toList.drop N = last)
  (h : ∀ a, a = a0 → lexV P ops a w0.drew Ext (fun Ts => ∀ (xs : Nat → Value) (w : World), Ext w0.drew w → (∀ j, j < N → (Ts.getD j fun _ _ => True) (dv (dstAt ops j) (xs j)) w) → wpList P ops Q last (putAll xs (placesTo ops N) a) w) 0 first [] []) :
  (Code.region id ops true).wp P Q a0 w0 :=
 wp_region_lex hm N Ext hsh h0 htr _ rfl first last hf ht (h a0 rfl ⟨⟨ops.toList.drop N, by rw [← hf]; simp⟩, rfl, fun e he => (by cases he), fun j hj => (by omega), rfl⟩)
theorem rgv {id : Nat} {Q : Exit → Act → World → Prop} (N : Nat) (hm : P.follows .mixedOrders = true) (hsh : shaped ops a0.tmps.size N = true) {first last : List Oper} (hf : ops.toList.take N = first) (ht : ops.toList.drop N = last)
  (h : ∀ a, a = a0 → lexV P ops a w0.drew Grow (fun Ts => ∀ (xs : Nat → Value) (w : World), Grow w0.drew w → (∀ j, j < N → (Ts.getD j fun _ _ => True) (dv (dstAt ops j) (xs j)) w) → wpList P ops Q last (putAll xs (placesTo ops N) a) w) 0 first [] []) :
  (Code.region id ops true).wp P Q a0 w0 := rgx hm Grow (Grow.refl _) (fun _ _ _ => Grow.trans) hsh hf ht h
theorem rgd {N : Nat} {Q : Exit → Act → World → Prop} {last : List Oper} (al : List (Nat × Bool)) (hal : (al.all fun x => decide (x.1 < N) && (dstAt ops x.1).isSome == x.2) = true) (hi : i = N)
  (h : ∀ (xs : Nat → Value) (w : World), Ext w0 w → holdsL Ts xs w al → wpList P ops Q last (putV xs kn a0) w) :
  lexV P ops a0 w0 Ext (fun Ts => ∀ (xs : Nat → Value) (w : World), Ext w0 w → (∀ j, j < N → (Ts.getD j fun _ _ => True) (dv (dstAt ops j) (xs j)) w) → wpList P ops Q last (putAll xs (placesTo ops N) a0) w) i [] kn Ts := by
 intro hk xs w hw hv
 subst hi
 have := h xs w hw (holdsL_all hv al hal)
 rw [putV_eq (ops := ops), hk.ord] at this
 ·rw [← frmTo_places]
  exact this
 ·intro e he
  obtain ⟨h1, h2, h3⟩ := hk.old e he
  refine ⟨h2, fun hn => ?_⟩
  cases hd : e.2.1 with
  | none => exact absurd hd hn
  | some d =>
   refine h3 d hd xs w ?_
   have := hv e.1 h1
   rw [← h2, hd] at this
   exact this
end
end Go.Proofs.YtmhepfehcakmjaaGreat
namespace Go.Proofs.YtmhepfehcakmjaaGreat
open Go.RowKit
section
variable {P : Program} {ops : Array Oper} {N : Nat} {a0 : Act} {w0 : World} {m : Nat} {late : Nat → Bool} {T U : Nat → Value → World → Prop} {Ext : World → World → Prop} {L : Array Bool} {a : Act} {w : World}
def UnderM (P : Program) (ops : Array Oper) (N : Nat) (a0 : Act) (w0 : World) (m : Nat) (T U : Nat → Value → World → Prop) (Ext : World → World → Prop) (L : Array Bool) (a : Act) (w : World) : Prop :=
 Under P ops N a0 w0 T Ext L a w ∧ (L.getD m true = false → ∀ j, j < ops.size → L.getD j true = true → U j (valAt a (dstAt ops j)) w)
def stepAtM (P : Program) (ops : Array Oper) (a0 : Act) (w0 : World) (m : Nat) (T U : Nat → Value → World → Prop) (Ext : World → World → Prop) (i : Nat) (o : Oper) : Prop :=
 ∀ (xs : Nat → Value) (w : World), Ext w0 w → (∀ j ∈ preds o, T j (dv (dstAt ops j) (xs j)) w) → (i = m → ∀ j ∈ preds o, U j (dv (dstAt ops j) (xs j)) w) →
  ∀ K : Value → World → Prop, (∀ v w', T i (dv o.dst v) w' → (i = m → Ext w w') → (i ≠ m → U i (dv o.dst v) w' ∧ Grow w w') → K v w') → gives P ops o (frm ops i xs a0) w K
theorem under_stepM {i : Nat} {o : Oper} {v : Value} {w' : World} (hs : ∀ j s, dstAt ops j = some s → s < a0.tmps.size) (hd : ∀ j k s, j ≠ k → dstAt ops j = some s → dstAt ops k ≠ some s)
  (h : Under P ops N a0 w0 T Ext L a w) (ho : ops[i]? = some o) (hi : L.getD i true = false) (hp : ∀ k ∈ preds o, L.getD k false = true) (hN : i < N)
  (hx : Ext w0 w') (hkeep : ∀ j, j < ops.size → L.getD j true = true → T j (valAt a (dstAt ops j)) w') (hv : T i (dv o.dst v) w') : Under P ops N a0 w0 T Ext (L.setIfInBounds i true) (a.put o.dst v) w' := by
 have hil : i < L.size := by
  rcases Nat.lt_or_ge i L.size with h' | h'
  ·exact h'
  ·rw [Array.getD_eq_getD_getElem?, Array.getElem?_eq_none h'] at hi; simp at hi
 have hdi : dstAt ops i = o.dst := by simp [dstAt, ho]
 have hset : ∀ j d, (L.setIfInBounds i true).getD j d = if j = i then true else L.getD j d := by
  intro j d
  simp only [Array.getD_eq_getD_getElem?]
  by_cases hj : j = i
  ·subst hj; simp [hil]
  ·rw [Array.getElem?_setIfInBounds_ne (fun e => hj e.symm), if_neg hj]
 refine ⟨by simp [h.lsize], by rw [put_size, h.size], by rw [put_defers', h.defers], hx, ?_, ?_, ?_, ?_⟩
 ·intro s hns
  rw [put_other _ _ _ _ (by have := hns i (h.lsize ▸ hil) (by rw [hset, if_pos rfl]); rwa [hdi] at this)]
  refine h.other s fun j hj hl => hns j hj ?_
  rw [hset]; split <;> simp [hl]
 ·intro j hj hl
  by_cases hji : j = i
  ·subst hji
   rw [hdi, put_same _ _ _ (fun s hs' => by rw [h.size]; exact hs j s (hdi.trans hs'))]
   exact hv
  ·rw [hset, if_neg hji] at hl
   rw [put_valAt _ _ _ _ (fun s hs' => hd i j s (fun e => hji e.symm) (hdi.trans hs'))]
   exact hkeep j hj hl
 ·intro j o' ho' hl k hk
  rw [hset]
  split
  ·rfl
  ·by_cases hji : j = i
   ·subst hji
    rw [ho] at ho'
    cases ho'
    exact hp k hk
   ·rw [hset, if_neg hji] at hl
    exact h.down j o' ho' hl k hk
 ·intro j hNj hj
  rw [hset, if_neg (by omega)]
  exact h.tail j hNj hj
theorem late_not (hlt : ∀ j o, ops[j]? = some o → ∀ k ∈ preds o, k < j) (hla : ∀ j o, ops[j]? = some o → late j = true → j = m ∨ ∃ k ∈ preds o, late k = true) (h : Under P ops N a0 w0 T Ext L a w) (hm : L.getD m true = false) :
  ∀ j, j < ops.size → L.getD j true = true → late j = false := by
 intro j
 induction j using Nat.strongRecOn with
 | _ j ih =>
  intro hj hl
  cases hc : late j with
  | false => rfl
  | true =>
   have ho : ops[j]? = some ops[j] := by simp [hj]
   rcases hla j _ ho hc with rfl | ⟨k, hk, hkl⟩
   ·rw [hm] at hl; cases hl
   ·have h1 := h.down j _ ho hl k hk
    have hkj := hlt j _ ho k hk
    have hk' : k < L.size := by rw [h.lsize]; omega
    have := ih k hkj (by omega) (by simp only [Array.getD, hk', dite_true] at h1 ⊢; exact h1)
    rw [hkl] at this; cases this
theorem underM_step {i : Nat} {o : Oper} {v : Value} {w' : World} (hs : ∀ j s, dstAt ops j = some s → s < a0.tmps.size) (hd : ∀ j k s, j ≠ k → dstAt ops j = some s → dstAt ops k ≠ some s)
  (hlt : ∀ j o, ops[j]? = some o → ∀ k ∈ preds o, k < j) (hla : ∀ j o, ops[j]? = some o → late j = true → j = m ∨ ∃ k ∈ preds o, late k = true) (hsg : ∀ j v w w', Grow w w' → T j v w → T j v w') (hse : ∀ j, late j = false → ∀ v w w', Ext w w' → T j v w → T j v w') (hsu : ∀ j v w w', Grow w w' → U j v w → U j v w') (hge : ∀ u v, Grow u v → Ext u v) (htr : ∀ u v w, Ext u v → Ext v w → Ext u w)
  (hM : UnderM P ops N a0 w0 m T U Ext L a w) (ho : ops[i]? = some o) (hi : L.getD i true = false) (hp : ∀ k ∈ preds o, L.getD k false = true) (hN : i < N)
  (hv : T i (dv o.dst v) w') (hx : i = m → Ext w w') (hu : i ≠ m → U i (dv o.dst v) w' ∧ Grow w w') : UnderM P ops N a0 w0 m T U Ext (L.setIfInBounds i true) (a.put o.dst v) w' := by
 have h := hM.1
 have hxx : Ext w w' := by
  by_cases e : i = m
  ·exact hx e
  ·exact hge _ _ (hu e).2
 refine ⟨under_stepM hs hd h ho hi hp hN (htr _ _ _ h.ext hxx) (fun j hj hl => ?_) hv, ?_⟩
 ·by_cases e : i = m
  ·exact hse j (late_not hlt hla h (by rw [← e]; exact hi) j hj hl) _ _ _ hxx (h.vals j hj hl)
  ·exact hsg j _ _ _ (hu e).2 (h.vals j hj hl)
 have hil : i < L.size := by
  rcases Nat.lt_or_ge i L.size with h' | h'
  ·exact h'
  ·rw [Array.getD_eq_getD_getElem?, Array.getElem?_eq_none h'] at hi; simp at hi
 have hdi : dstAt ops i = o.dst := by simp [dstAt, ho]
 have hset : ∀ j d, (L.setIfInBounds i true).getD j d = if j = i then true else L.getD j d := by
  intro j d
  simp only [Array.getD_eq_getD_getElem?]
  by_cases hj : j = i
  ·subst hj; simp [hil]
  ·rw [Array.getElem?_setIfInBounds_ne (fun e => hj e.symm), if_neg hj]
 intro hm j hj hl
 have him : i ≠ m := by
  rintro rfl
  rw [hset, if_pos rfl] at hm
  cases hm
 rw [hset, if_neg (fun e => him e.symm)] at hm
 obtain ⟨hu1, hu2⟩ := hu him
 by_cases hji : j = i
 ·subst hji
  rw [hdi, put_same _ _ _ (fun s hs' => by rw [h.size]; exact hs j s (hdi.trans hs'))]
  exact hu1
 ·rw [hset, if_neg hji] at hl
  rw [put_valAt _ _ _ _ (fun s hs' => hd i j s (fun e => hji e.symm) (hdi.trans hs'))]
  exact hsu _ _ _ _ hu2 (hM.2 hm j hj hl)
theorem wpOp_stepM {Q' : Exit → Act → World → Prop} {i : Nat} (hs : ∀ j s, dstAt ops j = some s → s < a0.tmps.size) (hd : ∀ j k s, j ≠ k → dstAt ops j = some s → dstAt ops k ≠ some s)
  (hlt : ∀ j o, ops[j]? = some o → ∀ k ∈ preds o, k < j) (hla : ∀ j o, ops[j]? = some o → late j = true → j = m ∨ ∃ k ∈ preds o, late k = true) (hsg : ∀ j v w w', Grow w w' → T j v w → T j v w') (hse : ∀ j, late j = false → ∀ v w w', Ext w w' → T j v w → T j v w') (hsu : ∀ j v w w', Grow w w' → U j v w → U j v w') (hge : ∀ u v, Grow u v → Ext u v) (htr : ∀ u v w, Ext u v → Ext v w → Ext u w)
  (hall : ∀ i o, i < N → ops[i]? = some o → stepAtM P ops a0 w0 m T U Ext i o)
  (hM : UnderM P ops N a0 w0 m T U Ext L a w) (hi : i ∈ Region.ready .any ops L) (hN : i < N) :
  wpOp P ops Q' i (fun a' w' => UnderM P ops N a0 w0 m T U Ext (L.setIfInBounds i true) a' w') a w := by
 obtain ⟨o, ho, hl, hp⟩ := ready_iff.1 hi
 have h := hM.1
 have hdone : ∀ j ∈ preds o, j < ops.size ∧ L.getD j true = true := by
  intro j hj
  have h1 := hp j hj
  have hjl : j < L.size := by
   rcases Nat.lt_or_ge j L.size with h' | h'
   ·exact h'
   ·rw [Array.getD_eq_getD_getElem?, Array.getElem?_eq_none h'] at h1; simp at h1
  exact ⟨h.lsize ▸ hjl, by simpa [Array.getD, hjl] using h1⟩
 unfold wpOp
 simp only [ho]
 have hg := hall i o hN ho (fun j => valAt a (dstAt ops j)) w h.ext (fun j hj => by
  rw [dv_valAt]
  exact h.vals j (hdone j hj).1 (hdone j hj).2)
  (fun him j hj => by
   rw [dv_valAt]
   exact hM.2 (by rw [← him]; exact hl) j (hdone j hj).1 (hdone j hj).2)
  (fun v w' => UnderM P ops N a0 w0 m T U Ext (L.setIfInBounds i true) (a.put o.dst v) w')
  (fun v w' hv hx hu => underM_step hs hd hlt hla hsg hse hsu hge htr hM ho hl hp hN hv hx hu)
 rw [frm_eq hs h hl] at hg
 have := upon_of_gives (P := P) (Q' := Q') (K := fun a' w' => UnderM P ops N a0 w0 m T U Ext (L.setIfInBounds i true) a' w') hg
 split
 ·rename_i hw; rw [if_pos hw] at this; exact .inl this
 ·rename_i hw; rw [if_neg hw] at this; exact this
theorem wpAny_relM {Q : Exit → Act → World → Prop} (hs : ∀ j s, dstAt ops j = some s → s < a0.tmps.size) (hd : ∀ j k s, j ≠ k → dstAt ops j = some s → dstAt ops k ≠ some s)
  (hN : N ≤ ops.size) (hcov : ∀ i, N ≤ i → i < ops.size → ∀ j, j < i → j ∈ covered ops i i)
  (hlt : ∀ j o, ops[j]? = some o → ∀ k ∈ preds o, k < j) (hla : ∀ j o, ops[j]? = some o → late j = true → j = m ∨ ∃ k ∈ preds o, late k = true) (hsg : ∀ j v w w', Grow w w' → T j v w → T j v w') (hse : ∀ j, late j = false → ∀ v w w', Ext w w' → T j v w → T j v w') (hsu : ∀ j v w w', Grow w w' → U j v w → U j v w') (hge : ∀ u v, Grow u v → Ext u v) (htr : ∀ u v w, Ext u v → Ext v w → Ext u w)
  (hall : ∀ i o, i < N → ops[i]? = some o → stepAtM P ops a0 w0 m T U Ext i o)
  (hfin : ∀ (xs : Nat → Value) (w : World), Ext w0 w → (∀ j, j < N → T j (dv (dstAt ops j) (xs j)) w) → wpList P ops Q (ops.toList.drop N) (frmTo ops N xs a0) w) :
  ∀ (fuel : Nat) (L : Array Bool) (a : Act) (w : World), UnderM P ops N a0 w0 m T U Ext L a w → unl ops L = fuel → wpAny P .any ops Q fuel L a w := by
 intro fuel
 induction fuel with
 | zero =>
  intro L a w hM hu
  have h := hM.1
  have hdone : ∀ k, k < ops.size → L.getD k true = true := by
   intro k hk
   unfold unl at hu
   rw [List.length_eq_zero_iff, List.filter_eq_nil_iff] at hu
   simpa using hu k (List.mem_range.2 hk)
  have hNs : N = ops.size := by
   rcases Nat.lt_or_ge N ops.size with h' | h'
   ·have h1 := h.tail N (Nat.le_refl _) h'
    rw [hdone N h'] at h1; cases h1
   ·omega
  refine wpAny_tail (N := N) hlt hcov 0 ops.size L a w rfl hN h.lsize (fun j hj d => ?_) ?_
  ·have h1 := hdone j hj
   have hj' : j < L.size := by rw [h.lsize]; exact hj
   simp only [Array.getD, hj', dite_true] at h1 ⊢
   rw [h1]; simp [hj]
  ·have := hfin _ w h.ext (fun j hj => by rw [dv_valAt]; exact h.vals j (by omega) (hdone j (by omega)))
   rw [frmTo_eq hs h] at this
   rwa [hNs] at this
 | succ fuel ih =>
  intro L a w hM hu
  have h := hM.1
  by_cases hdone : ∀ k, k < N → L.getD k true = true
  ·have hf : fuel + 1 = ops.size - N := by
    rw [← hu]; unfold unl
    have e : ((List.range ops.size).filter fun j => !L.getD j true) = (List.range ops.size).filter fun j => decide (N ≤ j) := by
     refine List.filter_congr fun j hj => ?_
     have hj := List.mem_range.1 hj
     rcases Nat.lt_or_ge j N with h' | h'
     ·rw [hdone j h']; simp; omega
     ·rw [h.tail j h' hj]; simp [h']
    rw [e]
    have e2 : ∀ n, ((List.range n).filter fun j => decide (N ≤ j)).length = n - N := by
     intro n
     induction n with
     | zero => simp
     | succ n ihn => rw [List.range_succ, List.filter_append, List.length_append, ihn, List.filter_cons]; split <;> simp at * <;> omega
    exact e2 _
   refine wpAny_tail (N := N) hlt hcov (fuel + 1) N L a w (by omega) (Nat.le_refl _) h.lsize (fun j hj d => ?_) ?_
   ·have hj' : j < L.size := by rw [h.lsize]; exact hj
    rcases Nat.lt_or_ge j N with h' | h'
    ·have h1 := hdone j h'
     simp only [Array.getD, hj', dite_true] at h1 ⊢
     rw [h1]; simp [h']
    ·have h1 := h.tail j h' hj
     simp only [Array.getD, hj', dite_true] at h1 ⊢
     rw [h1]; simp; omega
   ·have := hfin _ w h.ext (fun j hj => by rw [dv_valAt]; exact h.vals j (by omega) (hdone j hj))
    rwa [frmTo_eq hs h] at this
  ·have hsome : ∀ k, k < ops.size → L.getD k true = false → ∃ i, i ∈ Region.ready .any ops L := by
    intro k
    induction k using Nat.strongRecOn with
    | _ k ihk =>
     intro hk hl
     have hok : ops[k]? = some ops[k] := by simp [hk]
     by_cases hp : ∀ j ∈ preds ops[k], L.getD j false = true
     ·exact ⟨k, ready_iff.2 ⟨_, hok, hl, hp⟩⟩
     ·simp only [Classical.not_forall] at hp
      obtain ⟨j, hj, hjl⟩ := hp
      have hjk := hlt k _ hok j hj
      have hj' : j < L.size := by rw [h.lsize]; omega
      refine ihk j hjk (by omega) ?_
      simp only [Array.getD, hj', dite_true] at hjl ⊢
      simpa using hjl
   simp only [Classical.not_forall] at hdone
   obtain ⟨k, hkN, hkl⟩ := hdone
   have hkl' : L.getD k true = false := by simpa using hkl
   obtain ⟨i0, hi0⟩ := hsome k (by omega) hkl'
   refine ⟨fun h0 => (by rw [h0] at hi0; cases hi0), fun i hi => ?_⟩
   obtain ⟨o, ho, hl, hp⟩ := ready_iff.1 hi
   have hi' : i < ops.size := by
    rcases Nat.lt_or_ge i ops.size with h | h
    ·exact h
    ·simp [Array.getElem?_eq_none h] at ho
   have hiN : i < N := by
    rcases Nat.lt_or_ge i N with h' | h'
    ·exact h'
    ·exfalso
     have h3 := covered_listed ho hp h.down i k (hcov i h' hi' k (by omega))
     have hk' : k < L.size := by rw [h.lsize]; omega
     simp only [Array.getD, hk', dite_true] at h3 hkl'
     rw [h3] at hkl'; cases hkl'
   refine wpOp_mono (fun a' w' hh => ih _ a' w' hh ?_) (wpOp_stepM hs hd hlt hla hsg hse hsu hge htr hall hM hi hiN)
   have := unl_set h.lsize hi' hl
   omega
theorem wp_region_relM {id : Nat} {Q : Exit → Act → World → Prop} (hm : P.follows .mixedOrders = true) (N m : Nat) (late : Nat → Bool) (T U : Nat → Value → World → Prop) (Ext : World → World → Prop)
  (hsh : shaped ops a0.tmps.size N = true)
  (h0 : Ext { w0 with drawn := w0.drawn + 1 } { w0 with drawn := w0.drawn + 1 })
  (hla : ∀ j o, ops[j]? = some o → late j = true → j = m ∨ ∃ k ∈ preds o, late k = true) (hsg : ∀ j v w w', Grow w w' → T j v w → T j v w') (hse : ∀ j, late j = false → ∀ v w w', Ext w w' → T j v w → T j v w') (hsu : ∀ j v w w', Grow w w' → U j v w → U j v w') (hge : ∀ u v, Grow u v → Ext u v) (htr : ∀ u v w, Ext u v → Ext v w → Ext u w)
  (hall : allFrom (stepAtM P ops a0 { w0 with drawn := w0.drawn + 1 } m T U Ext) 0 (ops.toList.take N))
  (hfin : ∀ (xs : Nat → Value) (w : World), Ext { w0 with drawn := w0.drawn + 1 } w → (∀ j, j < N → T j (dv (dstAt ops j) (xs j)) w) → wpList P ops Q (ops.toList.drop N) (frmTo ops N xs a0) w) :
  (Code.region id ops true).wp P Q a0 w0 := by
 unfold shaped at hsh
 simp only [Bool.and_eq_true, List.all_eq_true, decide_eq_true_eq, List.mem_range] at hsh
 obtain ⟨⟨⟨⟨h1, h2⟩, h3⟩, h4⟩, h5⟩ := hsh
 refine wp_region_any hm ?_
 have hs : ∀ j s, dstAt ops j = some s → s < a0.tmps.size := by
  intro j s hjs
  unfold dstAt at hjs
  cases ho : ops[j]? with
  | none => rw [ho] at hjs; simp at hjs
  | some o =>
   rw [ho] at hjs
   have := h3 o (Array.mem_toList_iff.2 (Array.mem_of_getElem? ho))
   have hd : o.dst = some s := by simpa using hjs
   rw [hd] at this
   simpa using this
 have hd : ∀ j k s, j ≠ k → dstAt ops j = some s → dstAt ops k ≠ some s := by
  have conv : ∀ j s, dstAt ops j = some s ↔ (ops.toList.map (·.dst))[j]? = some (some s) := by
   intro j s
   unfold dstAt
   rw [List.getElem?_map, Array.getElem?_toList]
   cases ops[j]? <;> simp
  intro j k s hjk hj hk
  exact distinct_spec _ h2 j k s hjk ((conv j s).1 hj) ((conv k s).1 hk)
 refine wpAny_relM hs hd h4 ?_ ?_ hla hsg hse hsu hge htr (fun i o hi ho => allFrom_of hall hi ho) hfin ops.size _ a0 _ ?_ ?_
 ·intro i hNi hi j hj
  have := h5 (i - N) (by omega) j (by omega)
  rw [show N + (i - N) = i from by omega] at this
  simpa using this
 ·intro j o ho k hk
  have hmem : (o, j) ∈ ops.toList.zipIdx := List.mem_zipIdx_iff_getElem?.2 (by simpa using ho)
  exact h1 _ hmem k hk
 ·have hrep : ∀ j, j < ops.size → (Array.replicate ops.size false).getD j true = false := by intro j hj; simp [Array.getD, hj]
  refine ⟨⟨by simp, rfl, rfl, h0, fun _ _ => rfl, fun j hj hl => ?_, fun j o ho hl => ?_, fun j _ hj => hrep j hj⟩, fun _ j hj hl => ?_⟩
  ·rw [hrep j hj] at hl; cases hl
  ·have hj : j < ops.size := by
    rcases Nat.lt_or_ge j ops.size with h | h
    ·exact h
    ·simp [Array.getElem?_eq_none h] at ho
   rw [hrep j hj] at hl; cases hl
  ·rw [hrep j hj] at hl; cases hl
 ·unfold unl
  rw [List.filter_eq_self.2 (fun j hj => by simp [Array.getD, List.mem_range.1 hj]), List.length_range]
end
def lexAllM (P : Program) (ops : Array Oper) (a0 : Act) (w0 : World) (m : Nat) (late : Nat → Bool) (Ext : World → World → Prop) (F : List (Value → World → Prop) → Prop) : Nat → List Oper → List (Value → World → Prop) → List (Value → World → Prop) → Prop
 | _, [], Ts, _ => F Ts
 | i, o :: rest, Ts, Us => ∃ T U : Value → World → Prop, (∀ v w w', Grow w w' → T v w → T v w') ∧ (late i = false → ∀ v w w', Ext w w' → T v w → T v w') ∧ (∀ v w w', Grow w w' → U v w → U v w') ∧
   (∃ (ps : List (Nat × Bool)) (l : List (Tmp × Nat)) (b : Bool), (ps.all fun x => (preds o).contains x.1 && (dstAt ops x.1).isSome == x.2 && decide (x.1 < i)) = true ∧ places ops i = l ∧ o.dst.isSome = b ∧
    ∀ (xs : Nat → Value) (w : World), Ext w0 w → holdsL Ts xs w ps → (i = m → holdsL Us xs w ps) → ∀ K : Value → World → Prop, (∀ v w', T (if b then v else undef) w' → (i = m → Ext w w') → (i ≠ m → U (if b then v else undef) w' ∧ Grow w w') → K v w') → gives P ops o (putAll xs l a0) w K) ∧
   lexAllM P ops a0 w0 m late Ext F (i + 1) rest (Ts ++ [T]) (Us ++ [U])
theorem lexAllM_spec {P : Program} {ops : Array Oper} {a0 : Act} {w0 : World} {m : Nat} {late : Nat → Bool} {Ext : World → World → Prop} {F : List (Value → World → Prop) → Prop} :
  ∀ (rest : List Oper) (i : Nat) (Ts Us : List (Value → World → Prop)), Ts.length = i → Us.length = i → lexAllM P ops a0 w0 m late Ext F i rest Ts Us →
   ∃ Tn Un, F (Ts ++ Tn) ∧ (∀ T ∈ Tn, ∀ v w w', Grow w w' → T v w → T v w') ∧ (∀ j (h : j < Tn.length), late (i + j) = false → ∀ v w w', Ext w w' → Tn[j] v w → Tn[j] v w') ∧ (∀ U ∈ Un, ∀ v w w', Grow w w' → U v w → U v w') ∧
    allFrom (stepAtM P ops a0 w0 m (fun j => (Ts ++ Tn).getD j fun _ _ => True) (fun j => (Us ++ Un).getD j fun _ _ => True) Ext) i rest
 | [], i, Ts, Us, _, _, h => ⟨[], [], by simpa [lexAllM] using h, by simp, by simp, by simp, trivial⟩
 | o :: rest, i, Ts, Us, hl, hlu, h => by
  obtain ⟨T, U, hsg, hse, hsu, ⟨ps, l, b, h1, h2, h3, h4⟩, h5⟩ := h
  obtain ⟨Tn, Un, hF, hsgn, hsen, hsun, hall⟩ := lexAllM_spec rest (i + 1) (Ts ++ [T]) (Us ++ [U]) (by simp [hl]) (by simp [hlu]) h5
  refine ⟨T :: Tn, U :: Un, by simpa using hF, ?_, ?_, ?_, ?_, ?_⟩
  ·intro T' hT'
   rcases List.mem_cons.1 hT' with rfl | hT'
   ·exact hsg
   ·exact hsgn T' hT'
  ·intro j hj hlj
   cases j with
   | zero => exact hse hlj
   | succ j => exact hsen j (by simpa using hj) (by rw [show i + 1 + j = i + (j + 1) by omega]; exact hlj)
  ·intro T' hT'
   rcases List.mem_cons.1 hT' with rfl | hT'
   ·exact hsu
   ·exact hsun T' hT'
  ·intro xs w hw hp hpu K hK
   rw [frm_places, h2]
   refine h4 xs w hw (holdsL_of (T := fun j => (Ts ++ T :: Tn).getD j fun _ _ => True) (fun j hj => ?_) hp ps h1)
    (fun him => holdsL_of (T := fun j => (Us ++ U :: Un).getD j fun _ _ => True) (fun j hj => ?_) (hpu him) ps h1) K fun v w' hv hx hu => hK v w' ?_ hx fun him => ?_
   ·simp only [List.getD_eq_getElem?_getD]
    rw [List.getElem?_append_left (by omega)]
   ·simp only [List.getD_eq_getElem?_getD]
    rw [List.getElem?_append_left (by omega)]
   ·have e : ((Ts ++ T :: Tn).getD i fun _ _ => True) = T := by
     rw [List.getD_eq_getElem?_getD, List.getElem?_append_right (by omega), hl, Nat.sub_self]; rfl
    show ((Ts ++ T :: Tn).getD i fun _ _ => True) _ _
    rw [e]
    cases hd : o.dst with
    | none => rw [hd] at h3; subst h3; exact hv
    | some d => rw [hd] at h3; subst h3; exact hv
   ·have e : ((Us ++ U :: Un).getD i fun _ _ => True) = U := by
     rw [List.getD_eq_getElem?_getD, List.getElem?_append_right (by omega), hlu, Nat.sub_self]; rfl
    refine ⟨?_, (hu him).2⟩
    show ((Us ++ U :: Un).getD i fun _ _ => True) _ _
    rw [e]
    cases hd : o.dst with
    | none => rw [hd] at h3; subst h3; exact (hu him).1
    | some d => rw [hd] at h3; subst h3; exact (hu him).1
  ·simpa using hall
theorem wp_region_m_named {P : Program} {ops : Array Oper} {a0 : Act} {w0 : World} {id : Nat} {Q : Exit → Act → World → Prop} (hm : P.follows .mixedOrders = true) (N m : Nat) (late : Nat → Bool) (Ext : World → World → Prop)
  (h0 : Ext w0.drew w0.drew) (hge : ∀ u v, Grow u v → Ext u v) (htr : ∀ u v w, Ext u v → Ext v w → Ext u w) (hla : (ops.toList.zipIdx.all fun x => !late x.2 || (x.2 == m || (preds x.1).any late)) = true)
  (hsh : shaped ops a0.tmps.size N = true)
  (l : List (Tmp × Nat)) (hl : placesTo ops N = l) (al : List (Nat × Bool)) (hal : (al.all fun x => decide (x.1 < N) && (dstAt ops x.1).isSome == x.2) = true) {first last : List Oper} (hf : ops.toList.take N = first) (ht : ops.toList.drop N = last)
  (h : ∀ a, a = a0 → lexAllM P ops a w0.drew m late Ext (fun Ts => ∀ (xs : Nat → Value) (w : World), Ext w0.drew w → holdsL Ts xs w al → wpList P ops Q last (putAll xs l a) w) 0 first [] []) :
  (Code.region id ops true).wp P Q a0 w0 := by
 obtain ⟨Tn, Un, hF, hsg, hse, hsu, hall⟩ := lexAllM_spec _ 0 [] [] rfl rfl (h a0 rfl)
 rw [List.nil_append] at hF hall
 rw [List.nil_append] at hall
 refine wp_region_relM hm N m late (fun j => Tn.getD j fun _ _ => True) (fun j => Un.getD j fun _ _ => True) Ext hsh h0 ?_ ?_ ?_ ?_ hge htr ?_ ?_
 ·intro j o ho hlj
  have := List.all_eq_true.1 hla (o, j) (List.mem_zipIdx_iff_getElem?.2 (by simpa using ho))
  simp only [hlj, Bool.not_true, Bool.false_or, Bool.or_eq_true, beq_iff_eq, List.any_eq_true] at this
  exact this
 ·intro j v w w' hx hv
  rcases Nat.lt_or_ge j Tn.length with hj | hj
  ·simp only [List.getD_eq_getElem?_getD, List.getElem?_eq_getElem hj, Option.getD_some] at hv ⊢
   exact hsg _ (List.getElem_mem hj) v w w' hx hv
  ·simp only [List.getD_eq_getElem?_getD, List.getElem?_eq_none hj, Option.getD_none]
 ·intro j hlj v w w' hx hv
  rcases Nat.lt_or_ge j Tn.length with hj | hj
  ·simp only [List.getD_eq_getElem?_getD, List.getElem?_eq_getElem hj, Option.getD_some] at hv ⊢
   exact hse j hj (by rw [Nat.zero_add]; exact hlj) v w w' hx hv
  ·simp only [List.getD_eq_getElem?_getD, List.getElem?_eq_none hj, Option.getD_none]
 ·intro j v w w' hx hv
  rcases Nat.lt_or_ge j Un.length with hj | hj
  ·simp only [List.getD_eq_getElem?_getD, List.getElem?_eq_getElem hj, Option.getD_some] at hv ⊢
   exact hsu _ (List.getElem_mem hj) v w w' hx hv
  ·simp only [List.getD_eq_getElem?_getD, List.getElem?_eq_none hj, Option.getD_none]
 ·rw [hf]; exact hall
 ·intro xs w hx hv
  rw [ht, frmTo_places, hl]
  exact hF xs w hx (holdsL_all hv al hal)
section
variable {P : Program} {ops : Array Oper} {a0 : Act} {w0 : World} {m : Nat} {late : Nat → Bool} {Ext : World → World → Prop} {F : List (Value → World → Prop) → Prop} {i : Nat} {o : Oper} {rest : List Oper} {Ts Us : List (Value → World → Prop)}
theorem lexm_eq {n : Nat} (hn : a0.tmps.size = n) (ps : List (Nat × Bool)) (l : List (Tmp × Nat)) (g : Option (Tmp × Bool)) (hb : boundsF n l g = true) (hg : guardAt ops o = some g)
  (h1 : (ps.all fun x => (preds o).contains x.1 && (dstAt ops x.1).isSome == x.2 && decide (x.1 < i)) = true) (h2 : places ops i = l) (h3 : o.dst.isSome = true) (him : i ≠ m) {c : Value}
  (hstep : ∀ (xs : Nat → Value) (w : World), Ext w0 w → holdsL Ts xs w ps → ∀ K : Value → World → Prop, (∀ w', Grow w w' → K c w') → givesF P o g (fun s => lookL xs s (slot a0 s) l) w K)
  (hrest : lexAllM P ops a0 w0 m late Ext F (i + 1) rest (Ts ++ [fun v _ => v = c]) (Us ++ [fun v _ => v = c])) : lexAllM P ops a0 w0 m late Ext F i (o :: rest) Ts Us :=
 ⟨fun v _ => v = c, fun v _ => v = c, fun _ _ _ _ h => h, fun _ _ _ _ _ h => h, fun _ _ _ _ h => h, ⟨ps, l, true, h1, h2, h3, fun xs w hw hp _ K hK => gives_look hn hb hg (hstep xs w hw hp K fun w' hx => hK c w' rfl (fun e => absurd e him) fun _ => ⟨rfl, hx⟩)⟩, hrest⟩
theorem lexm_until {n : Nat} (hn : a0.tmps.size = n) (U : Value → World → Prop) (hU : ∀ v w w', Grow w w' → U v w → U v w') (ps : List (Nat × Bool)) (l : List (Tmp × Nat)) (g : Option (Tmp × Bool)) (hb : boundsF n l g = true) (hg : guardAt ops o = some g)
  (h1 : (ps.all fun x => (preds o).contains x.1 && (dstAt ops x.1).isSome == x.2 && decide (x.1 < i)) = true) (h2 : places ops i = l) (h3 : o.dst.isSome = true) (him : i ≠ m)
  (hstep : ∀ (xs : Nat → Value) (w : World), Ext w0 w → holdsL Ts xs w ps → ∀ K : Value → World → Prop, (∀ v w', U v w' → Grow w w' → K v w') → givesF P o g (fun s => lookL xs s (slot a0 s) l) w K)
  (hrest : lexAllM P ops a0 w0 m late Ext F (i + 1) rest (Ts ++ [fun _ _ => True]) (Us ++ [U])) : lexAllM P ops a0 w0 m late Ext F i (o :: rest) Ts Us :=
 ⟨fun _ _ => True, U, fun _ _ _ _ h => h, fun _ _ _ _ _ h => h, hU, ⟨ps, l, true, h1, h2, h3, fun xs w hw hp _ K hK => gives_look hn hb hg (hstep xs w hw hp K fun v w' hv hx => hK v w' trivial (fun e => absurd e him) fun _ => ⟨hv, hx⟩)⟩, hrest⟩
theorem lexm_it {n : Nat} (hlm : late m = true) (hn : a0.tmps.size = n) (T : Value → World → Prop) (hT : ∀ v w w', Grow w w' → T v w → T v w') (ps : List (Nat × Bool)) (l : List (Tmp × Nat)) (g : Option (Tmp × Bool)) (hb : boundsF n l g = true) (hg : guardAt ops o = some g)
  (h1 : (ps.all fun x => (preds o).contains x.1 && (dstAt ops x.1).isSome == x.2 && decide (x.1 < m)) = true) (h2 : places ops m = l) (h3 : o.dst.isSome = true)
  (hstep : ∀ (xs : Nat → Value) (w : World), Ext w0 w → holdsL Us xs w ps → ∀ K : Value → World → Prop, (∀ v w', T v w' → Ext w w' → K v w') → givesF P o g (fun s => lookL xs s (slot a0 s) l) w K)
  (hrest : lexAllM P ops a0 w0 m late Ext F (m + 1) rest (Ts ++ [T]) (Us ++ [fun _ _ => True])) : lexAllM P ops a0 w0 m late Ext F m (o :: rest) Ts Us :=
 ⟨T, fun _ _ => True, hT, fun e => absurd (hlm.symm.trans e) (by decide), fun _ _ _ _ h => h, ⟨ps, l, true, h1, h2, h3, fun xs w hw _ hpu K hK => gives_look hn hb hg (hstep xs w hw (hpu rfl) K fun v w' hv hx => hK v w' hv (fun _ => hx) fun e => absurd rfl e)⟩, hrest⟩
theorem lexm_late {n : Nat} (hli : late i = true) (hn : a0.tmps.size = n) (T : Value → World → Prop) (hT : ∀ v w w', Grow w w' → T v w → T v w') (ps : List (Nat × Bool)) (l : List (Tmp × Nat)) (g : Option (Tmp × Bool)) (hb : boundsF n l g = true) (hg : guardAt ops o = some g)
  (h1 : (ps.all fun x => (preds o).contains x.1 && (dstAt ops x.1).isSome == x.2 && decide (x.1 < i)) = true) (h2 : places ops i = l) (h3 : o.dst.isSome = true) (him : i ≠ m)
  (hstep : ∀ (xs : Nat → Value) (w : World), Ext w0 w → holdsL Ts xs w ps → ∀ K : Value → World → Prop, (∀ v w', T v w' → Grow w w' → K v w') → givesF P o g (fun s => lookL xs s (slot a0 s) l) w K)
  (hrest : lexAllM P ops a0 w0 m late Ext F (i + 1) rest (Ts ++ [T]) (Us ++ [T])) : lexAllM P ops a0 w0 m late Ext F i (o :: rest) Ts Us :=
 ⟨T, T, hT, fun e => absurd (hli.symm.trans e) (by decide), hT, ⟨ps, l, true, h1, h2, h3, fun xs w hw hp _ K hK => gives_look hn hb hg (hstep xs w hw hp K fun v w' hv hx => hK v w' hv (fun e => absurd e him) fun _ => ⟨hv, hx⟩)⟩, hrest⟩
end
end Go.Proofs.YtmhepfehcakmjaaGreat
