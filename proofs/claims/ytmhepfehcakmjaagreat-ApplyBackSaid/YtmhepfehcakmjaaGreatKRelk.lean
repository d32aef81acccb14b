import Derived.Test.YtmhepfehcakmjaaGreatKLexm
import Derived.Test.YtmhepfehcakmjaaGreatKLib
namespace Go.Proofs.YtmhepfehcakmjaaGreat
open Go.RowKit
structure Fill (N t : Nat) (G : List Value -> World -> Prop) (u v : World) : Prop where
 below : Below N u v
 same : ∀ k, k < u.heap.size -> (∀ cs, ¬ Blk u k t cs) -> v.heap[k]? = u.heap[k]?
 page : ∀ k cs, Blk u k t cs -> Blk v k t cs \/ ∃ cs', cs'.length = cs.length /\ G cs' v /\ Blk v k t cs'
def Lasts (t : Nat) (G : List Value -> World -> Prop) : Prop :=
 ∀ (cs : List Value) (u v : World), (∀ (k : Nat) (blk : Array Value) (e : Nat) (f : Nat × Nat), e ≠ t -> u.heap[k]? = some (.cells blk e f) -> v.heap[k]? = some (.cells blk e f)) -> G cs u -> G cs v
theorem Fill.other {N t : Nat} {G : List Value -> World -> Prop} {u v : World} (h : Fill N t G u v) (k : Nat) (blk : Array Value) (e : Nat) (f : Nat × Nat) (he : e ≠ t) (hb : u.heap[k]? = some (.cells blk e f)) : v.heap[k]? = some (.cells blk e f) := by
 rw [h.same k (lt_of_block hb) (fun cs hk => by unfold Blk at hk; rw [hb] at hk; simp at hk; exact he hk.2.1)];exact hb
theorem Fill.of_grow {N t : Nat} {G : List Value -> World -> Prop} {u v : World} (h : Grow u v) (hN : N <= u.heap.size) : Fill N t G u v :=
 ⟨Below.mono h hN, fun k hk _ => h.block k hk, fun _ _ hb => .inl (hb.fits h)⟩
theorem Fill.trans {N t : Nat} {G : List Value -> World -> Prop} (hG : Lasts t G) {u v w : World} (h : Fill N t G u v) (k : Fill N t G v w) : Fill N t G u w := by
 refine ⟨h.below.trans k.below, fun i hi hn => ?_, fun i cs hb => ?_⟩
 ·have e := h.same i hi hn;rw [k.same i (Nat.lt_of_lt_of_le hi h.below.size) (fun cs => by unfold Blk at *; rw [e]; exact hn cs), e]
 ·rcases h.page i cs hb with hv | ⟨cs', hl, hg, hv⟩
  ·exact k.page i cs hv
  ·rcases k.page i cs' hv with hw | ⟨cs'', hl', hg', hw⟩
   ·exact .inr ⟨cs', hl, hG _ _ _ (fun i blk e f he hb => k.other i blk e f he hb) hg, hw⟩
   ·exact .inr ⟨cs'', hl'.trans hl, hg', hw⟩
theorem Fill.refl {N t : Nat} {G : List Value -> World -> Prop} (u : World) : Fill N t G u u := ⟨Below.refl _ _, fun _ _ _ => rfl, fun _ _ h => .inl h⟩
theorem Fill.undrew {N t : Nat} {G : List Value -> World -> Prop} {u v : World} (h : Fill N t G u.drew v) : Fill N t G u v :=
 ⟨⟨h.below.os, h.below.tape, h.below.output, h.below.size, h.below.block⟩, h.same, h.page⟩
theorem Fill.row {N t e n : Nat} {G : List Value -> World -> Prop} {u w : World} {v : Value} {cs : List Value} (h : Fill N t G u w) (hr : RowS u e v n cs) (he : e ≠ t) : RowS w e v n cs :=
 hr.move fun c blk f hb => h.other c blk e f he hb
theorem Fill.some {N t b : Nat} {G : List Value -> World -> Prop} {cs : List Value} {u w : World} (h : Fill N t G u w) (hb : Blk u b t cs) : ∃ cs', cs'.length = cs.length /\ Blk w b t cs' := by
 rcases h.page b cs hb with hw | ⟨cs', hl, _, hw⟩
 ·exact ⟨cs, rfl, hw⟩
 ·exact ⟨cs', hl, hw⟩
theorem Fill.but {N t b : Nat} {G : List Value -> World -> Prop} {cs cs' : List Value} {u w : World} (k : But b u w) (hN : N <= b) (hN' : N <= u.heap.size) (hb : Blk u b t cs) (hl : cs'.length = cs.length) (hw : Blk w b t cs') (hg : G cs' w) : Fill N t G u w := by
 refine ⟨⟨k.os, k.tape, k.output, k.size, fun i hi => k.block i (by omega) (by omega)⟩, fun i hi hn => k.block i hi (fun e => by subst e; exact hn _ hb), fun i ds hi => ?_⟩
 by_cases e : i = b
 ·subst e;refine .inr ⟨cs', ?_, hg, hw⟩;unfold Blk at hi hb;rw [hi] at hb;simp at hb;rw [hl, <- hb]
 ·exact .inl (hi.but k e)
section
variable {P : Program} {ops : Array Oper} {a0 : Act} {w0 : World} {Ext : World -> World -> Prop} {F : List (Value -> World -> Prop) -> Prop} {i : Nat} {o : Oper} {rest : List Oper} {Ts : List (Value -> World -> Prop)}
end
structure UnderK (P : Program) (ops : Array Oper) (N : Nat) (a0 : Act) (w0 : World) (lk : Nat -> Nat) (T : Nat -> Value -> World -> Prop) (Ext : World -> World -> Prop) (L : Array Bool) (a : Act) (w : World) : Prop where
 lsize : L.size = ops.size
 size : a.tmps.size = a0.tmps.size
 defers : a.defers = a0.defers
 ext : Ext w0 w
 other : ∀ s, (∀ j, j < ops.size -> L.getD j true = true -> dstAt ops j ≠ some s) -> a.tmps[s]? = a0.tmps[s]?
 vals : ∀ j, j < ops.size -> L.getD j true = true -> T j (valAt a (dstAt ops (lk j))) w
 down : ∀ j o, ops[j]? = some o -> L.getD j true = true -> ∀ k ∈ preds o, L.getD k false = true
 tail : ∀ j, N <= j -> j < ops.size -> L.getD j true = false
section
variable {P : Program} {ops : Array Oper} {N : Nat} {a0 : Act} {w0 : World} {lk : Nat -> Nat} {T : Nat -> Value -> World -> Prop} {Ext : World -> World -> Prop} {L : Array Bool} {a : Act} {w : World}
theorem UnderK.bare (h : UnderK P ops N a0 w0 lk T Ext L a w) : Under P ops N a0 w0 (fun _ _ _ => True) Ext L a w :=
 ⟨h.lsize, h.size, h.defers, h.ext, h.other, fun _ _ _ => trivial, h.down, h.tail⟩
theorem underK_step {i : Nat} {o : Oper} {v : Value} {w' : World} (hs : ∀ j s, dstAt ops j = some s -> s < a0.tmps.size) (hd : ∀ j k s, j ≠ k -> dstAt ops j = some s -> dstAt ops k ≠ some s)
  (hst : ∀ j v w w', Ext w w' -> T j v w -> T j v w') (htr : ∀ u v w, Ext u v -> Ext v w -> Ext u w)
  (h : UnderK P ops N a0 w0 lk T Ext L a w) (ho : ops[i]? = some o) (hi : L.getD i true = false) (hp : ∀ k ∈ preds o, L.getD k false = true) (hN : i < N)
  (hx : Ext w w') (hlk : ∀ j o, ops[j]? = some o -> lk j = j \/ lk j ∈ preds o) (hv : T i (if lk i = i then dv o.dst v else valAt a (dstAt ops (lk i))) w') : UnderK P ops N a0 w0 lk T Ext (L.setIfInBounds i true) (a.put o.dst v) w' := by
 have hil : i < L.size := by
  rcases Nat.lt_or_ge i L.size with h' | h'
  ·exact h'
  ·rw [Array.getD_eq_getD_getElem?, Array.getElem?_eq_none h'] at hi; simp at hi
 have hdi : dstAt ops i = o.dst := by simp [dstAt, ho]
 have hset : ∀ j d, (L.setIfInBounds i true).getD j d = if j = i then true else L.getD j d := by
  intro j d;simp only [Array.getD_eq_getD_getElem?]
  by_cases hj : j = i
  ·subst hj; simp [hil]
  ·rw [Array.getElem?_setIfInBounds_ne (fun e => hj e.symm), if_neg hj]
 refine ⟨by simp [h.lsize], by rw [put_size, h.size], by rw [put_defers', h.defers], htr _ _ _ h.ext hx, ?_, ?_, ?_, ?_⟩
 ·intro s hns;rw [put_other _ _ _ _ (by have := hns i (h.lsize ▸ hil) (by rw [hset, if_pos rfl]); rwa [hdi] at this)];refine h.other s fun j hj hl => hns j hj ?_
  rw [hset]; split <;> simp [hl]
 ·intro j hj hl;have hne : ∀ o', ops[j]? = some o' -> lk j ∈ preds o' -> (∀ k ∈ preds o', L.getD k false = true) -> lk j ≠ i := by
   intro o' _ hm hall e;have h1 := hall _ hm;rw [e] at h1;simp only [Array.getD, hil, dite_true] at h1 hi;rw [h1] at hi;cases hi
  by_cases hji : j = i
  ·subst hji;rcases hlk j o ho with e | e
   ·rw [if_pos e] at hv;rw [e, hdi, put_same _ _ _ (fun s hs' => by rw [h.size]; exact hs j s (hdi.trans hs'))];exact hv
   ·have hn := hne o ho e hp;rw [if_neg hn] at hv;rw [put_valAt _ _ _ _ (fun s hs' => hd j (lk j) s (fun e => hn e.symm) (hdi.trans hs'))];exact hv
  ·rw [hset, if_neg hji] at hl;have hn : lk j ≠ i := by
    rcases hlk j ops[j] (by simp [hj]) with e | e
    ·rw [e]; exact hji
    ·exact hne _ (by simp [hj]) e (h.down j _ (by simp [hj]) hl)
   rw [put_valAt _ _ _ _ (fun s hs' => hd i (lk j) s (fun e => hn e.symm) (hdi.trans hs'))];exact hst _ _ _ _ hx (h.vals j hj hl)
 ·intro j o' ho' hl k hk;rw [hset]
  split
  ·rfl
  ·by_cases hji : j = i
   ·subst hji;rw [ho] at ho';cases ho'
    exact hp k hk
   ·rw [hset, if_neg hji] at hl;exact h.down j o' ho' hl k hk
 ·intro j hNj hj;rw [hset, if_neg (by omega)];exact h.tail j hNj hj
def stepAtK (P : Program) (ops : Array Oper) (a0 : Act) (w0 : World) (lk : Nat -> Nat) (T : Nat -> Value -> World -> Prop) (Ext : World -> World -> Prop) (i : Nat) (o : Oper) : Prop :=
 ∀ (xs : Nat -> Value) (w : World), Ext w0 w -> (∀ j ∈ preds o, T j (dv (dstAt ops (lk j)) (xs (lk j))) w) -> ∀ K : Value -> World -> Prop, (∀ v w', T i (if lk i = i then dv o.dst v else dv (dstAt ops (lk i)) (xs (lk i))) w' -> Ext w w' -> K v w') -> gives P ops o (frm ops i xs a0) w K
theorem wpOp_stepK {Q' : Exit -> Act -> World -> Prop} {i : Nat} (hs : ∀ j s, dstAt ops j = some s -> s < a0.tmps.size) (hd : ∀ j k s, j ≠ k -> dstAt ops j = some s -> dstAt ops k ≠ some s)
  (hst : ∀ j v w w', Ext w w' -> T j v w -> T j v w') (htr : ∀ u v w, Ext u v -> Ext v w -> Ext u w)
  (hlk : ∀ j o, ops[j]? = some o -> lk j = j \/ lk j ∈ preds o)
  (hall : ∀ i o, i < N -> ops[i]? = some o -> stepAtK P ops a0 w0 lk T Ext i o)
  (h : UnderK P ops N a0 w0 lk T Ext L a w) (hi : i ∈ Region.ready .any ops L) (hN : i < N) :
  wpOp P ops Q' i (fun a' w' => UnderK P ops N a0 w0 lk T Ext (L.setIfInBounds i true) a' w') a w := by
 obtain ⟨o, ho, hl, hp⟩ := ready_iff.1 hi;unfold wpOp;simp only [ho]
 have hg := hall i o hN ho (fun j => valAt a (dstAt ops j)) w h.ext (fun j hj => by
  have h1 := hp j hj;have hjl : j < L.size := by
   rcases Nat.lt_or_ge j L.size with h' | h'
   ·exact h'
   ·rw [Array.getD_eq_getD_getElem?, Array.getElem?_eq_none h'] at h1; simp at h1
  rw [dv_valAt];refine h.vals j (h.lsize ▸ hjl) ?_
  simpa [Array.getD, hjl] using h1)
  (fun v w' => UnderK P ops N a0 w0 lk T Ext (L.setIfInBounds i true) (a.put o.dst v) w')
  (fun v w' hv hx => underK_step hs hd hst htr h ho hl hp hN hx hlk (by simpa only [dv_valAt] using hv))
 rw [frm_eq hs h.bare hl] at hg;have := upon_of_gives (P := P) (Q' := Q') (K := fun a' w' => UnderK P ops N a0 w0 lk T Ext (L.setIfInBounds i true) a' w') hg
 split
 ·rename_i hw; rw [if_pos hw] at this; exact .inl this
 ·rename_i hw; rw [if_neg hw] at this; exact this
theorem wpAny_relK {Q : Exit -> Act -> World -> Prop} (hs : ∀ j s, dstAt ops j = some s -> s < a0.tmps.size) (hd : ∀ j k s, j ≠ k -> dstAt ops j = some s -> dstAt ops k ≠ some s)
  (hlt : ∀ j o, ops[j]? = some o -> ∀ k ∈ preds o, k < j) (hN : N <= ops.size) (hcov : ∀ i, N <= i -> i < ops.size -> ∀ j, j < i -> j ∈ covered ops i i)
  (hst : ∀ j v w w', Ext w w' -> T j v w -> T j v w') (htr : ∀ u v w, Ext u v -> Ext v w -> Ext u w)
  (hlk : ∀ j o, ops[j]? = some o -> lk j = j \/ lk j ∈ preds o)
  (hall : ∀ i o, i < N -> ops[i]? = some o -> stepAtK P ops a0 w0 lk T Ext i o)
  (hfin : ∀ (xs : Nat -> Value) (w : World), Ext w0 w -> (∀ j, j < N -> T j (dv (dstAt ops (lk j)) (xs (lk j))) w) -> wpList P ops Q (ops.toList.drop N) (frmTo ops N xs a0) w) :
  ∀ (fuel : Nat) (L : Array Bool) (a : Act) (w : World), UnderK P ops N a0 w0 lk T Ext L a w -> unl ops L = fuel -> wpAny P .any ops Q fuel L a w := by
 intro fuel
 induction fuel with
 | zero =>
  intro L a w h hu;have hdone : ∀ k, k < ops.size -> L.getD k true = true := by
   intro k hk;unfold unl at hu;rw [List.length_eq_zero_iff, List.filter_eq_nil_iff] at hu
   simpa using hu k (List.mem_range.2 hk)
  have hNs : N = ops.size := by
   rcases Nat.lt_or_ge N ops.size with h' | h'
   ·have h1 := h.tail N (Nat.le_refl _) h';rw [hdone N h'] at h1; cases h1
   ·omega
  refine wpAny_tail (N := N) hlt hcov 0 ops.size L a w rfl hN h.lsize (fun j hj d => ?_) ?_
  ·have h1 := hdone j hj;have hj' : j < L.size := by rw [h.lsize]; exact hj
   simp only [Array.getD, hj', dite_true] at h1 ⊢;rw [h1]; simp [hj]
  ·have := hfin (fun j => valAt a (dstAt ops j)) w h.ext (fun j hj => by rw [dv_valAt]; exact h.vals j (by omega) (hdone j (by omega)));rw [frmTo_eq hs h.bare] at this
   rwa [hNs] at this
 | succ fuel ih =>
  intro L a w h hu
  by_cases hdone : ∀ k, k < N -> L.getD k true = true
  ·have hf : fuel + 1 = ops.size - N := by
    rw [<- hu]; unfold unl;have e : ((List.range ops.size).filter fun j => !L.getD j true) = (List.range ops.size).filter fun j => decide (N <= j) := by
     refine List.filter_congr fun j hj => ?_
     have hj := List.mem_range.1 hj;rcases Nat.lt_or_ge j N with h' | h'
     ·rw [hdone j h']; simp; omega
     ·rw [h.tail j h' hj]; simp [h']
    rw [e];have e2 : ∀ n, ((List.range n).filter fun j => decide (N <= j)).length = n - N := by
     intro n
     induction n with
     | zero => simp
     | succ n ihn => rw [List.range_succ, List.filter_append, List.length_append, ihn, List.filter_cons]; split <;> simp at * <;> omega
    exact e2 _
   refine wpAny_tail (N := N) hlt hcov (fuel + 1) N L a w (by omega) (Nat.le_refl _) h.lsize (fun j hj d => ?_) ?_
   ·have hj' : j < L.size := by rw [h.lsize]; exact hj
    rcases Nat.lt_or_ge j N with h' | h'
    ·have h1 := hdone j h';simp only [Array.getD, hj', dite_true] at h1 ⊢;rw [h1]; simp [h']
    ·have h1 := h.tail j h' hj;simp only [Array.getD, hj', dite_true] at h1 ⊢;rw [h1]; simp; omega
   ·have := hfin (fun j => valAt a (dstAt ops j)) w h.ext (fun j hj => by rw [dv_valAt]; exact h.vals j (by omega) (hdone j hj))
    rwa [frmTo_eq hs h.bare] at this
  ·have hsome : ∀ k, k < ops.size -> L.getD k true = false -> ∃ i, i ∈ Region.ready .any ops L := by
    intro k
    induction k using Nat.strongRecOn with
    | _ k ihk =>
     intro hk hl;have hok : ops[k]? = some ops[k] := by simp [hk]
     by_cases hp : ∀ j ∈ preds ops[k], L.getD j false = true
     ·exact ⟨k, ready_iff.2 ⟨_, hok, hl, hp⟩⟩
     ·simp only [Classical.not_forall] at hp;obtain ⟨j, hj, hjl⟩ := hp;have hjk := hlt k _ hok j hj;have hj' : j < L.size := by rw [h.lsize]; omega
      refine ihk j hjk (by omega) ?_;simp only [Array.getD, hj', dite_true] at hjl ⊢
      simpa using hjl
   simp only [Classical.not_forall] at hdone;obtain ⟨k, hkN, hkl⟩ := hdone;have hkl' : L.getD k true = false := by simpa using hkl
   obtain ⟨i0, hi0⟩ := hsome k (by omega) hkl';refine ⟨fun h0 => (by rw [h0] at hi0; cases hi0), fun i hi => ?_⟩;obtain ⟨o, ho, hl, hp⟩ := ready_iff.1 hi;have hi' : i < ops.size := by
    rcases Nat.lt_or_ge i ops.size with h | h
    ·exact h
    ·simp [Array.getElem?_eq_none h] at ho
   have hiN : i < N := by
    rcases Nat.lt_or_ge i N with h' | h'
    ·exact h'
    ·exfalso
     have h3 := covered_listed ho hp h.down i k (hcov i h' hi' k (by omega));have hk' : k < L.size := by rw [h.lsize]; omega
     simp only [Array.getD, hk', dite_true] at h3 hkl';rw [h3] at hkl'; cases hkl'
   refine wpOp_mono (fun a' w' hh => ih _ a' w' hh ?_) (wpOp_stepK hs hd hst htr hlk hall h hi hiN);have := unl_set h.lsize hi' hl;omega
theorem wp_region_relK {id : Nat} {Q : Exit -> Act -> World -> Prop} (hm : P.follows .mixedOrders = true) (N : Nat) (T : Nat -> Value -> World -> Prop) (Ext : World -> World -> Prop)
  (hsh : shaped ops a0.tmps.size N = true)
  (h0 : Ext { w0 with drawn := w0.drawn + 1 } { w0 with drawn := w0.drawn + 1 })
  (hst : ∀ j v w w', Ext w w' -> T j v w -> T j v w') (htr : ∀ u v w, Ext u v -> Ext v w -> Ext u w)
  (hlk : ∀ j o, ops[j]? = some o -> lk j = j \/ lk j ∈ preds o)
  (hall : allFrom (stepAtK P ops a0 { w0 with drawn := w0.drawn + 1 } lk T Ext) 0 (ops.toList.take N))
  (hfin : ∀ (xs : Nat -> Value) (w : World), Ext { w0 with drawn := w0.drawn + 1 } w -> (∀ j, j < N -> T j (dv (dstAt ops (lk j)) (xs (lk j))) w) -> wpList P ops Q (ops.toList.drop N) (frmTo ops N xs a0) w) :
  (Code.region id ops true).wp P Q a0 w0 := by
 unfold shaped at hsh;simp only [Bool.and_eq_true, List.all_eq_true, decide_eq_true_eq, List.mem_range] at hsh;obtain ⟨⟨⟨⟨h1, h2⟩, h3⟩, h4⟩, h5⟩ := hsh;refine wp_region_any hm ?_;have hs : ∀ j s, dstAt ops j = some s -> s < a0.tmps.size := by
  intro j s hjs;unfold dstAt at hjs;cases ho : ops[j]? with
  | none => rw [ho] at hjs; simp at hjs
  | some o =>
   rw [ho] at hjs;have := h3 o (Array.mem_toList_iff.2 (Array.mem_of_getElem? ho));have hd : o.dst = some s := by simpa using hjs
   rw [hd] at this
   simpa using this
 have hd : ∀ j k s, j ≠ k -> dstAt ops j = some s -> dstAt ops k ≠ some s := by
  have conv : ∀ j s, dstAt ops j = some s ↔ (ops.toList.map (·.dst))[j]? = some (some s) := by
   intro j s;unfold dstAt;rw [List.getElem?_map, Array.getElem?_toList];cases ops[j]? <;> simp
  intro j k s hjk hj hk;exact distinct_spec _ h2 j k s hjk ((conv j s).1 hj) ((conv k s).1 hk)
 refine wpAny_relK hs hd ?_ h4 ?_ hst htr hlk (fun i o hi ho => allFrom_of hall hi ho) hfin ops.size _ a0 _ ?_ ?_
 ·intro j o ho k hk;have hmem : (o, j) ∈ ops.toList.zipIdx := List.mem_zipIdx_iff_getElem?.2 (by simpa using ho);exact h1 _ hmem k hk
 ·intro i hNi hi j hj;have := h5 (i - N) (by omega) j (by omega);rw [show N + (i - N) = i from by omega] at this
  simpa using this
 ·have hrep : ∀ j, j < ops.size -> (Array.replicate ops.size false).getD j true = false := by intro j hj; simp [Array.getD, hj]
  refine ⟨by simp, rfl, rfl, h0, fun _ _ => rfl, fun j hj hl => ?_, fun j o ho hl => ?_, fun j _ hj => hrep j hj⟩
  ·rw [hrep j hj] at hl; cases hl
  ·have hj : j < ops.size := by
    rcases Nat.lt_or_ge j ops.size with h | h
    ·exact h
    ·simp [Array.getElem?_eq_none h] at ho
   rw [hrep j hj] at hl; cases hl
 ·unfold unl;rw [List.filter_eq_self.2 (fun j hj => by simp [Array.getD, List.mem_range.1 hj]), List.length_range]
end
def holdsK (lk : Nat -> Nat) (Ts : List (Value -> World -> Prop)) (xs : Nat -> Value) (w : World) : List (Nat × Bool) -> Prop
 | [] => True
 | (j, b) :: l => (Ts.getD j fun _ _ => True) (if b then xs (lk j) else undef) w /\ holdsK lk Ts xs w l
theorem hzk : (∀ (lk : Nat -> Nat) (Ts : List (Value -> World -> Prop)) (xs : Nat -> Value) (w : World), holdsK lk Ts xs w [] = True) /\ (∀ (lk : Nat -> Nat) (Ts : List (Value -> World -> Prop)) (xs : Nat -> Value) (w : World) (j : Nat) (l : List (Nat × Bool)), holdsK lk Ts xs w ((j, true) :: l) = ((Ts.getD j fun _ _ => True) (xs (lk j)) w /\ holdsK lk Ts xs w l)) /\
 (∀ (lk : Nat -> Nat) (Ts : List (Value -> World -> Prop)) (xs : Nat -> Value) (w : World) (j : Nat) (l : List (Nat × Bool)), holdsK lk Ts xs w ((j, false) :: l) = ((Ts.getD j fun _ _ => True) undef w /\ holdsK lk Ts xs w l)) /\ (∀ l : List (Value -> World -> Prop), [] ++ l = l) /\ (∀ (a : Value -> World -> Prop) (l m : List (Value -> World -> Prop)), (a :: l) ++ m = a :: (l ++ m)) /\
 (∀ (a : Value -> World -> Prop) (l : List (Value -> World -> Prop)) (n : Nat) (d : Value -> World -> Prop), (a :: l).getD (n + 1) d = l.getD n d) /\ (∀ (a : Value -> World -> Prop) (l : List (Value -> World -> Prop)) (d : Value -> World -> Prop), (a :: l).getD 0 d = a) /\ (∀ p : Prop, (p /\ True) = p) :=
 ⟨fun _ _ _ _ => rfl, fun _ _ _ _ _ _ => rfl, fun _ _ _ _ _ _ => rfl, fun _ => rfl, fun _ _ _ => rfl, fun _ _ _ _ => rfl, fun _ _ _ => rfl, fun _ => and_true _⟩
def lexAllK (P : Program) (ops : Array Oper) (a0 : Act) (w0 : World) (lk : Nat -> Nat) (Ext : World -> World -> Prop) (F : List (Value -> World -> Prop) -> Prop) : Nat -> List Oper -> List (Value -> World -> Prop) -> Prop
 | _, [], Ts => F Ts
 | i, o :: rest, Ts => ∃ T : Value -> World -> Prop, (∀ v w w', Ext w w' -> T v w -> T v w') /\
   (∃ (ps : List (Nat × Bool)) (l : List (Tmp × Nat)), (ps.all fun x => (preds o).contains x.1 && (dstAt ops (lk x.1)).isSome == x.2 && decide (x.1 < i)) = true /\ places ops i = l /\
    ∀ (xs : Nat -> Value) (w : World), Ext w0 w -> holdsK lk Ts xs w ps -> ∀ K : Value -> World -> Prop, (∀ v w', T (if lk i = i then dv o.dst v else dv (dstAt ops (lk i)) (xs (lk i))) w' -> Ext w w' -> K v w') -> gives P ops o (putAll xs l a0) w K) /\
   lexAllK P ops a0 w0 lk Ext F (i + 1) rest (Ts ++ [T])
theorem holdsK_of {lk : Nat -> Nat} {Ts : List (Value -> World -> Prop)} {ops : Array Oper} {xs : Nat -> Value} {w : World} {p : Nat -> Prop}
  (h : ∀ j, p j -> (Ts.getD j fun _ _ => True) (dv (dstAt ops (lk j)) (xs (lk j))) w) : ∀ (ps : List (Nat × Bool)), (∀ x ∈ ps, p x.1 /\ (dstAt ops (lk x.1)).isSome = x.2) -> holdsK lk Ts xs w ps
 | [], _ => trivial
 | (j, b) :: l, hp => by
  obtain ⟨h1, h5⟩ := hp (j, b) (by simp);refine ⟨?_, holdsK_of h l (fun x hx => hp x (by simp [hx]))⟩;have h4 := h j h1;simp only at h5;have h6 : dv (dstAt ops (lk j)) (xs (lk j)) = if b then xs (lk j) else undef := by
   cases hd : dstAt ops (lk j) with
   | none => rw [hd] at h5; subst h5; rfl
   | some d => rw [hd] at h5; subst h5; rfl
  rw [h6] at h4;exact h4
theorem lexAllK_spec {P : Program} {ops : Array Oper} {a0 : Act} {w0 : World} {lk : Nat -> Nat} {Ext : World -> World -> Prop} {F : List (Value -> World -> Prop) -> Prop} :
  ∀ (rest : List Oper) (i : Nat) (Ts : List (Value -> World -> Prop)), Ts.length = i -> lexAllK P ops a0 w0 lk Ext F i rest Ts ->
   ∃ Tn, F (Ts ++ Tn) /\ Tn.length = rest.length /\ (∀ T ∈ Tn, ∀ v w w', Ext w w' -> T v w -> T v w') /\ allFrom (stepAtK P ops a0 w0 lk (fun j => (Ts ++ Tn).getD j fun _ _ => True) Ext) i rest
 | [], i, Ts, _, h => ⟨[], by simpa [lexAllK] using h, rfl, by simp, trivial⟩
 | o :: rest, i, Ts, hl, h => by
  obtain ⟨T, hst, ⟨ps, l, h1, h2, h4⟩, h5⟩ := h;obtain ⟨Tn, hF, hlen, hstn, hall⟩ := lexAllK_spec rest (i + 1) (Ts ++ [T]) (by simp [hl]) h5;refine ⟨T :: Tn, by simpa using hF, by simp [hlen], ?_, ?_, ?_⟩
  ·intro T' hT';rcases List.mem_cons.1 hT' with rfl | hT'
   ·exact hst
   ·exact hstn T' hT'
  ·intro xs w hw hp K hK;rw [frm_places, h2];refine h4 xs w hw (holdsK_of (ops := ops) (p := fun j => j ∈ preds o /\ j < i) (fun j hj => ?_) ps ?_) K fun v w' hv hx => hK v w' ?_ hx
   ·have := hp j hj.1;simp only [List.getD_eq_getElem?_getD] at this ⊢;rw [List.getElem?_append_left (by omega)] at this;exact this
   ·intro x hx;have := List.all_eq_true.1 h1 x hx;simp only [Bool.and_eq_true, decide_eq_true_eq] at this;exact ⟨⟨by simpa using this.1.1, this.2⟩, by simpa using this.1.2⟩
   ·have e : ((Ts ++ T :: Tn).getD i fun _ _ => True) = T := by
     rw [List.getD_eq_getElem?_getD, List.getElem?_append_right (by omega), hl, Nat.sub_self]; rfl
    show ((Ts ++ T :: Tn).getD i fun _ _ => True) _ _;rw [e];exact hv
  ·simpa using hall
theorem wp_region_link {P : Program} {ops : Array Oper} {a0 : Act} {w0 : World} {id : Nat} {Q : Exit -> Act -> World -> Prop} (hm : P.follows .mixedOrders = true) (N : Nat) (lk : Nat -> Nat) (Ext : World -> World -> Prop)
  (h0 : Ext w0.drew w0.drew) (htr : ∀ u v w, Ext u v -> Ext v w -> Ext u w)
  (hsh : shaped ops a0.tmps.size N = true) (hlk : (ops.toList.zipIdx.all fun x => lk x.2 == x.2 || (preds x.1).contains (lk x.2)) = true)
  (l : List (Tmp × Nat)) (hl : placesTo ops N = l) (al : List (Nat × Bool)) (hal : (al.all fun x => decide (x.1 < N) && (dstAt ops (lk x.1)).isSome == x.2) = true) {first last : List Oper} (hf : ops.toList.take N = first) (ht : ops.toList.drop N = last)
  (h : lexAllK P ops a0 w0.drew lk Ext (fun Ts => ∀ (xs : Nat -> Value) (w : World), Ext w0.drew w -> holdsK lk Ts xs w al -> wpList P ops Q last (putAll xs l a0) w) 0 first []) :
  (Code.region id ops true).wp P Q a0 w0 := by
 obtain ⟨Tn, hF, hlen, hst, hall⟩ := lexAllK_spec _ 0 [] rfl h;rw [List.nil_append] at hF hall;refine wp_region_relK hm N (lk := lk) (fun j => Tn.getD j fun _ _ => True) Ext hsh h0 ?_ htr ?_ ?_ ?_
 ·intro j v w w' hx hv;rcases Nat.lt_or_ge j Tn.length with hj | hj
  ·simp only [List.getD_eq_getElem?_getD, List.getElem?_eq_getElem hj, Option.getD_some] at hv ⊢;exact hst _ (List.getElem_mem hj) v w w' hx hv
  ·simp only [List.getD_eq_getElem?_getD, List.getElem?_eq_none hj, Option.getD_none]
 ·intro j o ho;have := List.all_eq_true.1 hlk (o, j) (List.mem_zipIdx_iff_getElem?.2 (by simpa using ho))
  simpa using this
 ·rw [hf]; exact hall
 ·intro xs w hx hv;rw [ht, frmTo_places, hl];refine hF xs w hx (holdsK_of (ops := ops) (p := fun j => j < N) hv al ?_);intro x hx;have := List.all_eq_true.1 hal x hx;simp only [Bool.and_eq_true, decide_eq_true_eq] at this;exact ⟨this.1, by simpa using this.2⟩
section
variable {P : Program} {ops : Array Oper} {a0 : Act} {w0 : World} {lk : Nat -> Nat} {Ext : World -> World -> Prop} {F : List (Value -> World -> Prop) -> Prop} {i : Nat} {o : Oper} {rest : List Oper} {Ts : List (Value -> World -> Prop)}
theorem lexk_eq (ps : List (Nat × Bool)) (l : List (Tmp × Nat)) (h1 : (ps.all fun x => (preds o).contains x.1 && (dstAt ops (lk x.1)).isSome == x.2 && decide (x.1 < i)) = true) (h2 : places ops i = l) (h3 : o.dst.isSome = true) (h4 : lk i = i) {c : Value}
  (hstep : ∀ (xs : Nat -> Value) (w : World), Ext w0 w -> holdsK lk Ts xs w ps -> ∀ K : Value -> World -> Prop, (∀ w', Ext w w' -> K c w') -> gives P ops o (putAll xs l a0) w K)
  (hrest : lexAllK P ops a0 w0 lk Ext F (i + 1) rest (Ts ++ [fun v _ => v = c])) : lexAllK P ops a0 w0 lk Ext F i (o :: rest) Ts :=
 ⟨fun v _ => v = c, fun _ _ _ _ h => h, ⟨ps, l, h1, h2, fun xs w hw hp K hK => hstep xs w hw hp K fun w' hx => hK c w' (by
  rw [if_pos h4];cases hd : o.dst with
  | none => rw [hd] at h3; cases h3
  | some d => rfl) hx⟩, hrest⟩
theorem lexk_says (T : Value -> World -> Prop) (hT : ∀ v w w', Ext w w' -> T v w -> T v w') (ps : List (Nat × Bool)) (l : List (Tmp × Nat)) (h1 : (ps.all fun x => (preds o).contains x.1 && (dstAt ops (lk x.1)).isSome == x.2 && decide (x.1 < i)) = true)
  (h2 : places ops i = l) (h3 : o.dst.isSome = true) (h4 : lk i = i)
  (hstep : ∀ (xs : Nat -> Value) (w : World), Ext w0 w -> holdsK lk Ts xs w ps -> ∀ K : Value -> World -> Prop, (∀ v w', T v w' -> Ext w w' -> K v w') -> gives P ops o (putAll xs l a0) w K)
  (hrest : lexAllK P ops a0 w0 lk Ext F (i + 1) rest (Ts ++ [T])) : lexAllK P ops a0 w0 lk Ext F i (o :: rest) Ts :=
 ⟨T, hT, ⟨ps, l, h1, h2, fun xs w hw hp K hK => hstep xs w hw hp K fun v w' hv hx => hK v w' (by
  rw [if_pos h4];cases hd : o.dst with
  | none => rw [hd] at h3; cases h3
  | some d => exact hv) hx⟩, hrest⟩
theorem lexk_link (T : Value -> World -> Prop) (hT : ∀ v w w', Ext w w' -> T v w -> T v w') (ps : List (Nat × Bool)) (l : List (Tmp × Nat)) (h1 : (ps.all fun x => (preds o).contains x.1 && (dstAt ops (lk x.1)).isSome == x.2 && decide (x.1 < i)) = true)
  (h2 : places ops i = l) (h3 : (dstAt ops (lk i)).isSome = true) (h4 : lk i ≠ i)
  (hstep : ∀ (xs : Nat -> Value) (w : World), Ext w0 w -> holdsK lk Ts xs w ps -> ∀ K : Value -> World -> Prop, (∀ v w', T (xs (lk i)) w' -> Ext w w' -> K v w') -> gives P ops o (putAll xs l a0) w K)
  (hrest : lexAllK P ops a0 w0 lk Ext F (i + 1) rest (Ts ++ [T])) : lexAllK P ops a0 w0 lk Ext F i (o :: rest) Ts :=
 ⟨T, hT, ⟨ps, l, h1, h2, fun xs w hw hp K hK => hstep xs w hw hp K fun v w' hv hx => hK v w' (by
  rw [if_neg h4];cases hd : dstAt ops (lk i) with
  | none => rw [hd] at h3; cases h3
  | some d => exact hv) hx⟩, hrest⟩
end
end Go.Proofs.YtmhepfehcakmjaaGreat
