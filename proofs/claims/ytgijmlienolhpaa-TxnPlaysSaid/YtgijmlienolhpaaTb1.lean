
/- A table of transactions in memory; New, find. -/
import Derived.Test.YtgijmlienolhpaaTm1
import Derived.Test.YtgijmlienolhpaaTx4
import Derived.Test.YtgijmlienolhpaaPgn
import Derived.Maps.OwnOps
namespace Go.Proofs.Ytgijmlienolhpaa
open Go.RowKit Go.Maps

/-- What is open, with its block. -/
abbrev Tr := List (Int × Nat × Tn)
def lkT (T : Tr) : List (Int × Nat) := T.map fun x => (x.1, x.2.1)
def stT (T : Tr) : St := T.map fun x => (x.1, x.2.2)
def tnC (who : Int) (t : Tn) (av : Value) : List Value := [.int .i64 t.next, av, .int .i64 t.xid, .int .i64 t.first, .int .i64 t.last, .int .i64 t.undoes, .int .i64 who]
/-- A row of numbers whose block, if it has one, is of a given kind. -/
def RowO (w : World) (O : Nat → Prop) (v : Value) (l : List Int) : Prop := RowS w 3 v l.length (iCells l) ∧ ∀ c off n cap, v = .slice (some ⟨c, off, none⟩) n cap → l ≠ [] → O c ∧ ∀ j, w.frozen? ⟨c, off + j, none⟩ = false
/-- A table in memory; O: which blocks may be its own. -/
structure TabT (w : World) (O : Nat → Prop) (tb : Nat) (T : Tr) : Prop where
  up : T.Pairwise fun a b => a.1 < b.1
  apart : T.Pairwise fun a b => a.2.1 ≠ b.2.1
  base : O tb
  mp : ∃ m, Blk w tb 62 [.map (some m)] ∧ O m ∧ w.ownsMap Try.prog 3 ptrR m T.length (mapD (lkT T))
  rows : ∀ x ∈ T, O x.2.1 ∧ ∃ av, Blk w x.2.1 70 (tnC x.1 x.2.2 av) ∧ RowO w O av x.2.2.act

theorem RowO.keeps {w w' : World} {O : Nat → Prop} {v : Value} {l : List Int} (h : RowO w O v l) (hk : ∀ k, O k → k < w.heap.size → w'.heap[k]? = w.heap[k]?) : RowO w' O v l := by
  obtain ⟨h1, h2⟩ := h
  rcases h1 with ⟨a, b, c⟩ | ⟨c, off, cap, blk, f, hv, hb, hc⟩
  · exact ⟨.inl ⟨a, b, c⟩, fun _ _ _ _ _ hl => absurd (List.eq_nil_of_length_eq_zero a) hl⟩
  · by_cases hl : l = []
    · subst hl
      exact ⟨.inl ⟨rfl, rfl, _, _, hv⟩, fun _ _ _ _ _ hl => absurd rfl hl⟩
    · have hlt : c < w.heap.size := by
        rcases Nat.lt_or_ge c w.heap.size with h | h
        · exact h
        · rw [Array.getElem?_eq_none h] at hb; cases hb
      refine ⟨.inr ⟨c, off, cap, blk, f, hv, (hk c (h2 _ _ _ _ hv hl).1 hlt).trans hb, hc⟩, fun c' off' n' cap' e hl' => ?_⟩
      have h3 := h2 c' off' n' cap' e hl'
      rw [hv] at e
      simp at e
      obtain ⟨⟨rfl, rfl⟩, _⟩ := e
      exact ⟨h3.1, fun j => (World.frozen?_of_block (hk c h3.1 hlt)).trans (h3.2 j)⟩
theorem RowO.weaken {w : World} {O O' : Nat → Prop} {v : Value} {l : List Int} (h : RowO w O v l) (hO : ∀ k, O k → k < w.heap.size → O' k) : RowO w O' v l := by
  refine ⟨h.1, fun c off n cap e hl => ?_⟩
  have ho := h.2 c off n cap e hl
  rcases h.1 with ⟨a, _, _⟩ | ⟨c', off', cap', blk, f, hv, hb, hc⟩
  · exact absurd (List.eq_nil_of_length_eq_zero a) hl
  · rw [e] at hv
    simp at hv
    obtain ⟨rfl, _⟩ := hv.1
    refine ⟨hO _ ho.1 ?_, ho.2⟩
    exact (by rcases Nat.lt_or_ge c w.heap.size with h | h; exact h; rw [Array.getElem?_eq_none h] at hb; cases hb)
theorem blk_keeps {w w' : World} {b t : Nat} {cs : List Value} (h : Blk w b t cs) (hk : w'.heap[b]? = w.heap[b]?) : Blk w' b t cs := by
  unfold Blk at *
  rw [hk]; exact h
theorem owns_lt {w : World} {b n : Nat} {D : DataW Unit} (h : w.ownsMap Try.prog 3 ptrR b n D) : b < w.heap.size := by
  obtain ⟨es, clock, hb, _⟩ := h
  rcases Nat.lt_or_ge b w.heap.size with h | h
  · exact h
  · rw [Array.getElem?_eq_none h] at hb; cases hb
theorem owns_keeps {w w' : World} {b n : Nat} {D : DataW Unit} (h : w.ownsMap Try.prog 3 ptrR b n D) (hk : w'.heap[b]? = w.heap[b]?) : w'.ownsMap Try.prog 3 ptrR b n D := by
  obtain ⟨es, clock, hb, r⟩ := h
  exact ⟨es, clock, hk.trans hb, r⟩
theorem TabT.keeps {w w' : World} {O : Nat → Prop} {tb : Nat} {T : Tr} (h : TabT w O tb T) (hk : ∀ k, O k → k < w.heap.size → w'.heap[k]? = w.heap[k]?) : TabT w' O tb T := by
  obtain ⟨m, h1, h2, h3⟩ := h.mp
  exact ⟨h.up, h.apart, h.base, ⟨m, blk_keeps h1 (hk _ h.base h1.lt), h2, owns_keeps h3 (hk _ h2 (owns_lt h3))⟩, fun x hx => by
    obtain ⟨a, av, b, c⟩ := h.rows x hx
    exact ⟨a, av, blk_keeps b (hk _ a b.lt), c.keeps hk⟩⟩
theorem TabT.fits {w w' : World} {O : Nat → Prop} {tb : Nat} {T : Tr} (h : TabT w O tb T) (k : Below w.heap.size w w') : TabT w' O tb T := h.keeps fun i _ hi => k.block i hi
theorem TabT.weaken {w : World} {O O' : Nat → Prop} {tb : Nat} {T : Tr} (h : TabT w O tb T) (hO : ∀ k, O k → k < w.heap.size → O' k) : TabT w O' tb T := by
  obtain ⟨m, h1, h2, h3⟩ := h.mp
  exact ⟨h.up, h.apart, hO _ h.base h1.lt, ⟨m, h1, hO _ h2 (owns_lt h3), h3⟩, fun x hx => by
    obtain ⟨a, av, b, c⟩ := h.rows x hx
    exact ⟨hO _ a b.lt, av, b, c.weaken hO⟩⟩
/-- All blocks that are not of a kind are as they were. -/
structure Out (O : Nat → Prop) (w w' : World) : Prop where
  os : w'.os = w.os
  tape : w'.tape = w.tape
  output : w'.output = w.output
  size : w.heap.size ≤ w'.heap.size
  block : ∀ k, k < w.heap.size → ¬ O k → w'.heap[k]? = w.heap[k]?
theorem Out.below {B : Nat} {w w' : World} (h : Out (fun k => B ≤ k) w w') (hB : B ≤ w.heap.size) : Below B w w' :=
  ⟨h.os, h.tape, h.output, h.size, fun k hk => h.block k (by omega) (by omega)⟩
theorem Out.of_below {O : Nat → Prop} {w w' : World} (h : Below w.heap.size w w') : Out O w w' := ⟨h.os, h.tape, h.output, h.size, fun k hk _ => h.block k hk⟩
theorem Out.of_but {O : Nat → Prop} {b : Nat} {w w' : World} (h : But b w w') (hb : O b) : Out O w w' := ⟨h.os, h.tape, h.output, h.size, fun k hk hn => h.block k hk (fun e => hn (e ▸ hb))⟩
theorem Out.trans {O : Nat → Prop} {u v w : World} (h : Out O u v) (k : Out O v w) : Out O u w :=
  ⟨k.os.trans h.os, k.tape.trans h.tape, k.output.trans h.output, Nat.le_trans h.size k.size, fun i hi hn => (k.block i (Nat.lt_of_lt_of_le hi h.size) hn).trans (h.block i hi hn)⟩
theorem Out.butNew {O : Nat → Prop} {b : Nat} {u w w' : World} (h : Out O u w) (k : But b w w') (hb : u.heap.size ≤ b) : Out O u w' :=
  ⟨k.os.trans h.os, k.tape.trans h.tape, k.output.trans h.output, Nat.le_trans h.size k.size, fun i hi hn => (k.block i (Nat.lt_of_lt_of_le hi h.size) (by omega)).trans (h.block i hi hn)⟩
theorem Out.mono {O O' : Nat → Prop} {w w' : World} (h : Out O w w') (ho : ∀ k, O k → O' k) : Out O' w w' := ⟨h.os, h.tape, h.output, h.size, fun k hk hn => h.block k hk (fun e => hn (ho k e))⟩
/-- The blocks of a table, known to be old. -/
theorem TabT.old {w : World} {O : Nat → Prop} {tb : Nat} {T : Tr} (h : TabT w O tb T) : TabT w (fun k => O k ∧ k < w.heap.size) tb T := h.weaken fun _ a b => ⟨a, b⟩
theorem getL_lk (who : Int) (T : Tr) : getL who (lkT T) = (T.find? fun x => x.1 == who).map (·.2.1) := by
  unfold getL lkT
  rw [List.find?_map]
  cases h : T.find? ((fun x : Int × Nat => x.1 == who) ∘ fun x => (x.1, x.2.1)) with
  | none =>
    have : T.find? (fun x => x.1 == who) = none := h
    rw [this]; rfl
  | some x =>
    have : T.find? (fun x => x.1 == who) = some x := h
    rw [this]; rfl
theorem findT_st (who : Int) (T : Tr) : findT who (stT T) = (T.find? fun x => x.1 == who).map (·.2.2) := by
  unfold findT stT
  rw [List.find?_map]
  cases h : T.find? ((fun x : Int × Tn => x.1 == who) ∘ fun x => (x.1, x.2.2)) with
  | none =>
    have : T.find? (fun x => x.1 == who) = none := h
    rw [this]; rfl
  | some x =>
    have : T.find? (fun x => x.1 == who) = some x := h
    rw [this]; rfl
/-- The one of a session, with its block. -/
def atT (who : Int) (T : Tr) : Option (Int × Nat × Tn) := T.find? fun x => x.1 == who
theorem atT_mem {who : Int} {T : Tr} {x : Int × Nat × Tn} (h : atT who T = some x) : x ∈ T ∧ x.1 = who := by
  have h2 := List.find?_some h
  exact ⟨List.mem_of_find?_eq_some h, by simpa using h2⟩
def foundV (o : Option (Int × Nat × Tn)) : Value := match o with | none => .pointer none | some x => .pointer (some ⟨x.2.1, 0, none⟩)
def foundE (o : Option (Int × Nat × Tn)) : Int := match o with | none => 182 | some _ => 0

set_option maxRecDepth 100000 in
theorem look_tab {w : World} {m : Nat} {T : Tr} (h : w.ownsMap Try.prog 3 ptrR m T.length (mapD (lkT T))) (who : Int) (hw : (Lit.int .i64 who).wf = true) :
    (Instr.lookup 60 (.map (some m)) (.int .i64 who) false).run Try.prog w = .ok (foundV (atT who T)) w := by
  have K := Maps.int_keyed Try.underlying3
  obtain ⟨v, ps, hrun, hv⟩ := h.lookup K Try.underlying60 (Try.zeroValue63 w) ptrR_nil (Maps.keyOf_int_mk Try.underlying3 hw)
  suffices he : v = foundV (atT who T) by rw [hrun, he]
  clear hrun
  obtain ⟨p, rfl, hz⟩ := ptrR_inv hv
  simp only [Prod.mk.injEq] at hz
  have h1 := hz.1
  rw [at_mapD, getL_lk] at h1
  unfold foundV atT
  cases hg : T.find? (fun x => x.1 == who) with
  | none =>
    rw [hg] at h1
    cases p with
    | none => rfl
    | some b => simp at h1
  | some x =>
    rw [hg] at h1
    cases p with
    | none => simp at h1
    | some b =>
      simp at h1
      have : x.2.1 = b := by omega
      subst this
      rfl

set_option maxRecDepth 100000 in
theorem find_any (O : Nat → Prop) (tb : Nat) (T : Tr) (who : Int) (hw : (Lit.int .i64 who).wf = true) (w : World) (h : TabT w O tb T) :
    Calls Try.prog 31 #[.pointer (some ⟨tb, 0, none⟩), .int .i64 who] w fun e w' => e = .returned (.tuple #[foundV (atT who T), .int .i64 (foundE (atT who T))]) ∧ w = w' := by
  obtain ⟨m, h1, _, h3⟩ := h.mp
  have hl := look_tab h3 who hw
  have c0 := h1.cell 0 (by simp)
  simp only [List.getElem_cons_zero] at c0
  generalize atT who T = o at *
  clear h h1 h3
  go_enter Try.func31, Try.ntmps31
  cases o with
  | none =>
    unfold foundV at hl
    go_wp2_with fail
    go_ret2
    exact ⟨rfl, rfl⟩
  | some x =>
    unfold foundV at hl
    dsimp only at hl
    go_wp2_with fail
    go_ret2
    exact ⟨rfl, rfl⟩

theorem new_any (w : World) : Calls Try.prog 8 #[] w fun e w' => ∃ tb, e = .returned (.pointer (some ⟨tb, 0, none⟩)) ∧ TabT w' (fun k => w.heap.size ≤ k) tb [] ∧ Below w.heap.size w w' := by
  have hmm := @run_makeMap Try.prog
  go_enter Try.func8, Try.ntmps8
  go_wp2_with fail
  go_ret
  refine ⟨w.heap.size + 1, rfl, ⟨List.Pairwise.nil, List.Pairwise.nil, Nat.le_succ _, ⟨w.heap.size, ?_, Nat.le_refl _, ?_⟩, by simp⟩, ((Grow.refl w).alloc _).alloc _⟩
  · have := Blk.new (w.alloc (.map #[] 0)) 62 [.map (some w.heap.size)]
    rw [show (w.alloc (.map #[] 0)).heap.size = w.heap.size + 1 by simp] at this
    exact this
  · exact (World.ownsMap_made w Try.prog 3 ptrR).alloc _

end Go.Proofs.Ytgijmlienolhpaa
