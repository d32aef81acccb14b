
/- Both tables side by side in memory: what a call of one leaves of the other. -/
import Derived.Test.YtgijmlienolhpaaTda
namespace Go.Proofs.Ytgijmlienolhpaa
open Go.RowKit Go.Maps

/-- Both tables; their blocks are of A, of B, or not older than N. -/
structure TwoT (A B : Nat → Prop) (N : Nat) (tb tr : Nat) (S1 S2 : St) (w : World) : Prop where
  ex : ∃ (T : Tr) (D : Dr) (O1 O2 : Nat → Prop), TabT w O1 tb T ∧ DocT w O2 tr D ∧ stT T = S1 ∧ stD D = S2 ∧ (∀ j, O1 j → (A j ∨ N ≤ j) ∧ j < w.heap.size) ∧ (∀ j, O2 j → (B j ∨ N ≤ j) ∧ j < w.heap.size) ∧ ∀ j, O1 j → O2 j → False
/-- What is neither of A nor of B and older than N stays. -/
structure ExtT (A B : Nat → Prop) (N : Nat) (u v : World) : Prop where
  os : v.os = u.os
  tape : v.tape = u.tape
  output : v.output = u.output
  size : u.heap.size ≤ v.heap.size
  block : ∀ j, j < N → ¬ A j → ¬ B j → v.heap[j]? = u.heap[j]?
variable {A B : Nat → Prop} {N tb tr : Nat} {S1 S2 : St} {u v w w' : World}
theorem ExtT.refl (w : World) : ExtT A B N w w := ⟨rfl, rfl, rfl, Nat.le_refl _, fun _ _ _ _ => rfl⟩
theorem ExtT.trans (h : ExtT A B N u v) (k : ExtT A B N v w) : ExtT A B N u w :=
  ⟨k.os.trans h.os, k.tape.trans h.tape, k.output.trans h.output, Nat.le_trans h.size k.size, fun j a b c => (k.block j a b c).trans (h.block j a b c)⟩
theorem ExtT.of_grow (h : Grow u v) (hN : N ≤ u.heap.size) : ExtT A B N u v := ⟨h.os, h.tape, h.output, h.size, fun j a _ _ => h.block j (by omega)⟩
theorem TwoT.keeps (h : TwoT A B N tb tr S1 S2 w) (hs : w.heap.size ≤ w'.heap.size) (hk : ∀ j, j < w.heap.size → (A j ∨ B j ∨ N ≤ j) → w'.heap[j]? = w.heap[j]?) : TwoT A B N tb tr S1 S2 w' := by
  obtain ⟨T, D, O1, O2, h1, h2, h3, h4, h5, h6, h7⟩ := h.ex
  exact ⟨T, D, O1, O2, h1.keeps fun j hj hl => hk j hl ((h5 j hj).1.elim .inl fun h => .inr (.inr h)), h2.keeps fun j hj hl => hk j hl ((h6 j hj).1.elim (fun h => .inr (.inl h)) fun h => .inr (.inr h)), h3, h4, fun j hj => ⟨(h5 j hj).1, Nat.lt_of_lt_of_le (h5 j hj).2 hs⟩, fun j hj => ⟨(h6 j hj).1, Nat.lt_of_lt_of_le (h6 j hj).2 hs⟩, h7⟩
theorem TwoT.fits (h : TwoT A B N tb tr S1 S2 w) (k : Grow w w') : TwoT A B N tb tr S1 S2 w' := h.keeps k.size fun j hj _ => k.block j hj
theorem TwoT.again (h : TwoT A B N tb tr S1 S2 w) : ∃ A' B' : Nat → Prop, TwoT A' B' w.heap.size tb tr S1 S2 w ∧ (∀ j, A' j → (A j ∨ N ≤ j) ∧ j < w.heap.size) ∧ ∀ j, B' j → (B j ∨ N ≤ j) ∧ j < w.heap.size := by
  obtain ⟨T, D, O1, O2, h1, h2, h3, h4, h5, h6, h7⟩ := h.ex
  exact ⟨O1, O2, ⟨T, D, O1, O2, h1, h2, h3, h4, fun j hj => ⟨.inl hj, (h5 j hj).2⟩, fun j hj => ⟨.inl hj, (h6 j hj).2⟩, h7⟩, h5, h6⟩
theorem TwoT.wide {A' B' : Nat → Prop} {N' : Nat} (h : TwoT A' B' N' tb tr S1 S2 w) (hA : ∀ j, A' j → A j ∨ N ≤ j) (hB : ∀ j, B' j → B j ∨ N ≤ j) (hN : N ≤ N') : TwoT A B N tb tr S1 S2 w := by
  obtain ⟨T, D, O1, O2, h1, h2, h3, h4, h5, h6, h7⟩ := h.ex
  exact ⟨T, D, O1, O2, h1, h2, h3, h4, fun j hj => ⟨(h5 j hj).1.elim (hA j) fun h => .inr (Nat.le_trans hN h), (h5 j hj).2⟩, fun j hj => ⟨(h6 j hj).1.elim (hB j) fun h => .inr (Nat.le_trans hN h), (h6 j hj).2⟩, h7⟩
theorem TwoT.rd {K : Nat} (h : TwoT A B N tb tr S1 S2 w) (hG : Good K S1) (hK : K ≤ 4398046511104) : RdC S1 tb w := by
  obtain ⟨T, D, O1, O2, h1, h2, h3, -⟩ := h.ex
  exact rd_calls h1 h3 hG hK
theorem TwoT.dd {K : Nat} (h : TwoT A B N tb tr S1 S2 w) (hG : Good K S2) (hK : K ≤ 2199023255552) : DdC S2 tr w := by
  obtain ⟨T, D, O1, O2, h1, h2, h3, h4, -⟩ := h.ex
  exact dd_calls h2 h4 hG hK
/-- A call of the program's table. -/
theorem TwoT.stepA (h : TwoT A B N tb tr S1 S2 w) (hN : N ≤ w.heap.size) : ∃ T O, TabT w O tb T ∧ (∀ k, w.heap.size ≤ k → O k) ∧ stT T = S1 ∧
    ∀ S1' w', (∃ T', TabT w' O tb T' ∧ stT T' = S1') → Out O w w' → TwoT A B N tb tr S1' S2 w' ∧ ExtT A B N w w' := by
  obtain ⟨T, D, O1, O2, h1, h2, h3, h4, h5, h6, h7⟩ := h.ex
  refine ⟨T, fun j => O1 j ∨ w.heap.size ≤ j, h1.weaken fun j hj _ => .inl hj, fun k hk => .inr hk, h3, ?_⟩
  rintro S1' w' ⟨T', ht, hs⟩ ho
  refine ⟨⟨T', D, _, O2, ht.old, h2.keeps fun j hj hl => ho.block j hl (fun e => e.elim (fun e => h7 j e hj) fun e => by omega), hs, h4, ?_, ?_, ?_⟩, ?_⟩
  · rintro j ⟨hj | hj, hl⟩
    · exact ⟨(h5 j hj).1, hl⟩
    · exact ⟨.inr (by omega), hl⟩
  · intro j hj
    exact ⟨(h6 j hj).1, Nat.lt_of_lt_of_le (h6 j hj).2 ho.size⟩
  · rintro j ⟨hj | hj, hl⟩ h8
    · exact h7 j hj h8
    · have := (h6 j h8).2; omega
  · refine ⟨ho.os, ho.tape, ho.output, ho.size, fun j a b c => ho.block j (by omega) (fun e => e.elim (fun e => (h5 j e).1.elim b fun h => by omega) fun e => by omega)⟩
/-- A call of the document's table. -/
theorem TwoT.stepB (h : TwoT A B N tb tr S1 S2 w) (hN : N ≤ w.heap.size) : ∃ D O, DocT w O tr D ∧ (∀ k, w.heap.size ≤ k → O k) ∧ stD D = S2 ∧
    ∀ S2' w', (∃ D', DocT w' O tr D' ∧ stD D' = S2') → Out O w w' → TwoT A B N tb tr S1 S2' w' ∧ ExtT A B N w w' := by
  obtain ⟨T, D, O1, O2, h1, h2, h3, h4, h5, h6, h7⟩ := h.ex
  refine ⟨D, fun j => O2 j ∨ w.heap.size ≤ j, h2.weaken fun j hj _ => .inl hj, fun k hk => .inr hk, h4, ?_⟩
  rintro S2' w' ⟨D', ht, hs⟩ ho
  refine ⟨⟨T, D', O1, _, h1.keeps fun j hj hl => ho.block j hl (fun e => e.elim (fun e => h7 j hj e) fun e => by omega), ht.old, h3, hs, ?_, ?_, ?_⟩, ?_⟩
  · intro j hj
    exact ⟨(h5 j hj).1, Nat.lt_of_lt_of_le (h5 j hj).2 ho.size⟩
  · rintro j ⟨hj | hj, hl⟩
    · exact ⟨(h6 j hj).1, hl⟩
    · exact ⟨.inr (by omega), hl⟩
  · rintro j h8 ⟨hj | hj, hl⟩
    · exact h7 j h8 hj
    · have := (h5 j h8).2; omega
  · refine ⟨ho.os, ho.tape, ho.output, ho.size, fun j a b c => ho.block j (by omega) (fun e => e.elim (fun e => (h6 j e).1.elim c fun h => by omega) fun e => by omega)⟩
def CallA (A B : Nat → Prop) (N tb tr : Nat) (R : St × Int) (S2 : St) (w : World) (e : Ending) (w' : World) : Prop := e = .returned (.int .i64 R.2) ∧ TwoT A B N tb tr R.1 S2 w' ∧ ExtT A B N w w'
def CallB (A B : Nat → Prop) (N tb tr : Nat) (S1 : St) (R : St × Int) (w : World) (e : Ending) (w' : World) : Prop := e = .returned (.int .i64 R.2) ∧ TwoT A B N tb tr S1 R.1 w' ∧ ExtT A B N w w'

theorem twoA_begin {K : Nat} (h : TwoT A B N tb tr S1 S2 w) (hN : N ≤ w.heap.size) (hG : Good K S1) (hK : K ≤ 4398046511104) (who next : Int) (act : List Int) (sv : Value) (hw : (Lit.int .i64 who).wf = true) (hs : Ints w sv act) (hl : (act.length : Int) ≤ 17592186044416) :
    Calls Try.prog 15 #[.pointer (some ⟨tb, 0, none⟩), .int .i64 who, .agg #[.int .i64 next, sv]] w (CallA A B N tb tr (beginT who next act S1) S2 w) := by
  obtain ⟨T, O, h1, h2, rfl, h4⟩ := h.stepA hN
  refine (begin_any O tb T who next act sv hw w h1 h2 hs hl (hG.sizeT hK)).mono ?_
  rintro e w' ⟨rfl, ht, ho⟩
  exact ⟨rfl, h4 _ w' ht ho⟩
theorem twoA_take {K : Nat} (h : TwoT A B N tb tr S1 S2 w) (hN : N ≤ w.heap.size) (hG : Good K S1) (hK : K ≤ 4398046511104) (who n : Int) (hw : (Lit.int .i64 who).wf = true) :
    Calls Try.prog 17 #[.pointer (some ⟨tb, 0, none⟩), .int .i64 who, .int .i64 n] w (CallA A B N tb tr (takeT who n S1) S2 w) := by
  obtain ⟨T, O, h1, h2, rfl, h4⟩ := h.stepA hN
  refine (take_any O tb T who n hw w h1 (hG.sizeT hK) K hG.fit hG.xidT).mono ?_
  rintro e w' ⟨rfl, ht, ho⟩
  exact ⟨rfl, h4 _ w' ht ho⟩
theorem twoA_logged {K : Nat} (h : TwoT A B N tb tr S1 S2 w) (hN : N ≤ w.heap.size) (hG : Good K S1) (hK : K ≤ 4398046511104) (who n : Int) (un : Bool) (hw : (Lit.int .i64 who).wf = true) :
    Calls Try.prog 19 #[.pointer (some ⟨tb, 0, none⟩), .int .i64 who, .int .i64 n, .bool un] w (CallA A B N tb tr (loggedT who n un S1) S2 w) := by
  obtain ⟨T, O, h1, h2, rfl, h4⟩ := h.stepA hN
  refine (logged_any O tb T who n un hw w h1 K (by omega) hG.fit).mono ?_
  rintro e w' ⟨rfl, ht, ho⟩
  exact ⟨rfl, h4 _ w' ht ho⟩
theorem twoB_begin {K : Nat} (h : TwoT A B N tb tr S1 S2 w) (hN : N ≤ w.heap.size) (hG : Good K S2) (hK : K ≤ 2199023255552) (who next : Int) (act : List Int) (sv : Value) (hs : SrcOk w sv act.length (iCells act) 1) (hl : (act.length : Int) ≤ 17592186044416) :
    Calls Try.prog 16 #[.pointer (some ⟨tr, 0, none⟩), .int .i64 who, .agg #[.int .i64 next, sv]] w (CallB A B N tb tr S1 (beginT who next act S2) w) := by
  obtain ⟨D, O, h1, h2, rfl, h4⟩ := h.stepB hN
  have hn : D.length ≤ 2199023255552 := by have := hG.len; simp [stD] at this; omega
  refine (doc_begin O tr D who next act sv w h1 h2 hG.fit.up hs hl hn).mono ?_
  rintro e w' ⟨rfl, ht, ho⟩
  exact ⟨rfl, h4 _ w' ht ho⟩
theorem twoB_take {K : Nat} (h : TwoT A B N tb tr S1 S2 w) (hN : N ≤ w.heap.size) (hG : Good K S2) (hK : K ≤ 2199023255552) (who n : Int) :
    Calls Try.prog 18 #[.pointer (some ⟨tr, 0, none⟩), .int .i64 who, .int .i64 n] w (CallB A B N tb tr S1 (takeT who n S2) w) := by
  obtain ⟨D, O, h1, h2, rfl, h4⟩ := h.stepB hN
  have hn : D.length ≤ 4398046511104 := by have := hG.len; simp [stD] at this; omega
  refine (doc_take O tr D who n w h1 hG.fit.up hn).mono ?_
  rintro e w' ⟨rfl, ht, ho⟩
  exact ⟨rfl, h4 _ w' ht ho⟩
theorem twoB_logged {K : Nat} (h : TwoT A B N tb tr S1 S2 w) (hN : N ≤ w.heap.size) (hG : Good K S2) (hK : K ≤ 2199023255552) (who n : Int) (un : Bool) :
    Calls Try.prog 20 #[.pointer (some ⟨tr, 0, none⟩), .int .i64 who, .int .i64 n, .bool un] w (CallB A B N tb tr S1 (loggedT who n un S2) w) := by
  obtain ⟨D, O, h1, h2, rfl, h4⟩ := h.stepB hN
  have hn : D.length ≤ 4398046511104 := by have := hG.len; simp [stD] at this; omega
  refine (doc_logged O tr D who n un w h1 K (by omega) hG.fit hn).mono ?_
  rintro e w' ⟨rfl, ht, ho⟩
  exact ⟨rfl, h4 _ w' ht ho⟩
/-- End of the program's: what it answers is apart from both tables. -/
theorem twoA_end {K : Nat} (h : TwoT A B N tb tr S1 S2 w) (hG : Good K S1) (who : Int) (hw : (Lit.int .i64 who).wf = true) :
    Calls Try.prog 21 #[.pointer (some ⟨tb, 0, none⟩), .int .i64 who] w fun e w' => ∃ av A' B', e = .returned (.tuple #[tnV ((findT who S1).getD tnZ) av, .int .i64 (endT who S1).2]) ∧ RowO w' (fun k => w.heap.size ≤ k) av ((findT who S1).getD tnZ).act ∧
      (∀ M, TwoT A' B' M tb tr (endT who S1).1 S2 w') ∧ (∀ j, A' j → (A j ∨ N ≤ j) ∧ j < w.heap.size) ∧ (∀ j, B' j → (B j ∨ N ≤ j) ∧ j < w.heap.size) ∧ Out A' w w' := by
  obtain ⟨T, D, O1, O2, h1, h2, h3, h4, h5, h6, h7⟩ := h.ex
  refine (end_call O1 tb T S1 who hw w h1 h3 K hG).mono ?_
  rintro e w' ⟨av, code, rfl, rfl, hr, ht, ho⟩
  rw [← endT_is] at ht
  obtain ⟨T', ht, hs⟩ := ht
  refine ⟨av, O1, O2, rfl, hr, fun M => ⟨T', D, O1, O2, ht, h2.keeps fun j hj hl => ho.block j hl (fun e => h7 j e hj), hs, h4, fun j hj => ⟨.inl hj, Nat.lt_of_lt_of_le (h5 j hj).2 ho.size⟩, fun j hj => ⟨.inl hj, Nat.lt_of_lt_of_le (h6 j hj).2 ho.size⟩, h7⟩, h5, h6, ho⟩
theorem twoB_end {K : Nat} (h : TwoT A B N tb tr S1 S2 w) (hN : N ≤ w.heap.size) (hG : Good K S2) (hK : K ≤ 2199023255552) (who : Int) :
    Calls Try.prog 22 #[.pointer (some ⟨tr, 0, none⟩), .int .i64 who] w fun e w' => ∃ av, e = .returned (.tuple #[tnV ((findT who S2).getD tnZ) av, .int .i64 (endT who S2).2]) ∧ Ints w' av ((findT who S2).getD tnZ).act ∧ TwoT A B N tb tr S1 (endT who S2).1 w' ∧ ExtT A B N w w' := by
  obtain ⟨D, O, h1, h2, rfl, h4⟩ := h.stepB hN
  have hn : D.length ≤ 2199023255552 := by have := hG.len; simp [stD] at this; omega
  refine (doc_end O tr D who w h1 h2 hG.fit.up hn).mono ?_
  rintro e w' ⟨av, rfl, hi, ht, ho⟩
  exact ⟨av, rfl, hi, h4 _ w' ht ho⟩
theorem two_new (w0 : World) (hT : TabT u (fun k => w0.heap.size ≤ k) tb []) (hs : w0.heap.size ≤ u.heap.size) (hD : DocT v (fun k => u.heap.size ≤ k) tr []) (hg : Grow u v) : TwoT (fun _ => False) (fun _ => False) w0.heap.size tb tr [] [] v :=
  ⟨[], [], _, _, hT.old.fits hg, hD.old, rfl, rfl, fun j hj => ⟨.inr hj.1, Nat.lt_of_lt_of_le hj.2 hg.size⟩, fun j hj => ⟨.inr (Nat.le_trans hs hj.1), hj.2⟩, fun j h1 h2 => by have := h1.2; have := h2.1; omega⟩

/-- Cells that may be stored into, at the front of a slice. -/
def PutOk (w : World) (v : Value) (m : Nat) : Prop := ∀ g off n cap, v = .slice (some ⟨g, off, none⟩) n cap → ∀ j, j < m → (∃ x, w.cell? ⟨g, off + j, none⟩ = some x) ∧ w.frozen? ⟨g, off + j, none⟩ = false
theorem PutOk.put {v : Value} {m : Nat} (h : PutOk w v m) (a : Addr) (x : Value) : PutOk (w.setCell a x) v m := by
  intro g off n cap e j hj
  obtain ⟨⟨y, hy⟩, h2⟩ := h g off n cap e j hj
  refine ⟨?_, by simpa using h2⟩
  by_cases he : a = ⟨g, off + j, none⟩
  · subst he
    exact ⟨x, World.cell?_setCell_same _ _ _ hy⟩
  · exact ⟨y, (World.cell?_setCell_other _ _ _ _ he).trans hy⟩
theorem PutOk.fits {v : Value} {m : Nat} (h : PutOk w v m) (k : Grow w w') : PutOk w' v m := by
  intro g off n cap e j hj
  obtain ⟨⟨y, hy⟩, h2⟩ := h g off n cap e j hj
  have hlt : g < w.heap.size := World.block_lt_of_cell? w _ hy
  exact ⟨⟨y, (World.cell?_of_block (k.block g hlt)).trans hy⟩, (World.frozen?_of_block (k.block g hlt)).trans h2⟩
theorem grownBy_put {v : Value} {g off n cap : Nat} (h : u.grownBy w v.ownBlock) (hv : v = .slice (some ⟨g, off, none⟩) n cap) (j : Nat) (x : Value) : u.grownBy (w.setCell ⟨g, j, none⟩ x) v.ownBlock := by
  have hb := (But.refl g w).setCell j x
  refine ⟨hb.os.trans h.os, hb.tape.trans h.tape, hb.output.trans h.output, Nat.le_trans h.size hb.size, fun k hk hne => ?_⟩
  rw [← h.block k hk hne]
  refine hb.block k (Nat.lt_of_lt_of_le hk h.size) (fun e => hne ?_)
  rw [hv, e]; rfl
theorem putOk_row {O : Nat → Prop} {v : Value} {l : List Int} (h : RowO w O v l) : PutOk w v l.length := by
  intro g off n cap e j hj
  have hl : l ≠ [] := by rintro rfl; simp at hj
  refine ⟨?_, (h.2 g off n cap e hl).2 j⟩
  rcases h.1.weak with ⟨h0, _⟩ | ⟨c, off', cap', hv, hc⟩
  · omega
  · rw [e] at hv
    simp only [Value.slice.injEq, Option.some.injEq, Addr.mk.injEq] at hv
    obtain ⟨⟨rfl, rfl, -⟩, -, -⟩ := hv
    exact ⟨_, hc j (by simpa using hj)⟩
theorem putOk_own {b e s n : Nat} {v : Value} {xs : List Value} (h : w.ownsRow b e s v n xs) : PutOk w v (n * s) := by
  intro g off n' cap he j hj
  have hx := h.1
  refine ⟨?_, ?_⟩
  · rcases (own_rowS h).weak with ⟨h0, _⟩ | ⟨c, off', cap', hv, hc⟩
    · subst h0; omega
    · rw [he] at hv
      simp only [Value.slice.injEq, Option.some.injEq, Addr.mk.injEq] at hv
      obtain ⟨⟨rfl, rfl, -⟩, -, -⟩ := hv
      exact ⟨_, hc j (by omega)⟩
  · rcases h.2 with ⟨h0, _⟩ | ⟨q, cap', cur, hv, _, hh, _⟩
    · rw [h0] at he; cases he
    · rw [hv] at he
      simp only [Value.slice.injEq, Option.some.injEq, Addr.mk.injEq] at he
      obtain ⟨⟨rfl, rfl, -⟩, -, -⟩ := he
      simp [World.frozen?, hh]

end Go.Proofs.Ytgijmlienolhpaa
