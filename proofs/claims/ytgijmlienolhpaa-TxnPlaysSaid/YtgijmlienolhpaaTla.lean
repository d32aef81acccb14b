
/- The laws' calls as arguments; what a table answers. -/
import Derived.Test.YtgijmlienolhpaaTs7
namespace Go.Proofs.Ytgijmlienolhpaa
open Go.RowKit Go.Maps

theorem flat_at {α : Type} (f : α → List Value) (s : Nat) (hs : ∀ x, (f x).length = s) (l : List α) (k : Nat) (hk : k < l.length) (j : Nat) (hj : j < s) : (l.flatMap f)[k * s + j]? = (f l[k])[j]? := by
  induction l generalizing k with
  | nil => simp at hk
  | cons x r ih =>
    rw [List.flatMap_cons]
    cases k with
    | zero => rw [Nat.zero_mul, Nat.zero_add, List.getElem?_append_left (by rw [hs]; exact hj)]; rfl
    | succ k =>
      rw [List.getElem?_append_right (by rw [hs, Nat.succ_mul]; omega), hs, show (k + 1) * s + j - s = k * s + j by rw [Nat.succ_mul]; omega]
      exact ih k (by simpa using hk)
theorem flat_len {α : Type} (f : α → List Value) (s : Nat) (hs : ∀ x, (f x).length = s) (l : List α) : (l.flatMap f).length = l.length * s := by
  induction l with
  | nil => simp
  | cons x r ih => rw [List.flatMap_cons, List.length_append, hs, ih, List.length_cons, Nat.succ_mul]; omega
/-- Calls as they lie in memory. -/
structure OpsIn (w : World) (v : Value) (ps : List (Cl × Value)) : Prop where
  row : Row w 30 v ps.length (ps.flatMap fun p => opC p.1 p.2)
  each : ∀ p ∈ ps, Ints w p.2 p.1.act ∧ ClOk p.1 ∧ (Lit.int .i64 p.1.who).wf = true
theorem OpsIn.fits {w w' : World} {v : Value} {ps : List (Cl × Value)} (h : OpsIn w v ps) (k : Grow w w') : OpsIn w' v ps := ⟨Row.fits h.row k, fun p hp => ⟨Row.fits (h.each p hp).1 k, (h.each p hp).2⟩⟩
theorem OpsIn.at_ {w : World} {v : Value} {ps : List (Cl × Value)} (h : OpsIn w v ps) {k : Nat} (hk : k < ps.length) : ∃ c off cap, v = .slice (some ⟨c, off, none⟩) ps.length cap ∧
    w.cell? ⟨c, off + k * 6, none⟩ = some (.int .i64 ps[k].1.ask) ∧ w.cell? ⟨c, off + k * 6 + 1, none⟩ = some (.int .i64 ps[k].1.who) ∧ w.cell? ⟨c, off + k * 6 + 2, none⟩ = some (.int .i64 ps[k].1.n) ∧ w.cell? ⟨c, off + k * 6 + 3, none⟩ = some (.bool ps[k].1.flag) ∧ w.cell? ⟨c, off + k * 6 + 4, none⟩ = some (.int .i64 ps[k].1.next) ∧ w.cell? ⟨c, off + k * 6 + 5, none⟩ = some ps[k].2 := by
  rcases h.row with ⟨h0, _⟩ | ⟨c, off, cap, rfl, hc⟩
  · omega
  · have hl := flat_len (fun p : Cl × Value => opC p.1 p.2) 6 (fun _ => rfl) ps
    have hg : ∀ j (hj : j < 6), w.cell? ⟨c, off + k * 6 + j, none⟩ = some ((opC ps[k].1 ps[k].2)[j]'hj) := by
      intro j hj
      have hlt : k * 6 + j < (ps.flatMap fun p => opC p.1 p.2).length := by rw [hl]; omega
      have h1 := hc (k * 6 + j) hlt
      have h2 := flat_at (fun p : Cl × Value => opC p.1 p.2) 6 (fun _ => rfl) ps k hk j hj
      rw [List.getElem?_eq_getElem hlt] at h2
      rw [show off + k * 6 + j = off + (k * 6 + j) by omega, h1, h2]
      exact List.getElem?_eq_getElem hj
    exact ⟨c, off, cap, rfl, hg 0 (by decide), hg 1 (by decide), hg 2 (by decide), hg 3 (by decide), hg 4 (by decide), hg 5 (by decide)⟩

/-- The list behind the first k calls. -/
def stA (ps : List (Cl × Value)) (k : Nat) : St := (ps.take k).foldl (fun S p => doesT p.1 S) []
theorem stA_succ (ps : List (Cl × Value)) (k : Nat) (hk : k < ps.length) : stA ps (k + 1) = doesT ps[k].1 (stA ps k) := by
  unfold stA
  rw [List.take_succ_eq_append_getElem hk, List.foldl_append]
  rfl
theorem stA_good (ps : List (Cl × Value)) (h : ∀ p ∈ ps, ClOk p.1) (k : Nat) (hk : k ≤ ps.length) : Good k (stA ps k) := by
  induction k with
  | zero => exact good_nil
  | succ k ih =>
    rw [stA_succ ps k hk]
    exact good_does (ih (by omega)) (h _ (List.getElem_mem _))
/-- The state ahead of call k. -/
def DoRel (ps : List (Cl × Value)) (tb : Nat) (w_ : World) (i : Value) (wr : World) : Prop := ∃ (k : Nat) (T : Tr), k ≤ ps.length ∧ i = .int .i64 k ∧ Kept (TabT wr (fun k => w_.heap.size ≤ k) tb T) ∧ Kept (stT T = stA ps k) ∧ Kept (Below w_.heap.size w_ wr)
def IsRel (l : List (Int × Int)) (x y : Int) (w0 : World) (b i : Value) (wr : World) : Prop := ∃ k : Nat, k ≤ l.length ∧ b = .bool ((l.take k).any fun z => z.1 == x && z.2 == y) ∧ i = .int .i64 k ∧ Kept (Grow w0 wr)
theorem is_step (l : List (Int × Int)) (x y : Int) (k : Nat) (hk : k < l.length) : ((l.take (k + 1)).any fun z => z.1 == x && z.2 == y) = (((l.take k).any fun z => z.1 == x && z.2 == y) || (l[k].1 == x && l[k].2 == y)) := by
  rw [List.take_succ_eq_append_getElem hk, List.any_append]
  simp

theorem stT_end (who : Int) (T : Tr) : stT (if (atT who T).isSome then delR who T else T) = delT who (stT T) := by
  rw [← endT_is]
  unfold endT
  rw [findT_st]
  unfold atT
  cases T.find? fun x => x.1 == who with
  | none => rfl
  | some x => simp [st_del]
/-- A session's End, as the list has it. -/
def EndS (O : Nat → Prop) (tb : Nat) (who : Int) (S : St) (w : World) (e : Ending) (w' : World) : Prop :=
  ∃ av code, e = .returned (.tuple #[tnV ((findT who S).getD tnZ) av, .int .i64 code]) ∧ code = (endT who S).2 ∧ RowO w' (fun k => w.heap.size ≤ k) av ((findT who S).getD tnZ).act ∧ (∃ T', TabT w' O tb T' ∧ stT T' = delT who S) ∧ Out O w w'
theorem end_call (O : Nat → Prop) (tb : Nat) (T : Tr) (S : St) (who : Int) (hw : (Lit.int .i64 who).wf = true) (w_ : World) (h : TabT w_ O tb T) (hS : stT T = S) (K : Nat) (hG : Good K S) :
    Calls Try.prog 21 #[.pointer (some ⟨tb, 0, none⟩), .int .i64 who] w_ (EndS O tb who S w_) := by
  subst hS
  refine (end_any O tb T who hw w_ h hG.lenT).mono ?_
  rintro e w' ⟨av, rfl, hr, ht, ho⟩
  have h1 := stT_end who T
  unfold EndS endT
  rw [findT_st]
  unfold atT at *
  cases hq : T.find? fun x => x.1 == who with
  | none => rw [hq] at hr ht h1; exact ⟨av, 182, rfl, rfl, hr, ⟨_, ht, h1⟩, ho⟩
  | some x => rw [hq] at hr ht h1; exact ⟨av, 0, rfl, rfl, hr, ⟨_, ht, h1⟩, ho⟩

def BgS (S : St) (w : World) (e : Ending) (w' : World) : Prop := ∃ a c, e = .returned (.slice a (begunT S).length c) ∧ Row w' 59 (.slice a (begunT S).length c) (begunT S).length (bgCells (begunT S)) ∧ Below w.heap.size w w' ∧ FreshB w.heap.size (.slice a (begunT S).length c)
def RunS (S : St) (w : World) (e : Ending) (w' : World) : Prop := ∃ a c, e = .returned (.slice a (begunT S).length c) ∧ Row w' 3 (.slice a (begunT S).length c) (begunT S).length (iCells (runT S)) ∧ Below w.heap.size w w' ∧ FreshB w.heap.size (.slice a (begunT S).length c)
def SnpS (S : St) (w : World) (e : Ending) (w' : World) : Prop := ∃ a c, e = .returned (.slice a S.length c) ∧ SnS w' w.heap.size (.slice a S.length c) (snapsT S) ∧ Below w.heap.size w w'
theorem runT_len (S : St) : (runT S).length = (begunT S).length := by simp [runT]
theorem snapsT_len (S : St) : (snapsT S).length = S.length := by simp [snapsT]
theorem begunT_len (S : St) : (begunT S).length ≤ S.length := by rw [(begunT_perm _).length_eq]; exact begs_len _
/-- What a table answers from a world on. -/
structure RdC (S : St) (tb : Nat) (wr : World) : Prop where
  beg : ∀ u, Grow wr u → Calls Try.prog 27 #[.pointer (some ⟨tb, 0, none⟩)] u (BgS S u)
  run : ∀ u, Grow wr u → Calls Try.prog 12 #[.pointer (some ⟨tb, 0, none⟩)] u (RunS S u)
  snp : ∀ u, Grow wr u → Calls Try.prog 26 #[.pointer (some ⟨tb, 0, none⟩)] u (SnpS S u)
  old : ∀ u, Grow wr u → Calls Try.prog 11 #[.pointer (some ⟨tb, 0, none⟩)] u (fun e w' => e = .returned (.int .i64 (oldT S)) ∧ Below u.heap.size u w')
  of : ∀ who, (Lit.int .i64 who).wf = true → ∀ u, Grow wr u → Calls Try.prog 10 #[.pointer (some ⟨tb, 0, none⟩), .int .i64 who] u (OfS (findT who S) u)
theorem RdC.fits {S : St} {tb : Nat} {w w' : World} (h : RdC S tb w) (k : Grow w w') : RdC S tb w' :=
  ⟨fun u hu => h.beg u (Grow.trans k hu), fun u hu => h.run u (Grow.trans k hu), fun u hu => h.snp u (Grow.trans k hu), fun u hu => h.old u (Grow.trans k hu), fun who hw u hu => h.of who hw u (Grow.trans k hu)⟩
theorem rd_calls {O : Nat → Prop} {tb : Nat} {T : Tr} {wr : World} {S : St} {K : Nat} (hT : TabT wr O tb T) (hS : stT T = S) (hG : Good K S) (hK : K ≤ 4398046511104) : RdC S tb wr := by
  subst hS
  have hl := hG.sizeT hK
  refine ⟨fun u hu => ?_, fun u hu => ?_, fun u hu => ?_, fun u hu => oldest_any _ tb T u (hT.fits hu) hl, fun who hw u hu => of_call _ tb T who hw u (hT.fits hu) K hG⟩
  · refine (begun_any _ tb T u (hT.fits hu) hl K hG.fit hG.xidT).mono ?_
    rintro e w' ⟨v, rfl, hr, hb, hf⟩
    obtain ⟨a, c, rfl⟩ := row_sl hr
    exact ⟨a, c, rfl, hr, hb, hf⟩
  · refine (running_any _ tb T u (hT.fits hu) hl K hG.fit hG.xidT).mono ?_
    rintro e w' ⟨v, rfl, hr, hb, hf⟩
    unfold Ints at hr
    rw [runT_len] at hr
    obtain ⟨a, c, rfl⟩ := row_sl hr
    exact ⟨a, c, rfl, hr, hb, hf⟩
  · refine (snaps_any _ tb T u (hT.fits hu) hl hG.lenT).mono ?_
    rintro e w' ⟨v, rfl, hs, hb⟩
    have hs' := hs
    obtain ⟨ps, ho, _⟩ := hs'
    rw [snapsT_len] at ho
    obtain ⟨a, c, rfl⟩ := own_form ho
    exact ⟨a, c, rfl, hs, hb⟩

end Go.Proofs.Ytgijmlienolhpaa
