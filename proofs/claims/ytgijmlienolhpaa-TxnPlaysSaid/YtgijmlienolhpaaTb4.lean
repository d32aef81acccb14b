
/- End. -/
import Derived.Test.YtgijmlienolhpaaTb3
import Derived.Maps.OwnSet
namespace Go.Proofs.Ytgijmlienolhpaa
open Go.RowKit Go.Maps

def delR (who : Int) (T : Tr) : Tr := T.filter fun x => x.1 != who
theorem lk_del (who : Int) (T : Tr) : lkT (delR who T) = delL who (lkT T) := by
  unfold lkT delR delL
  rw [List.filter_map]; rfl
theorem st_del (who : Int) (T : Tr) : stT (delR who T) = delT who (stT T) := by
  unfold stT delR delT
  rw [List.filter_map]; rfl
theorem length_insert (a : Lit × DataW Unit) (l : List (Lit × DataW Unit)) : (DataW.insert a l).length = l.length + 1 := by
  induction l with
  | nil => rfl
  | cons x r ih =>
    rw [DataW.insert]
    split
    · rfl
    · simp [ih]
theorem owns_tight {w : World} {b n : Nat} {L : List (Int × Nat)} (h : w.ownsMap Try.prog 3 ptrR b n (mapD L)) : w.ownsMap Try.prog 3 ptrR b L.length (mapD L) := by
  obtain ⟨es, clock, hb, hf, _, hD⟩ := h
  refine ⟨es, clock, hb, hf, ?_, hD⟩
  have e : L.map entD = ((es.toList.map (Go.WideElems.rg Try.prog 3 ptrR)).foldr DataW.insert []) := by
    unfold mapD at hD
    injection hD
  have e2 : ∀ l : List (Lit × DataW Unit), (l.foldr DataW.insert []).length = l.length := by
    intro l
    induction l with
    | nil => rfl
    | cons x r ih => rw [List.foldr_cons, length_insert, ih, List.length_cons]
  have := congrArg List.length e
  rw [e2] at this
  simp at this
  omega
theorem owns_not {w : World} {b n t : Nat} {D : DataW Unit} {cs : Array Value} {f : Nat × Nat} (h : w.ownsMap Try.prog 3 ptrR b n D) : w.heap[b]? ≠ some (.cells cs t f) := by
  obtain ⟨es, clock, hb, _⟩ := h
  rw [hb]; simp
theorem rowO_butG {w w' : World} {O : Nat → Prop} {b : Nat} {v : Value} {l : List Int} (h : RowO w O v l) (hb : ∀ cs f, w.heap[b]? ≠ some (.cells cs 3 f)) (k : But b w w') : RowO w' O v l := by
  have h0 := h.1
  have hkeep : ∀ i, (O i ∧ i ≠ b) → i < w.heap.size → w'.heap[i]? = w.heap[i]? := fun i hi hl => k.block i hl hi.2
  have h1 : RowO w (fun i => O i ∧ i ≠ b) v l := by
    refine ⟨h.1, fun c off n cap e hl => ?_⟩
    have h2 := h.2 c off n cap e hl
    refine ⟨⟨h2.1, ?_⟩, h2.2⟩
    rintro rfl
    rcases h0 with ⟨a, _, _⟩ | ⟨c', off', cap', blk, f, hv, hb', hc⟩
    · exact hl (List.eq_nil_of_length_eq_zero a)
    · rw [e] at hv
      simp at hv
      obtain ⟨⟨rfl, rfl⟩, _⟩ := hv
      exact hb _ _ hb'
  refine ⟨(h1.keeps hkeep).1, fun c off n cap e hl => ?_⟩
  have h3 := (h1.keeps hkeep).2 c off n cap e hl
  exact ⟨h3.1.1, h3.2⟩
theorem blk_butM {w w' : World} {b n t c : Nat} {D : DataW Unit} {cs : List Value} (h : Blk w c t cs) (hm : w.ownsMap Try.prog 3 ptrR b n D) (k : But b w w') : Blk w' c t cs := by
  refine h.but k ?_
  rintro rfl
  unfold Blk at h
  exact owns_not hm h
theorem but_turned {w w' : World} {b : Nat} (h : w.mapTurned w' b) : But b w w' := by
  obtain ⟨es, clock, es', clock', hb, rfl⟩ := h
  refine ⟨rfl, rfl, rfl, by simp [Go.ChangeMaps.setBlock], fun k hk hne => ?_⟩
  simp only [Go.ChangeMaps.setBlock, Array.getElem?_setIfInBounds]
  rw [if_neg (Ne.symm hne)]
theorem TabT.del {w w' : World} {O : Nat → Prop} {tb m : Nat} {T : Tr} (h : TabT w O tb T) (hm : Blk w tb 62 [.map (some m)]) (hmO : O m) (hown : w.ownsMap Try.prog 3 ptrR m T.length (mapD (lkT T))) (who : Int) {n : Nat}
    (hown' : w'.ownsMap Try.prog 3 ptrR m n ((mapD (lkT T)).del (.int .i64 who))) (hb : But m w w') : TabT w' O tb (delR who T) := by
  rw [del_mapD, ← lk_del] at hown'
  have hown2 := owns_tight hown'
  rw [show (lkT (delR who T)).length = (delR who T).length by simp [lkT]] at hown2
  refine ⟨h.up.filter _, h.apart.filter _, h.base, ⟨m, blk_butM hm hown hb, hmO, hown2⟩, fun x hx => ?_⟩
  obtain ⟨a, av, b, c⟩ := h.rows x (List.mem_filter.1 hx).1
  exact ⟨a, av, blk_butM b hown hb, rowO_butG c (fun _ _ => owns_not hown) hb⟩

def endR (who : Int) (T : Tr) : Tr := if (atT who T).isSome then delR who T else T
def EndPost (O : Nat → Prop) (tb : Nat) (who : Int) (T : Tr) (o : Option (Int × Nat × Tn)) (w : World) (e : Ending) (w' : World) : Prop :=
  ∃ av, e = .returned (.tuple #[tnV (ofO o) av, .int .i64 (foundE o)]) ∧ RowO w' (fun k => w.heap.size ≤ k) av (ofO o).act ∧ TabT w' O tb (if o.isSome then delR who T else T) ∧ Out O w w'

set_option maxRecDepth 100000 in
set_option maxHeartbeats 2000000 in
theorem end_any (O : Nat → Prop) (tb : Nat) (T : Tr) (who : Int) (hw : (Lit.int .i64 who).wf = true) (w_ : World) (h : TabT w_ O tb T) (hl : LenT T) :
    Calls Try.prog 21 #[.pointer (some ⟨tb, 0, none⟩), .int .i64 who] w_ (EndPost O tb who T (atT who T) w_) := by
  obtain ⟨o, ho⟩ : ∃ o, o = atT who T := ⟨_, rfl⟩
  have hmem : ∀ x, o = some x → x ∈ T ∧ x.1 = who := fun x e => atT_mem (ho.symm.trans e)
  obtain ⟨w1, hw1⟩ : ∃ w1, w1 = w_.alloc (.cells #[.int .i64 0, .slice none 0 0, .int .i64 0, .int .i64 0, .int .i64 0, .int .i64 0] 32) := ⟨_, rfl⟩
  have HG1 := keep (show Grow w_ w1 from by subst hw1; exact (Grow.refl w_).alloc _)
  have HX := keep (show Blk w1 w_.heap.size 32 [.int .i64 0, .slice none 0 0, .int .i64 0, .int .i64 0, .int .i64 0, .int .i64 0] from by subst hw1; exact Blk.new w_ _ [_, _, _, _, _, _])
  have hf := find_any O tb T who hw w1 (h.fits HG1.out)
  rw [← ho] at hf ⊢
  have HT := keep (h.old.fits HG1.out)
  have H0 := keep h
  have HL := keep hl
  clear h ho hl
  cases o with
  | none =>
    unfold foundV foundE at hf
    dsimp only at hf
    clear hmem
    go_enter Try.func21, Try.ntmps21
    go_upto_region 1 with fail
    rw [← hw1]
    clear hw1
    obtain ⟨x0, x1, x2, x3, x4, x5, f0, f1, f2, f3, f4, f5⟩ := six_of HX.out
    have Hset := keep (set6 HX.out (.int .i64 0) (.slice none 0 0) (.int .i64 0) (.int .i64 0) (.int .i64 0) (.int .i64 0))
    have Hbut := keep (but6 w1 w_.heap.size (.int .i64 0) (.slice none 0 0) (.int .i64 0) (.int .i64 0) (.int .i64 0) (.int .i64 0))
    have hz1 := HG1.out.size
    go_wp2_with (go_at_call 31; refine hf.mono ?_; rintro e w' ⟨rfl, rfl⟩)
    have hB := But.below HG1.out Hbut.out (Nat.le_refl _) (by omega)
    refine bodyPost_ret (v := .tuple #[tnV tnZ (.slice none 0 0), .int .i64 182]) ?_ rfl ⟨.slice none 0 0, rfl, RowO.nil _ _ _, H0.out.fits hB, Out.of_below hB⟩
    obtain ⟨s0, s1, s2, s3, s4, s5, _⟩ := six_of Hset.out
    simp [results, Try.results21, go_sem, s0, s1, s2, s3, s4, s5, tnV, tnZ]
  | some x =>
    obtain ⟨hx, hxw⟩ := hmem x rfl
    obtain ⟨who', b, t⟩ := x
    have hr := HT.out.rows _ hx
    have hll := HL.out _ hx
    dsimp only at hr hll hxw
    subst hxw
    obtain ⟨-, av, hb, hra⟩ := hr
    have hkey := Maps.keyOf_int_mk Try.underlying3 hw
    obtain ⟨m, hm, hmO, hown⟩ := HT.out.mp
    have HM := keep hm
    have HOWN := keep hown
    have hb1 := fun w2 => fresh_any b who' t av w2
    have HB := keep hb
    have HRA := keep hra
    have HLL := keep hll
    have HMO := keep hmO
    have hc0 := hm.cell 0 (by simp)
    simp only [List.getElem_cons_zero] at hc0
    unfold foundV foundE at hf
    dsimp only at hf
    clear hmem hb hra hll hx hmO hm
    unfold EndPost ofO
    dsimp only
    go_enter Try.func21, Try.ntmps21
    go_upto_region 1 with fail
    rw [← hw1]
    clear hw1
    go_upto_region 4 with (go_at_call 31; refine hf.mono ?_; rintro e w' ⟨rfl, rfl⟩)
    clear hf
    go_upto_region 5 with (refine wpList_delete_own _ rfl _ _ 60 3 rfl 63 (Maps.int_keyed Try.underlying3) Try.underlying60 ptrR m T.length (mapD (lkT T)) rfl HOWN.out _ _ rfl hkey ?_; intro w2 hown2 hturn2)
    have HBT := keep (but_turned hturn2)
    have HT2 := keep (TabT.del HT.out HM.out HMO.out HOWN.out who' hown2 HBT.out)
    have hfr := fresh_any b who' t av w2 (blk_butM HB.out HOWN.out HBT.out) (rowO_butG HRA.out (fun _ _ => owns_not HOWN.out) HBT.out).1 HLL.out
    have HX2 := keep (blk_butM HX.out HOWN.out HBT.out)
    have HO2 := keep ((Out.of_below (O := fun k => O k ∧ k < w_.heap.size) HG1.out).trans (Out.of_but HBT.out HMO.out))
    have hz1 := HG1.out.size
    have hz2 := HBT.out.size
    clear hown2 hturn2 hc0 hown
    go_wp2_with (go_at_call 32; refine hfr.mono ?_; rintro e w3 ⟨av2, rfl, hrow3, hb3⟩; obtain ⟨a2, c2, rfl⟩ := row_sl hrow3.1.weak; have hx3 := HX2.out.fits hb3; obtain ⟨x0, x1, x2, x3, x4, x5, f0, f1, f2, f3, f4, f5⟩ := six_of hx3; unfold tnV)
    have Hset := set6 hx3 (.int .i64 t.next) (.slice a2 t.act.length c2) (.int .i64 t.xid) (.int .i64 t.first) (.int .i64 t.last) (.int .i64 t.undoes)
    have Hbut := but6 w3 w_.heap.size (.int .i64 t.next) (.slice a2 t.act.length c2) (.int .i64 t.xid) (.int .i64 t.first) (.int .i64 t.last) (.int .i64 t.undoes)
    refine bodyPost_ret (v := .tuple #[tnV t (.slice a2 t.act.length c2), .int .i64 0]) ?_ rfl ⟨.slice a2 t.act.length c2, rfl, RowO.weaken (rowO_but hrow3 hx3 (by decide) Hbut) (fun k hk _ => by omega), ?_, ?_⟩
    · obtain ⟨s0, s1, s2, s3, s4, s5, _⟩ := six_of Hset
      simp [results, Try.results21, go_sem, s0, s1, s2, s3, s4, s5, tnV]
    · refine ((HT2.out.fits hb3).keeps fun k hk hl => Hbut.block k hl (by omega)).weaken fun k hk _ => hk.1
    · exact ((HO2.out.mono fun k hk => hk.1).trans (Out.of_below hb3)).butNew Hbut (Nat.le_refl _)

end Go.Proofs.Ytgijmlienolhpaa
