
/- The document's table: New, Of, Take. -/
import Derived.Test.YtgijmlienolhpaaTd1
import Derived.Deep.CutRange
namespace Go.Proofs.Ytgijmlienolhpaa
open Go.RowKit Go.Maps

theorem own_set {w : World} {base e size n g cap : Nat} {xs : List Value} (h : w.ownsRow base e size (.slice (some ⟨g, 0, none⟩) n cap) n xs) (i : Nat) (u : Value) : (w.setCell ⟨g, i, none⟩ u).ownsRow base e size (.slice (some ⟨g, 0, none⟩) n cap) n (xs.set i u) := by
  refine ⟨by rw [List.length_set]; exact h.1, ?_⟩
  rcases h.2 with ⟨h0, _⟩ | ⟨g', cap', cur, hv, hb, hh, hn, hcm, hcs, ht⟩
  · cases h0
  · simp only [Value.slice.injEq, Option.some.injEq, Addr.mk.injEq] at hv
    obtain ⟨⟨rfl, -, -⟩, -, rfl⟩ := hv
    refine .inr ⟨g, cap, _, rfl, hb, heap_setCell_same w g i cur e u hh, hn, hcm, by simpa using hcs, ?_⟩
    rw [← ht]
    simp [List.take_set]
theorem flat_set {α : Type} (f : α → List Value) (s : Nat) (hs : ∀ x, (f x).length = s) (l : List α) (k : Nat) (hk : k < l.length) (j : Nat) (hj : j < s) (y : α) (u : Value) (hy : f y = (f l[k]).set j u) : (l.flatMap f).set (k * s + j) u = (l.set k y).flatMap f := by
  induction l generalizing k with
  | nil => simp at hk
  | cons x r ih =>
    cases k with
    | zero =>
      rw [List.flatMap_cons, Nat.zero_mul, Nat.zero_add, List.set_append_left _ _ (by rw [hs]; exact hj)]
      simp only [List.set_cons_zero, List.flatMap_cons]
      rw [hy]; rfl
    | succ k =>
      rw [List.flatMap_cons, List.set_append_right _ _ (by rw [hs, Nat.succ_mul]; omega), hs, show (k + 1) * s + j - s = k * s + j by rw [Nat.succ_mul]; omega, ih k (by simpa using hk) hy]
      simp
theorem dr_set {w : World} {n g cap : Nat} {D : Dr} (h : w.ownsRow 0 78 7 (.slice (some ⟨g, 0, none⟩) n cap) n (drS D)) (k : Nat) (hk : k < D.length) (j : Nat) (hj : j < 7) (y : (Int × Tn) × Value) (u : Value) (hy : drC y = (drC D[k]).set j u) : (w.setCell ⟨g, k * 7 + j, none⟩ u).ownsRow 0 78 7 (.slice (some ⟨g, 0, none⟩) n cap) n (drS (D.set k y)) := by
  have := own_set h (k * 7 + j) u
  rwa [show (drS D).set (k * 7 + j) u = drS (D.set k y) from flat_set drC 7 (fun _ => rfl) D k hk j hj y u hy] at this
theorem DocT.set {w w' : World} {O : Nat → Prop} {tr g cap : Nat} {D : Dr} (h : DocT w O tr D) {k : Nat} (hk : k < D.length) {y : (Int × Tn) × Value} (hv : Blk w tr 73 [.slice (some ⟨g, 0, none⟩) D.length cap]) (hg : O g) (ho : w.ownsRow 0 78 7 (.slice (some ⟨g, 0, none⟩) D.length cap) D.length (drS D))
    (hy : y.2 = D[k].2) (hya : y.1.2.act = D[k].1.2.act) (ho' : w'.ownsRow 0 78 7 (.slice (some ⟨g, 0, none⟩) D.length cap) D.length (drS (D.set k y))) (hb : But g w w') : DocT w' O tr (D.set k y) := by
  have hgc : ∃ cs, w.heap[g]? = some (.cells cs 78 (0, 0)) := by
    rcases ho.2 with ⟨h0, _⟩ | ⟨g', cap', cur, hv, _, hh, _⟩
    · cases h0
    · simp only [Value.slice.injEq, Option.some.injEq, Addr.mk.injEq] at hv
      obtain ⟨⟨rfl, -, -⟩, -, -⟩ := hv
      exact ⟨_, hh⟩
  obtain ⟨cs, hgc⟩ := hgc
  refine ⟨h.base, ⟨_, ?_, by rw [List.length_set]; exact ho', fun q e => by cases e; exact hg⟩, ?_⟩
  · refine Blk.but hv hb ?_
    rintro rfl
    rw [hv] at hgc
    cases hgc
  · intro p hp
    have hno : ∀ cs' f, w.heap[g]? = some (.cells cs' 3 f) → False := fun cs' f e => by rw [hgc] at e; cases e
    have hr : RowO w O p.2 p.1.2.act := by
      rcases List.mem_or_eq_of_mem_set hp with hp | rfl
      · exact h.rows p hp
      · rw [hy, hya]; exact h.rows _ (List.getElem_mem hk)
    exact rowO_butG hr hno hb
theorem stD_set (D : Dr) (k : Nat) (y : (Int × Tn) × Value) : stD (D.set k y) = (stD D).set k y.1 := by simp [stD]

theorem doc_new (w : World) : Calls Try.prog 14 #[] w fun e w' => ∃ tr, e = .returned (.pointer (some ⟨tr, 0, none⟩)) ∧ DocT w' (fun k => w.heap.size ≤ k) tr [] ∧ Below w.heap.size w w' := by
  go_enter Try.func14, Try.ntmps14
  go_wp2_with fail
  go_ret
  exact ⟨w.heap.size, rfl, ⟨Nat.le_refl _, ⟨.slice none 0 0, Blk.new w _ [_], ⟨by simp [drS], .inl ⟨rfl, rfl⟩⟩, fun g e => by cases e⟩, by simp⟩, (Grow.refl w).alloc _⟩

/-- What the document answers of a session. -/
def DofPost (o : Option Tn) (w : World) (e : Ending) (w' : World) : Prop := ∃ av, e = .returned (.tuple #[tnV (o.getD tnZ) av, .bool o.isSome]) ∧ Ints w' av (o.getD tnZ).act ∧ Below w.heap.size w w'
theorem find_dr {who : Int} {D : Dr} (hup : (stD D).Pairwise fun a b => a.1 < b.1) {t : Tn} (h : findT who (stD D) = some t) : ∃ hk : (atS who (stD D)).1 < D.length, D[(atS who (stD D)).1].1 = (who, t) := by
  obtain ⟨hk, he⟩ := (atS_spec hup).2.1 t h
  have hk' : (atS who (stD D)).1 < D.length := by simpa [stD] using hk
  exact ⟨hk', by simpa [stD] using he⟩

set_option maxRecDepth 100000 in
set_option maxHeartbeats 4000000 in
theorem doc_of (O : Nat → Prop) (tr : Nat) (D : Dr) (who : Int) (w_ : World) (h : DocT w_ O tr D) (hup : (stD D).Pairwise fun a b => a.1 < b.1) (hn : D.length ≤ 4398046511104) :
    Calls Try.prog 24 #[.pointer (some ⟨tr, 0, none⟩), .int .i64 who] w_ (DofPost (findT who (stD D)) w_) := by
  obtain ⟨w1, hw1⟩ : ∃ w1, w1 = w_.alloc (.cells #[.int .i64 0, .slice none 0 0, .int .i64 0, .int .i64 0, .int .i64 0, .int .i64 0] 32) := ⟨_, rfl⟩
  have HG1 := keep (show Grow w_ w1 from by subst hw1; exact (Grow.refl w_).alloc _)
  have HX := keep (show Blk w1 w_.heap.size 32 [.int .i64 0, .slice none 0 0, .int .i64 0, .int .i64 0, .int .i64 0, .int .i64 0] from by subst hw1; exact Blk.new w_ _ [_, _, _, _, _, _])
  have H1 := keep (h.fits HG1.out)
  obtain ⟨v, hb, ho, hg⟩ := H1.out.tab
  have hat := at_any D tr v who w1 hb ho hn
  unfold AtPost at hat
  have hsp := (atS_spec (who := who) hup).1
  have hfd := fun t => find_dr (who := who) hup (t := t)
  have HFd := keep hfd
  rw [hsp] at hat
  have HAt := keep hat
  have HB := keep hb
  have HO := keep ho
  have HRw := keep h.rows
  clear h hn hup hat hsp hfd hb ho hg
  cases hf : findT who (stD D) with
  | none =>
    rw [hf] at HAt
    generalize (atS who (stD D)).1 = i at *
    clear hf HFd
    go_enter Try.func24, Try.ntmps24
    go_upto_region 1 with fail
    rw [← hw1]
    clear hw1
    go_upto_region 2 with (go_at_call 35; refine HAt.out.mono ?_; rintro e w2 ⟨rfl, hb2⟩; have HG2 := keep hb2; clear hb2)
    obtain ⟨x0, x1, x2, x3, x4, x5, f0, f1, f2, f3, f4, f5⟩ := six_of (HX.out.fits HG2.out)
    have Hset := keep (set6 (HX.out.fits HG2.out) (.int .i64 0) (.slice none 0 0) (.int .i64 0) (.int .i64 0) (.int .i64 0) (.int .i64 0))
    have Hbut := keep (but6 w2 w_.heap.size (.int .i64 0) (.slice none 0 0) (.int .i64 0) (.int .i64 0) (.int .i64 0) (.int .i64 0))
    have hz2 : w_.heap.size ≤ w2.heap.size := Nat.le_trans HG1.out.size HG2.out.size
    go_wp2_with fail
    refine bodyPost_ret (v := .tuple #[tnV tnZ (.slice none 0 0), .bool false]) ?_ rfl ⟨.slice none 0 0, rfl, Row.nil _ _ _ _, But.below (Grow.trans HG1.out HG2.out) Hbut.out (Nat.le_refl _) hz2⟩
    obtain ⟨s0, s1, s2, s3, s4, s5, _⟩ := six_of Hset.out
    simp [results, Try.results24, go_sem, s0, s1, s2, s3, s4, s5, tnV, tnZ]
  | some t =>
    rw [hf] at HAt
    obtain ⟨hk, he⟩ := HFd.out t hf
    generalize (atS who (stD D)).1 = i at *
    clear hf HFd
    obtain ⟨g, cap, rfl, -, -, -⟩ := dr_at HO.out hk
    have HCs := keep (fun (u : World) (hu : Grow w1 u) => (dr_at (own_keeps HO.out fun q _ hl => hu.block q hl) hk))
    have hrow := HRw.out _ (List.getElem_mem hk)
    rw [he] at hrow
    have hrow2 := hrow.1.weak
    obtain ⟨ra, rc, hrv⟩ := row_sl hrow2
    rw [hrv] at hrow2
    have HR := keep hrow2
    have HEq := keep he
    have HEv := keep hrv
    clear hrow hrow2 he hrv HRw
    go_enter Try.func24, Try.ntmps24
    go_upto_region 1 with fail
    rw [← hw1]
    clear hw1
    go_upto_region 2 with (go_at_call 35; refine HAt.out.mono ?_; rintro e w2 ⟨rfl, hb2⟩; have HG2 := keep hb2; clear hb2)
    obtain ⟨x0, x1, x2, x3, x4, x5, f0, f1, f2, f3, f4, f5⟩ := six_of (HX.out.fits HG2.out)
    have Hset := keep (set6 (HX.out.fits HG2.out) (.int .i64 t.next) (.slice ra t.act.length rc) (.int .i64 t.xid) (.int .i64 t.first) (.int .i64 t.last) (.int .i64 t.undoes))
    have Hbut := keep (but6 w2 w_.heap.size (.int .i64 t.next) (.slice ra t.act.length rc) (.int .i64 t.xid) (.int .i64 t.first) (.int .i64 t.last) (.int .i64 t.undoes))
    have hz2 : w_.heap.size ≤ w2.heap.size := Nat.le_trans HG1.out.size HG2.out.size
    obtain ⟨g', cap', e, hcap, ⟨d0, d1, d2, d3, d4, d5, d6⟩, -⟩ := HCs.out w2 HG2.out
    rw [HEq.out] at d0 d1 d3 d4 d5 d6
    rw [HEv.out] at d2
    simp only [Value.slice.injEq, Option.some.injEq, Addr.mk.injEq] at e
    obtain ⟨⟨rfl, -, -⟩, -, rfl⟩ := e
    have c0 := (HB.out.fits HG2.out).cell 0 (by simp)
    simp only [List.getElem_cons_zero] at c0
    dsimp only at d0 d1 d3 d4 d5 d6
    go_wp2_with fail
    refine bodyPost_ret (v := .tuple #[tnV t (.slice ra t.act.length rc), .bool true]) ?_ rfl ⟨.slice ra t.act.length rc, rfl, Row.fits HR.out (But.below (Grow.trans HG1.out HG2.out) Hbut.out (Nat.le_refl _) hz2), But.below (Grow.trans HG1.out HG2.out) Hbut.out (Nat.le_refl _) hz2⟩
    obtain ⟨s0, s1, s2, s3, s4, s5, _⟩ := six_of Hset.out
    simp [results, Try.results24, go_sem, s0, s1, s2, s3, s4, s5, tnV]

end Go.Proofs.Ytgijmlienolhpaa
