
/- slices.AppendSeq and Collect over maps.Values of a table's map. -/
import Derived.Test.YtgijmlienolhpaaTm1
import Derived.RangeFuncBox
import Derived.RangeFuncFrom
import Derived.RangeFuncBound
import Derived.RangeFuncCalls
import Derived.Shelf.RegionOpen
import Derived.Maps.AppendAt
import Derived.WalkKit
namespace Go.Proofs.Ytgijmlienolhpaa
open Go.RowKit Go.Shelf Go.Maps
attribute [local go_sem] Oper.semAt_some

theorem infoPtr : (Try.prog.info? 63).map (fun i => (i.zero, i.size, i.bytes)) = some (some (.pointer none), 1, 8) := by kernel_rfl

set_option maxRecDepth 100000 in
set_option maxHeartbeats 2000000 in
theorem appseq_in (F : Fence) (n : Nat) (h65 : F.fn 65) (h53 : F.fn 53) (hro : F.round = none) (hn : 2 ≤ n) (Bm b nn : Nat) (L : List (Int × Nat)) (hup : L.Pairwise fun a b => a.1 < b.1) (hL : L.length ≤ 4398046511104) (w : World)
    (hm : w.cell? ⟨Bm, 0, none⟩ = some (.map (some b))) (hown : w.ownsMap Try.prog 3 ptrR b nn (mapD L)) :
    CallsIn F n Try.prog 65 #[.slice none 0 0, .func (.func 53) #[] #[.pointer (some ⟨Bm, 0, none⟩)]] w fun e w' =>
      ∃ (v : Value) (xs : List Nat), e = .returned v ∧ (∃ ps : List (Int × Nat), ps.Perm L ∧ xs = ps.map (·.2)) ∧ w'.ownsRow w.heap.size 63 1 v xs.length (xs.map encP) ∧ Below w.heap.size w w' := by
  have h1 : 1 ≤ n := by omega
  have e53 : ∀ args w, (callFunc 53 args).run Try.prog w = .ok (.enter 53 args) w := enters_of Try.func53 (by kernel_rfl) rfl
  have hseq := vals_stops F (n - 1) h53 hro (by omega) Bm b nn L hup w hm hown
  obtain ⟨i0, hi, hz0, hz1, hz2⟩ := info_parts infoPtr
  refine callsIn_of_wp_marks Try.func65 rfl h65 ?_ hro
  simp only [Try.ntmps65, List.size_toArray, List.length_cons, List.length_nil, Nat.reduceAdd, Nat.reduceSub, Array.replicate_succ, Array.replicate_zero, List.push_toArray, List.append_toArray, List.nil_append, List.cons_append]
  gi_wp2
  refine wpIn_rangeFunc_ownF hro h1 (gf := 53) (lb := #[.pointer (some ⟨Bm, 0, none⟩)]) rfl h53 e53 (seqStops_iff.1 hseq) walksK_t walksK_b ((Below.refl _ w).alloc (Nat.le_refl _) _) (fun _ => rfl)
    (fun pre W => (∃ v, Boxed W w.heap.size 67 v ∧ W.ownsRow w.heap.size 63 1 v pre.length (pre.map encP) ∧ True) ∧ Below w.heap.size w W) (fun _ _ _ => False)
    (OwnFrom.and (Own.from (holdsRow_own w.heap.size w.heap.size 67 63 1 (fun pre : List Nat => pre.length) (fun pre => pre.map encP) (fun _ _ => True)) _) (ownFrom_below (Nat.le_refl _) (by simp)))
    (fun _ _ _ _ _ h _ _ => h) ⟨⟨_, Boxed.new w _ _, World.ownsRow_nil _ _ _ _, trivial⟩, (Below.refl _ w).alloc (Nat.le_refl _) _⟩
    (fun x => ⟨#[.slice none 0 0, .func (.func 53) #[] #[.pointer (some ⟨Bm, 0, none⟩)], .pointer (some ⟨w.heap.size, 0, none⟩), undef, .slice none 0 0, encP x, .func (.func 53) #[] #[.pointer (some ⟨Bm, 0, none⟩)], encP x, undef, undef, undef, undef, undef], []⟩)
    ?assign ?body ?done ?stop
  case assign =>
    intro l x W K hK
    gi_wp2
    exact hK
  case body =>
    rintro l pre x W ⟨⟨v, hv, hrow, -⟩, hB⟩ hlen
    have hc := hv.cell
    have hf := hv.frozen
    have hle := hB.size
    unfold encP
    gi_wp2_with ((gi_at_builtin; refine wpListIn_append_own _ rfl _ _ 67 rfl w.heap.size 63 i0 (.pointer none) 1 8 Try.underlying67 hi hz0 hz1 hz2 rfl (by decide) _ _ _ rfl (hrow.alloc _) ⟨W.heap.size, 0, none⟩ 1 1 [encP x] rfl rfl (cell_one_new _ _ _) (by simp [encP, Value.oneCell']) (by unfold maxLen; omega) (by omega) (by simp; omega) ?_; intro v' w1 hown' hgrow _; obtain ⟨g', cap', rfl⟩ := ownsRow_succ hown'; obtain ⟨hv1, hv2, hr2, hk2, hb2⟩ := hv.appended (by decide) hrow hB.size (Nat.le_refl _) hown' hgrow; have hc1 := hv1.cell; have hf1 := hv1.frozen))
    exact ⟨hk2, hk2.walks, ⟨_, hv2, by rw [List.length_append, List.map_append]; exact hr2, trivial⟩, hB.trans hb2⟩
  case done =>
    rintro D ys W hD hS ⟨⟨v, hv, hrow, -⟩, hB⟩ hK
    have hc := hv.cell
    gi_wp2
    refine ⟨by simp, .inl ⟨_, _, rfl, run_takeDeferred hK, ?_⟩⟩
    exact ⟨_, results_tmp rfl _ _ _, v, ys, rfl, hS, ownsRow_putObj hrow _ hK rfl, hB.trans (belowK_b (w := w.alloc (.cells #[.slice none 0 0] 67)) (by simp) W D _ _ (by simpa using hD) hK rfl rfl)⟩
  case stop =>
    rintro D c pre W _ _ h _
    exact h.elim

set_option maxRecDepth 100000 in
set_option maxHeartbeats 1000000 in
theorem collect_in (F : Fence) (n : Nat) (h51 : F.fn 51) (h65 : F.fn 65) (h53 : F.fn 53) (hro : F.round = none) (hn : 3 ≤ n) (Bm b nn : Nat) (L : List (Int × Nat)) (hup : L.Pairwise fun a b => a.1 < b.1) (hL : L.length ≤ 4398046511104) (w : World)
    (hm : w.cell? ⟨Bm, 0, none⟩ = some (.map (some b))) (hown : w.ownsMap Try.prog 3 ptrR b nn (mapD L)) :
    CallsIn F n Try.prog 51 #[.func (.func 53) #[] #[.pointer (some ⟨Bm, 0, none⟩)]] w fun e w' =>
      ∃ (v : Value) (xs : List Nat), e = .returned v ∧ (∃ ps : List (Int × Nat), ps.Perm L ∧ xs = ps.map (·.2)) ∧ w'.ownsRow w.heap.size 63 1 v xs.length (xs.map encP) ∧ Below w.heap.size w w' := by
  have h1 : 1 ≤ n := by omega
  have e65 : ∀ args w, (callFunc 65 args).run Try.prog w = .ok (.enter 65 args) w := enters_of Try.func65 (by kernel_rfl) rfl
  refine callsIn_of_wp Try.func51 rfl h51 ?_ hro
  simp only [Try.ntmps51, List.size_toArray, List.length_cons, List.length_nil, Nat.reduceAdd, Nat.reduceSub, Array.replicate_succ, Array.replicate_zero, List.push_toArray, List.append_toArray, List.nil_append, List.cons_append]
  gi_wp2_with (gi_at_call 65; refine (appseq_in F (n - 1) h65 h53 hro (by omega) Bm b nn L hup hL _ hm hown).mono ?_; rintro e w' ⟨v, xs, rfl, hS, hrow, hb⟩)
  go_ret
  exact ⟨v, xs, rfl, hS, hrow, hb⟩
/-- In plain calls. -/
theorem collect_any (Bm b nn : Nat) (L : List (Int × Nat)) (hup : L.Pairwise fun a b => a.1 < b.1) (hL : L.length ≤ 4398046511104) (w : World)
    (hm : w.cell? ⟨Bm, 0, none⟩ = some (.map (some b))) (hown : w.ownsMap Try.prog 3 ptrR b nn (mapD L)) :
    Calls Try.prog 51 #[.func (.func 53) #[] #[.pointer (some ⟨Bm, 0, none⟩)]] w fun e w' =>
      ∃ (v : Value) (xs : List Nat), e = .returned v ∧ (∃ ps : List (Int × Nat), ps.Perm L ∧ xs = ps.map (·.2)) ∧ w'.ownsRow w.heap.size 63 1 v xs.length (xs.map encP) ∧ Below w.heap.size w w' :=
  (callsIn_wide (n := 3)).1 (collect_in _ 3 trivial trivial trivial rfl (Nat.le_refl _) Bm b nn L hup hL w hm hown)

end Go.Proofs.Ytgijmlienolhpaa
