
/- The document's table: Running, Snaps, Oldest. -/
import Derived.Test.YtgijmlienolhpaaTd8
import Derived.Deep.CutRange
namespace Go.Proofs.Ytgijmlienolhpaa
open Go.RowKit Go.Maps

def DRnPost (S : St) (w : World) (e : Ending) (w' : World) : Prop := ∃ a c, e = .returned (.slice a (begunT S).length c) ∧ Ints w' (.slice a (begunT S).length c) (runT S) ∧ Below w.heap.size w w'

set_option maxRecDepth 100000 in
set_option maxHeartbeats 4000000 in
theorem doc_running (O : Nat → Prop) (tr : Nat) (D : Dr) (w_ : World) (h : DocT w_ O tr D) (K : Nat) (hF : Fit K (stD D)) (hn : D.length ≤ 2199023255552) :
    Calls Try.prog 38 #[.pointer (some ⟨tr, 0, none⟩)] w_ (DRnPost (stD D) w_) := by
  obtain ⟨iI, hiI, hzI0, hzI1, hzI2⟩ := info_parts infoIntT
  have hall := doc_begun O tr D w_ h K hF hn
  have hl : (begunT (stD D)).length ≤ 2199023255552 := Nat.le_trans (begunT_len _) (by simpa [stD] using hn)
  clear h hF hn
  have hd : runT (stD D) = (begunT (stD D)).map (·.1) := rfl
  unfold DRnPost
  unfold DBgPost at hall
  rw [hd]
  clear hd
  generalize begunT (stD D) = l at *
  go_enter Try.func38, Try.ntmps38
  go_wp2_with (go_at_call 41; refine hall.mono ?_; rintro e w1 ⟨va, vc, rfl, hrow, hb1⟩; have HR := keep hrow; have HB1 := keep hb1; clear hrow hb1)
  clear hall
  go_loopw [4, 5] (fun x i wr => RunRel l w1 x i wr) (fun _ i _ => l.length - (intOf i).toNat)
  case atStart => exact show RunRel l w1 _ _ _ from ⟨0, none, 0, Nat.zero_le _, rfl, rfl, keep (by simpa [iCells] using World.ownsRow_nil _ _ _ _), keep (Below.refl _ _)⟩
  case round =>
    obtain ⟨k, a, cap, hkl, rfl, rfl, HO, HG⟩ := hrel
    by_cases hlt : k < l.length
    · obtain ⟨c, off, cap2, e, hc1, hc2⟩ := bg_at (Row.fits HR.out HG.out) rfl hlt
      simp only [Value.slice.injEq] at e
      obtain ⟨rfl, _, rfl⟩ := e
      have hst : iCells ((l.take (k + 1)).map (·.1)) = iCells ((l.take k).map (·.1)) ++ [.int .i64 l[k].1] := by
        rw [List.take_succ_eq_append_getElem hlt, List.map_append]; unfold iCells; rw [List.map_append]; rfl
      have HSt := keep hst
      have hsz := HG.out.size
      generalize l[k] = x at *
      obtain ⟨x1, x2⟩ := x
      dsimp only at hc1 hc2
      clear hst
      go_wp2_with ((at_builtin; go_must (refine wpList_append_own_at _ rfl _ _ 26 rfl w1.heap.size 3 iI (.int .i64 0) 1 8 Try.underlying26 hiI hzI0 hzI1 hzI2 rfl (by decide) _ _ _ rfl (HO.out.alloc _) ⟨wr.heap.size, 0, none⟩ 1 1 [.int .i64 x1] rfl rfl (cell_one_newT _ _ _) (by intro u hu; simp at hu; subst hu; rfl) (by unfold maxLen; omega) (by omega) (by simp; omega) ?_); intro v' xa hown' hgrow _ _; obtain ⟨a', cap', rfl⟩ := own_form hown'))
      have HG9 := keep (Below.grown (Below.alloc HG.out (by omega) _) hgrow (by simp; omega) (fun g e => (HO.out.lt g e).1))
      have HO9 := keep hown'
      clear hown' hgrow
      go_roundw
      case rel => exact show RunRel l w1 _ _ _ from ⟨k + 1, a', cap', by omega, rfl, by first | go_num | simp, keep (by rw [HSt.out]; exact HO9.out), HG9⟩
      case measure => simp [intOf]; omega
    · have e : k = l.length := by omega
      subst e
      rw [List.take_length] at *
      go_wp2_with fail
      go_ret
      refine ⟨_, _, rfl, ?_, HB1.out.trans (HG.out.mono HB1.out.size)⟩
      have h9 := own_rowS HO.out
      unfold Ints
      rw [List.length_map]
      exact h9.weak

theorem old_stepD (S : St) (k : Nat) (hk : k < S.length) : oldT (S.take (k + 1)) = if S[k].2.first ≠ 0 ∧ (oldT (S.take k) = 0 ∨ S[k].2.first < oldT (S.take k)) then S[k].2.first else oldT (S.take k) := by
  unfold oldT
  rw [List.take_succ_eq_append_getElem hk, List.foldl_append]
  rfl
def DoRel9 (S : St) (w0 : World) (x i : Value) (wr : World) : Prop := ∃ k : Nat, k ≤ S.length ∧ x = .int .i64 (oldT (S.take k)) ∧ i = .int .i64 k ∧ Kept (Grow w0 wr)

set_option maxRecDepth 100000 in
set_option maxHeartbeats 4000000 in
theorem doc_oldest (O : Nat → Prop) (tr : Nat) (D : Dr) (w_ : World) (h : DocT w_ O tr D) (hn : D.length ≤ 2199023255552) :
    Calls Try.prog 40 #[.pointer (some ⟨tr, 0, none⟩)] w_ fun e w' => e = .returned (.int .i64 (oldT (stD D))) ∧ Below w_.heap.size w_ w' := by
  obtain ⟨v, hb0, ho, hg⟩ := h.tab
  obtain ⟨va, vc, rfl⟩ := own_form ho
  have HBw := keep hb0
  have HHg := keep ho
  have HRw := keep h.rows
  have hsl : (stD D).length = D.length := by simp [stD]
  clear h hb0 ho hg
  go_enter Try.func40, Try.ntmps40
  go_wp2_with fail
  go_loopw [3, 4] (fun x i wr => DoRel9 (stD D) w_ x i wr) (fun _ i _ => D.length - (intOf i).toNat)
  case atStart => exact show DoRel9 (stD D) w_ _ _ _ from ⟨0, Nat.zero_le _, rfl, rfl, keep (Below.refl _ _)⟩
  case round =>
    obtain ⟨k, hkl, rfl, rfl, HG⟩ := hrel
    rw [hsl] at hkl
    have c0 := (HBw.out.fits HG.out).cell 0 (by simp)
    simp only [List.getElem_cons_zero] at c0
    by_cases hlt : k < D.length
    · obtain ⟨g, gcap, e, -, ⟨d0, d1, d2, d3, d4, d5, d6⟩, -⟩ := dr_at (own_keeps HHg.out fun q _ hl => HG.out.block q hl) hlt
      simp only [Value.slice.injEq] at e
      obtain ⟨rfl, -, rfl⟩ := e
      have hstp := old_stepD (stD D) k (by omega)
      rw [show (stD D)[k]'(by omega) = D[k].1 by simp [stD]] at hstp
      have hrow := (HRw.out _ (List.getElem_mem hlt)).1.weak
      obtain ⟨ra, rc, hrv⟩ := row_sl hrow
      rw [hrv] at d2
      clear hrow hrv
      generalize D[k].1 = x at *
      obtain ⟨who, t⟩ := x
      dsimp only at d0 d1 d3 d4 d5 d6 hstp d2
      generalize oldT ((stD D).take k) = od at *
      have HStp := keep hstp
      have HSl := keep hsl
      clear hstp hsl
      go_upto_region 6 with fail
      obtain ⟨w2, hw2⟩ : ∃ w2, w2 = wr.alloc (.cells #[.int .i64 t.next, .slice ra t.act.length rc, .int .i64 t.xid, .int .i64 t.first, .int .i64 t.last, .int .i64 t.undoes] 32) := ⟨_, rfl⟩
      have hg2 : Grow wr w2 := by subst hw2; exact (Grow.refl wr).alloc _
      have hx2 : Blk w2 wr.heap.size 32 [.int .i64 t.next, .slice ra t.act.length rc, .int .i64 t.xid, .int .i64 t.first, .int .i64 t.last, .int .i64 t.undoes] := by subst hw2; exact Blk.new wr _ [_, _, _, _, _, _]
      rw [← hw2]
      have HB2 := keep (Grow.trans HG.out hg2)
      obtain ⟨-, -, -, x3, -⟩ := six_of hx2
      clear hw2 hg2 hx2 d0 d1 d2 d3 d4 d5 d6 c0
      by_cases h1 : t.first = 0
      · have e1 : (t.first != 0) = false := by simp [h1]
        have hst := HStp.out
        rw [if_neg (fun h => h.1 h1)] at hst
        have HSt := keep hst
        clear h1 hst
        go_wp2_with fail
        go_roundw
        case rel => exact show DoRel9 (stD D) w_ _ _ _ from ⟨k + 1, by have := HSl.out; omega, by rw [HSt.out], by first | go_num | simp, HB2⟩
        case measure => simp [intOf]; omega
      · have e1 : (t.first != 0) = true := by simp [h1]
        by_cases h2 : od = 0
        · have e2 : (od == 0) = true := by simp [h2]
          have hst := HStp.out
          rw [if_pos ⟨h1, .inl h2⟩] at hst
          have HSt := keep hst
          clear h1 h2 hst
          go_wp2_with fail
          go_roundw
          case rel => exact show DoRel9 (stD D) w_ _ _ _ from ⟨k + 1, by have := HSl.out; omega, by rw [HSt.out], by first | go_num | simp, HB2⟩
          case measure => simp [intOf]; omega
        · have e2 : (od == 0) = false := by simp [h2]
          by_cases h3 : t.first < od
          · have e3 : decide (t.first < od) = true := decide_eq_true h3
            have hst := HStp.out
            rw [if_pos ⟨h1, .inr h3⟩] at hst
            have HSt := keep hst
            clear h1 h2 hst
            go_wp2_with fail
            go_roundw
            case rel => exact show DoRel9 (stD D) w_ _ _ _ from ⟨k + 1, by have := HSl.out; omega, by rw [HSt.out], by first | go_num | simp, HB2⟩
            case measure => simp [intOf]; omega
          · have e3 : decide (t.first < od) = false := decide_eq_false h3
            have hst := HStp.out
            rw [if_neg (fun h => h.2.elim h2 h3)] at hst
            have HSt := keep hst
            clear h1 h2 hst
            go_wp2_with fail
            go_roundw
            case rel => exact show DoRel9 (stD D) w_ _ _ _ from ⟨k + 1, by have := HSl.out; omega, by rw [HSt.out], by first | go_num | simp, HB2⟩
            case measure => simp [intOf]; omega
    · have e : k = (stD D).length := by omega
      subst e
      rw [List.take_length] at *
      go_wp2_with fail
      go_ret
      exact ⟨rfl, HG.out⟩

def snV (p : (Int × Tn) × Value) : Int × Value := (p.1.2.next, p.2)
def DsRel (D : Dr) (w0 : World) (x i : Value) (wr : World) : Prop := ∃ (k : Nat) (a : Option Addr) (cap : Nat), k ≤ D.length ∧ x = .slice a k cap ∧ i = .int .i64 k ∧
  Kept (wr.ownsRow w0.heap.size 28 2 (.slice a k cap) k (((D.take k).map snV).flatMap snC)) ∧ Kept (Below w0.heap.size w0 wr)
def DsPost (S : St) (w : World) (e : Ending) (w' : World) : Prop := ∃ a c, e = .returned (.slice a S.length c) ∧ SnR w' (.slice a S.length c) (snapsT S) ∧ Below w.heap.size w w'

set_option maxRecDepth 100000 in
set_option maxHeartbeats 4000000 in
theorem doc_snaps (O : Nat → Prop) (tr : Nat) (D : Dr) (w_ : World) (h : DocT w_ O tr D) (hn : D.length ≤ 2199023255552) :
    Calls Try.prog 39 #[.pointer (some ⟨tr, 0, none⟩)] w_ (DsPost (stD D) w_) := by
  obtain ⟨iS, hiS, hzS0, hzS1, hzS2⟩ := info_parts infoSnap
  obtain ⟨v, hb0, ho, hg⟩ := h.tab
  obtain ⟨va, vc, rfl⟩ := own_form ho
  have HBw := keep hb0
  have HHg := keep ho
  have HRw := keep h.rows
  clear h hb0 ho hg
  go_enter Try.func39, Try.ntmps39
  go_wp2_with fail
  go_loopw [3, 4] (fun x i wr => DsRel D w_ x i wr) (fun _ i _ => D.length - (intOf i).toNat)
  case atStart => exact show DsRel D w_ _ _ _ from ⟨0, none, 0, Nat.zero_le _, rfl, rfl, keep (World.ownsRow_nil _ _ _ _), keep (Below.refl _ _)⟩
  case round =>
    obtain ⟨k, a, cap, hkl, rfl, rfl, HO, HG⟩ := hrel
    have c0 := (HBw.out.fits HG.out).cell 0 (by simp)
    simp only [List.getElem_cons_zero] at c0
    by_cases hlt : k < D.length
    · obtain ⟨g, gcap, e, -, ⟨d0, d1, d2, d3, d4, d5, d6⟩, -⟩ := dr_at (own_keeps HHg.out fun q _ hl => HG.out.block q hl) hlt
      simp only [Value.slice.injEq] at e
      obtain ⟨rfl, -, rfl⟩ := e
      have hrow := (HRw.out _ (List.getElem_mem hlt)).1.weak
      obtain ⟨ra, rc, hrv⟩ := row_sl hrow
      have hst : ((D.take (k + 1)).map snV).flatMap snC = ((D.take k).map snV).flatMap snC ++ [.int .i64 D[k].1.2.next, .slice ra D[k].1.2.act.length rc] := by
        rw [List.take_succ_eq_append_getElem hlt, List.map_append, List.flatMap_append]
        simp [snC, snV, hrv]
      rw [hrv] at d2
      have HSt := keep hst
      have hsz := HG.out.size
      clear hrow hrv hst d0 d3 d4 d5 d6
      generalize D[k].1.2 = t at *
      go_wp2_with ((at_builtin; go_must (refine wpList_append_src rfl _ _ 49 rfl w_.heap.size 28 iS (.agg #[.int .i64 0, .slice none 0 0]) 2 32 Try.underlying49 hiS hzS0 hzS1 hzS2 rfl (by decide) (Value.slice a k cap) k _ rfl (HO.out.alloc _) _ 1 [Value.int .i64 t.next, Value.slice ra t.act.length rc] rfl (src_new wr 28 2 _ [Value.int .i64 t.next, Value.slice ra t.act.length rc] rfl) (by intro u hu; simp at hu; rcases hu with rfl | rfl <;> rfl) (by unfold maxLen; omega) (by omega) (by simp; omega) ?_); intro v' xa hown' hgrow; obtain ⟨a', cap', rfl⟩ := own_form hown'))
      have HG9 := keep (Below.grown (Below.alloc HG.out (by omega) _) hgrow (by simp; omega) (fun g e => (HO.out.lt g e).1))
      have HO9 := keep hown'
      clear hown' hgrow c0
      go_roundw
      case rel => exact show DsRel D w_ _ _ _ from ⟨k + 1, a', cap', by omega, rfl, by first | go_num | simp, keep (by rw [HSt.out]; exact HO9.out), HG9⟩
      case measure => simp [intOf]; omega
    · have e : k = D.length := by omega
      subst e
      rw [List.take_length] at *
      have hS : SnR wr (.slice a (stD D).length cap) (snapsT (stD D)) := by
        have hl : (stD D).length = D.length := by simp [stD]
        refine ⟨D.map snV, ?_, by simp [snapsT, stD], fun i h1 h2 => ?_⟩
        · have := (own_rowS HO.out).weak
          rw [snapsT_len, hl]; exact this
        · have h3 : i < D.length := by simpa using h1
          refine ⟨by simp [snV, snapsT, stD], ?_⟩
          have hr := (HRw.out _ (List.getElem_mem h3)).1.weak
          have := Row.fits hr HG.out
          unfold Ints
          simpa [snV, snapsT, stD] using this
      have HS := keep hS
      clear hS
      rw [show D.length = (stD D).length by simp [stD]] at *
      go_wp2_with fail
      go_ret
      exact ⟨_, _, rfl, HS.out, HG.out⟩

end Go.Proofs.Ytgijmlienolhpaa
