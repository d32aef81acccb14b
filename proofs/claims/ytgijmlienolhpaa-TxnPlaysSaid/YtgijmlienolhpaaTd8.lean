
/- The document's table: Begun. -/
import Derived.Test.YtgijmlienolhpaaTd6
import Derived.Test.YtgijmlienolhpaaTd7
import Derived.Deep.CutRange
namespace Go.Proofs.Ytgijmlienolhpaa
open Go.RowKit Go.Maps

theorem owns_drewN {w : World} {n b e s m : Nat} {v : Value} {xs : List Value} (h : w.ownsRow b e s v m xs) : (w.drewN n).ownsRow b e s v m xs := h
theorem one_bg (l : List (Int × Int)) : ∀ u ∈ bgCells l, u.oneCell' = true := by
  intro u hu
  obtain ⟨p, _, hu⟩ := List.mem_flatMap.1 hu
  simp [bgC] at hu
  rcases hu with rfl | rfl <;> rfl
theorem src_z2 (w : World) (ad : Addr) : SrcOk w (.slice (some ad) 0 0) 0 [] 2 := ⟨rfl, .inr ⟨_, _, rfl, fun j u hu => by simp at hu⟩⟩
theorem bg_lo {w : World} {b g cap n : Nat} {B : List (Int × Int)} (h : w.ownsRow b 59 2 (.slice (some ⟨g, 0, none⟩) n cap) B.length (bgCells B)) (i : Nat) (hi : i ≤ B.length) : SrcOk w (.slice (some ⟨g, 0, none⟩) i cap) i (bgCells (B.take i)) 2 := by
  refine ⟨by rw [bgCells_length, List.length_take]; omega, .inr ⟨_, _, rfl, fun j u hu => ?_⟩⟩
  rcases (own_rowS h).weak with ⟨h0, h0', _⟩ | ⟨c, off, cap', e, hc⟩
  · have : B.take i = [] := by rw [List.eq_nil_of_length_eq_zero h0]; simp
    rw [this] at hu; simp [bgCells] at hu
  · simp only [Value.slice.injEq, Option.some.injEq, Addr.mk.injEq] at e
    obtain ⟨⟨rfl, rfl, -⟩, -, -⟩ := e
    have hlt : j < (bgCells (B.take i)).length := (List.getElem?_eq_some_iff.1 hu).1
    have e2 : bgCells B = bgCells (B.take i) ++ bgCells (B.drop i) := by rw [← bgCells_append, List.take_append_drop]
    have h1 := hc j (by rw [e2, List.length_append]; omega)
    have h2 : (bgCells B)[j]? = some u := by rw [e2, List.getElem?_append_left hlt]; exact hu
    rw [List.getElem?_eq_getElem (by rw [e2, List.length_append]; omega)] at h2
    rw [Option.some.inj h2] at h1
    show w.cell? (Addr.add ⟨g, 0, none⟩ j) = _
    rw [show (Addr.add ⟨g, 0, none⟩ j) = ⟨g, 0 + j, none⟩ by simp [Addr.add]; exact fun h => h.symm]
    exact h1
theorem bg_hi {w : World} {b g cap n m c : Nat} {B : List (Int × Int)} (h : w.ownsRow b 59 2 (.slice (some ⟨g, 0, none⟩) n cap) B.length (bgCells B)) (i : Nat) (hi : i ≤ B.length) (hm : m = B.length - i) : SrcOk w (.slice (some ⟨g, i * 2, none⟩) m c) m (bgCells (B.drop i)) 2 := by
  subst hm
  refine ⟨by rw [bgCells_length, List.length_drop], .inr ⟨_, _, rfl, fun j u hu => ?_⟩⟩
  have hlt : j < (bgCells (B.drop i)).length := (List.getElem?_eq_some_iff.1 hu).1
  rcases (own_rowS h).weak with ⟨h0, h0', _⟩ | ⟨c, off, cap', e, hc⟩
  · rw [bgCells_length, List.length_drop] at hlt; omega
  · simp only [Value.slice.injEq, Option.some.injEq, Addr.mk.injEq] at e
    obtain ⟨⟨rfl, rfl, -⟩, -, -⟩ := e
    have e2 : bgCells B = bgCells (B.take i) ++ bgCells (B.drop i) := by rw [← bgCells_append, List.take_append_drop]
    have hl : (bgCells (B.take i)).length = i * 2 := by rw [bgCells_length, List.length_take]; omega
    have h1 := hc (i * 2 + j) (by rw [e2, List.length_append]; omega)
    have h2 : (bgCells B)[i * 2 + j]? = some u := by rw [e2, List.getElem?_append_right (by omega), hl, Nat.add_sub_cancel_left]; exact hu
    rw [List.getElem?_eq_getElem (by rw [e2, List.length_append]; omega)] at h2
    rw [Option.some.inj h2, Nat.zero_add] at h1
    show w.cell? (Addr.add ⟨g, i * 2, none⟩ j) = _
    rw [show (Addr.add ⟨g, i * 2, none⟩ j) = ⟨g, i * 2 + j, none⟩ by simp [Addr.add]]
    exact h1
def DbRel (D : Dr) (w0 : World) (x i : Value) (wr : World) : Prop := ∃ (k : Nat) (a : Option Addr) (cap : Nat), k ≤ D.length ∧ x = .slice a (bD ((stD D).take k)).length cap ∧ i = .int .i64 k ∧
  Kept (wr.ownsRow w0.heap.size 59 2 (.slice a (bD ((stD D).take k)).length cap) (bD ((stD D).take k)).length (bgCells (bD ((stD D).take k)))) ∧ Kept (Below w0.heap.size w0 wr)
def PosRel (B : List (Int × Int)) (xid : Int) (w0 : World) (i : Value) (wr : World) : Prop := ∃ j : Nat, j ≤ B.length ∧ i = .int .i64 j ∧ Kept (∀ m (h : m < B.length), m < j → B[m].1 < xid) ∧ Kept (Grow w0 wr)
def DBgPost (S : St) (w : World) (e : Ending) (w' : World) : Prop := ∃ a c, e = .returned (.slice a (begunT S).length c) ∧ Row w' 59 (.slice a (begunT S).length c) (begunT S).length (bgCells (begunT S)) ∧ Below w.heap.size w w'

set_option maxRecDepth 100000 in
set_option maxHeartbeats 4000000 in
theorem doc_begun (O : Nat → Prop) (tr : Nat) (D : Dr) (w0 : World) (h : DocT w0 O tr D) (K : Nat) (hF : Fit K (stD D)) (hn : D.length ≤ 2199023255552) :
    Calls Try.prog 41 #[.pointer (some ⟨tr, 0, none⟩)] w0 (DBgPost (stD D) w0) := by
  obtain ⟨iB, hiB, hzB0, hzB1, hzB2⟩ := info_parts infoBeg
  obtain ⟨v, hb0, ho, hg⟩ := h.tab
  obtain ⟨va, vc, rfl⟩ := own_form ho
  have hbd := bD_is hF
  have HBd := keep hbd
  have HBw := keep hb0
  have HHg := keep ho
  have HRw := keep h.rows
  have HN := keep hn
  clear h hF hb0 ho hg hbd
  go_enter Try.func41, Try.ntmps41
  go_wp2_with fail
  go_loopw [3, 4] (fun x i wr => DbRel D w0 x i wr) (fun _ i _ => D.length - (intOf i).toNat)
  case atStart => exact show DbRel D w0 _ _ _ from ⟨0, none, 0, Nat.zero_le _, rfl, rfl, keep (World.ownsRow_nil _ _ _ _), keep (Below.refl _ _)⟩
  case round =>
    obtain ⟨k, a, cap, hkl, rfl, rfl, HO, HG⟩ := hrel
    have c0 := (HBw.out.fits HG.out).cell 0 (by simp)
    simp only [List.getElem_cons_zero] at c0
    by_cases hlt : k < D.length
    · obtain ⟨g, gcap, e, -, ⟨d0, d1, d2, d3, d4, d5, d6⟩, -⟩ := dr_at (own_keeps HHg.out fun q _ hl => HG.out.block q hl) hlt
      simp only [Value.slice.injEq] at e
      obtain ⟨rfl, -, rfl⟩ := e
      have hstp := bD_step (stD D) k (by simpa [stD] using hlt)
      rw [show (stD D)[k]'(by simpa [stD] using hlt) = D[k].1 by simp [stD]] at hstp
      have hrow := (HRw.out _ (List.getElem_mem hlt)).1.weak
      obtain ⟨ra, rc, hrv⟩ := row_sl hrow
      rw [hrv] at d2
      have hbl := bD_len ((stD D).take k)
      rw [List.length_take] at hbl
      have hnn := HN.out
      clear hrow hrv
      generalize D[k].1 = x at *
      obtain ⟨who, t⟩ := x
      dsimp only at d0 d1 d3 d4 d5 d6 hstp d2
      unfold stepB at hstp
      dsimp only at hstp
      generalize bD ((stD D).take k) = B at *
      have hBl : B.length ≤ 2199023255552 := by omega
      have HStp := keep hstp
      clear hstp hbl
      go_upto_region 6 with fail
      obtain ⟨w2, hw2⟩ : ∃ w2, w2 = wr.alloc (.cells #[.int .i64 t.next, .slice ra t.act.length rc, .int .i64 t.xid, .int .i64 t.first, .int .i64 t.last, .int .i64 t.undoes] 32) := ⟨_, rfl⟩
      have hg2 : Grow wr w2 := by subst hw2; exact (Grow.refl wr).alloc _
      have hx2 : Blk w2 wr.heap.size 32 [.int .i64 t.next, .slice ra t.act.length rc, .int .i64 t.xid, .int .i64 t.first, .int .i64 t.last, .int .i64 t.undoes] := by subst hw2; exact Blk.new wr _ [_, _, _, _, _, _]
      rw [← hw2]
      have HX := keep (fun (u : World) (hu : Grow w2 u) => hx2.fits hu)
      have HG2 := keep hg2
      have HB2 := keep (Below.trans HG.out (hg2.mono HG.out.size))
      have HO2 := keep (owns_fitsT HO.out hg2)
      obtain ⟨-, -, x2, -⟩ := six_of hx2
      clear hw2 hg2 hx2 d0 d1 d2 d3 d4 d5 d6 c0
      by_cases hz : t.xid = 0
      · have hz2 : (t.xid == 0) = true := by simp [hz]
        have hst := HStp.out
        rw [if_pos hz] at hst
        have HSt := keep hst
        clear hz hst
        go_wp2_with fail
        go_roundw
        case rel => exact show DbRel D w0 _ _ _ from ⟨k + 1, a, cap, by omega, by rw [HSt.out], by first | go_num | simp, keep (by rw [HSt.out]; exact owns_fitsT HO.out HG2.out), HB2⟩
        case measure => simp [intOf]; omega
      · have hz2 : (t.xid == 0) = false := by simp [hz]
        have hst := HStp.out
        rw [if_neg hz] at hst
        have HStp := keep hst
        clear hz hst
        go_wp2_with fail
        clear x2
        go_loopw [6] (fun i wv => PosRel B t.xid w2 i wv) (fun i _ => B.length - (intOf i).toNat)
        case atStart => exact show PosRel B t.xid w2 _ _ from ⟨0, Nat.zero_le _, rfl, keep (fun j _ h => by omega), keep (Below.refl _ _)⟩
        case round =>
          obtain ⟨j, hjl, rfl, HL, HGj⟩ := hrel
          obtain ⟨-, -, x2, -⟩ := six_of (HX.out wr HGj.out)
          have HOv := keep (owns_fitsT HO2.out HGj.out)
          have hps := posB_of t.xid B j hjl HL.out
          have HSz := keep (Nat.le_trans HB2.out.size HGj.out.size)
          have HBv := keep (Below.trans HB2.out (HGj.out.mono HB2.out.size))
          by_cases hltj : j < B.length
          · obtain ⟨c', off', cap', e, b0, b1⟩ := bg_at (own_rowS HOv.out).weak rfl hltj
            rcases HOv.out.2 with ⟨h0, h1⟩ | ⟨q, qc, cur, hv, -, -, hqc, -⟩
            · omega
            · simp only [Value.slice.injEq] at hv e
              obtain ⟨rfl, -, rfl⟩ := hv
              simp only [Option.some.injEq, Addr.mk.injEq] at e
              obtain ⟨⟨rfl, rfl, -⟩, -, rfl⟩ := e
              simp only [Nat.zero_add] at b0
              have hLs : B[j].1 < t.xid → ∀ m (h : m < B.length), m < j + 1 → B[m].1 < t.xid := fun h1 m h2 h3 => by
                rcases Nat.lt_or_ge m j with h4 | h4
                · exact HL.out m h2 h4
                · have : m = j := by omega
                  subst this; exact h1
              have hps2 := hps.2 hltj
              have HLs := keep hLs
              have HPs := keep hps2
              clear hLs hps hps2 b1
              generalize hy : B[j].1 = y at *
              by_cases hlt2 : y < t.xid
              · have e1 : decide (y < t.xid) = true := decide_eq_true hlt2
                have HLs2 := keep (HLs.out hlt2)
                clear hlt2 hy HLs HPs
                go_upto_region 8 with fail
                go_quiet (fail)
                go_wp2_with fail
                go_roundw
                case rel => exact show PosRel B t.xid w2 _ _ from ⟨j + 1, by omega, by first | go_num | simp, keep HLs2.out, keep (grow_drewN HGj.out _)⟩
                case measure => simp [intOf]; omega
              · have e1 : decide (y < t.xid) = false := decide_eq_false hlt2
                have HPos := keep (HPs.out (by omega))
                have hcn : (cap = j) = False := by simp; omega
                clear hlt2 hy HLs HPs
                go_upto_region 8 with fail
                go_quiet (fail)
                go_upto_region 11 with fail
                go_upto_region 12 with (at_builtin; go_must (refine wpList_append_src rfl _ _ 51 rfl wr.heap.size 59 iB (.agg #[.int .i64 0, .int .i64 0]) 2 16 Try.underlying51 hiB hzB0 hzB1 hzB2 rfl (by decide) (Value.slice none 0 0) 0 [] rfl (World.ownsRow_nil _ _ _ _) _ j (bgCells (B.take j)) rfl (bg_lo (owns_drewN HOv.out) j hjl) (one_bg _) (by unfold maxLen; omega) (by omega) (Nat.le_refl _) ?_); intro v' wc hown hgrow'; have hgrow := (show World.grownBy _ wc none from hgrow'); clear hgrow'; rw [Nat.zero_add, List.nil_append] at hown; obtain ⟨a1, c1, rfl⟩ := own_form hown; have HL1 := keep hown; have HGc := keep (Below.grown (grow_drewN (Below.refl wr.heap.size wr) _) hgrow (Nat.le_refl _) (fun g e => by cases e)); obtain ⟨-, -, z2, -, z4, -⟩ := six_of (HX.out wc (Grow.trans HGj.out HGc.out)); clear hown hgrow)
                go_upto_region 13 with (at_builtin; go_must (refine wpList_append_src rfl _ _ 51 rfl wr.heap.size 59 iB (.agg #[.int .i64 0, .int .i64 0]) 2 16 Try.underlying51 hiB hzB0 hzB1 hzB2 rfl (by decide) (Value.slice a1 j c1) j (bgCells (B.take j)) rfl (HL1.out.alloc _) _ 1 [Value.int .i64 t.xid, Value.int .i64 t.last] rfl (src_new wc 59 2 _ [Value.int .i64 t.xid, Value.int .i64 t.last] rfl) (by intro u hu; simp at hu; rcases hu with rfl | rfl <;> rfl) (by unfold maxLen; omega) (by omega) (by have := HGc.out.size; simp; omega) ?_); intro v' we hown hgrow; obtain ⟨a3, c3, rfl⟩ := own_form hown; have HL2 := keep hown; have HGe := keep (Below.grown (Below.alloc HGc.out HGc.out.size _) hgrow (by have := HGc.out.size; simp; omega) (fun g e => (HL1.out.lt g e).1)); clear hown hgrow)
                clear z2 z4
                go_wp2_with (at_builtin; go_must (refine wpList_append_src rfl _ _ 51 rfl wr.heap.size 59 iB (.agg #[.int .i64 0, .int .i64 0]) 2 16 Try.underlying51 hiB hzB0 hzB1 hzB2 rfl (by decide) (Value.slice a3 (j + 1) c3) (j + 1) ((bgCells (B.take j)) ++ [Value.int .i64 t.xid, Value.int .i64 t.last]) rfl HL2.out _ (B.length - j) (bgCells (B.drop j)) rfl (bg_hi (own_keeps HOv.out fun q _ hl => HGe.out.block q hl) j hjl rfl) (one_bg _) (by unfold maxLen; omega) (by omega) HGe.out.size ?_); intro v' wf hown hgrow; obtain ⟨a4, c4, rfl⟩ := own_form hown; have HL3 := keep hown; have HGf := keep (Below.grown HGe.out hgrow HGe.out.size (fun g e => (HL2.out.lt g e).1)); clear hown hgrow)
                have hN : j + 1 + (B.length - j) = (insB (t.xid, t.last) B).length := by rw [insB_len]; omega
                have hL := HL3.out
                have hR : wf.ownsRow w0.heap.size 59 2 (.slice a4 (insB (t.xid, t.last) B).length c4) (insB (t.xid, t.last) B).length (bgCells (insB (t.xid, t.last) B)) := by
                  rw [← hN, show bgCells (insB (t.xid, t.last) B) = bgCells (B.take j) ++ [Value.int .i64 t.xid, Value.int .i64 t.last] ++ bgCells (B.drop j) from by unfold insB; rw [HPos.out]; simp [bgCells, bgC]]
                  exact own_base hL HSz.out
                have HR2 := keep hR
                have HGz := keep (Below.trans HBv.out (HGf.out.mono HSz.out))
                have HN2 := keep hN
                clear hR hL hN
                go_roundw
                case rel => exact show DbRel D w0 _ _ _ from ⟨k + 1, a4, c4, by omega, by rw [HStp.out]; first | rfl | rw [HN2.out] | (rw [← HN2.out]), by first | go_num | simp, keep (by rw [HStp.out]; exact HR2.out), HGz⟩
                case measure => simp [intOf]; omega
          · have e : j = B.length := by omega
            have HPos := keep (hps.1 e)
            have HE := keep e
            have eg : decide (j < B.length) = false := decide_eq_false (by omega)
            clear e
            rcases HOv.out.2 with ⟨h0, h1⟩ | ⟨q, qc, cur, hv, -, -, hqc, -⟩
            · have hB0 : B = [] := List.eq_nil_of_length_eq_zero h1
              simp only [Value.slice.injEq] at h0
              obtain ⟨rfl, -, rfl⟩ := h0
              clear hps HL hltj h1
              subst hB0
              have e0 : j = 0 := by simpa using hjl
              subst e0
              clear hBl HE HPos hjl
              go_upto_region 8 with fail
              go_quiet (fail)
              go_upto_region 11 with fail
              go_upto_region 12 with (at_builtin; go_must (refine wpList_append_src rfl _ _ 51 rfl wr.heap.size 59 iB (.agg #[.int .i64 0, .int .i64 0]) 2 16 Try.underlying51 hiB hzB0 hzB1 hzB2 rfl (by decide) (Value.slice none 0 0) 0 [] rfl (World.ownsRow_nil _ _ _ _) _ 0 [] rfl (src_none _ _) (by simp) (by unfold maxLen; omega) (by omega) (Nat.le_refl _) ?_); intro v' wc hown hgrow'; have hgrow := (show World.grownBy _ wc none from hgrow'); clear hgrow'; rw [Nat.zero_add, List.nil_append] at hown; obtain ⟨a1, c1, rfl⟩ := own_form hown; have HL1 := keep hown; have HGc := keep (Below.grown (grow_drewN (Below.refl wr.heap.size wr) _) hgrow (Nat.le_refl _) (fun g e => by cases e)); obtain ⟨-, -, z2, -, z4, -⟩ := six_of (HX.out wc (Grow.trans HGj.out HGc.out)); clear hown hgrow)
              go_upto_region 13 with (at_builtin; go_must (refine wpList_append_src rfl _ _ 51 rfl wr.heap.size 59 iB (.agg #[.int .i64 0, .int .i64 0]) 2 16 Try.underlying51 hiB hzB0 hzB1 hzB2 rfl (by decide) (Value.slice a1 0 c1) 0 [] rfl (HL1.out.alloc _) _ 1 [Value.int .i64 t.xid, Value.int .i64 t.last] rfl (src_new wc 59 2 _ [Value.int .i64 t.xid, Value.int .i64 t.last] rfl) (by intro u hu; simp at hu; rcases hu with rfl | rfl <;> rfl) (by unfold maxLen; omega) (by omega) (by have := HGc.out.size; simp; omega) ?_); intro v' we hown hgrow; obtain ⟨a3, c3, rfl⟩ := own_form hown; have HL2 := keep hown; have HGe := keep (Below.grown (Below.alloc HGc.out HGc.out.size _) hgrow (by have := HGc.out.size; simp; omega) (fun g e => (HL1.out.lt g e).1)); clear hown hgrow)
              clear z2 z4
              go_wp2_with (at_builtin; go_must (refine wpList_append_src rfl _ _ 51 rfl wr.heap.size 59 iB (.agg #[.int .i64 0, .int .i64 0]) 2 16 Try.underlying51 hiB hzB0 hzB1 hzB2 rfl (by decide) (Value.slice a3 (0 + 1) c3) (0 + 1) ([] ++ [Value.int .i64 t.xid, Value.int .i64 t.last]) rfl HL2.out _ 0 [] rfl (src_none _ _) (by simp) (by unfold maxLen; omega) (by omega) HGe.out.size ?_); intro v' wf hown hgrow; rw [Nat.add_zero, List.append_nil] at hown; obtain ⟨a4, c4, rfl⟩ := own_form hown; have HL3 := keep hown; have HGf := keep (Below.grown HGe.out hgrow HGe.out.size (fun g e => (HL2.out.lt g e).1)); clear hown hgrow)
              have hN : 0 + 1 = (insB (t.xid, t.last) []).length := by simp [insB, posB]
              have hL := HL3.out
              have hR : wf.ownsRow w0.heap.size 59 2 (.slice a4 (insB (t.xid, t.last) []).length c4) (insB (t.xid, t.last) []).length (bgCells (insB (t.xid, t.last) [])) := by
                rw [← hN, show bgCells (insB (t.xid, t.last) []) = [] ++ [Value.int .i64 t.xid, Value.int .i64 t.last] from by simp [insB, posB, bgCells, bgC]]
                exact own_base hL HSz.out
              have HR2 := keep hR
              have HGz := keep (Below.trans HBv.out (HGf.out.mono HSz.out))
              have HN2 := keep hN
              clear hR hL hN
              go_roundw
              case rel => exact show DbRel D w0 _ _ _ from ⟨k + 1, a4, c4, by omega, by rw [HStp.out]; first | rfl | rw [HN2.out] | (rw [← HN2.out]), by first | go_num | simp, keep (by rw [HStp.out]; exact HR2.out), HGz⟩
              case measure => simp [intOf]; omega
            · simp only [Value.slice.injEq] at hv
              obtain ⟨rfl, -, rfl⟩ := hv
              clear hps HL hltj
              rcases Decidable.em (j = cap) with hcp | hcp
              · have hcapB : B.length ≤ j := by have := HE.out; omega
                subst hcp
                go_upto_region 8 with fail
                go_quiet (fail)
                go_upto_region 11 with fail
                go_upto_region 12 with (at_builtin; go_must (refine wpList_append_src rfl _ _ 51 rfl wr.heap.size 59 iB (.agg #[.int .i64 0, .int .i64 0]) 2 16 Try.underlying51 hiB hzB0 hzB1 hzB2 rfl (by decide) (Value.slice none 0 0) 0 [] rfl (World.ownsRow_nil _ _ _ _) _ j (bgCells (B.take j)) rfl (bg_lo (owns_drewN HOv.out) j hjl) (one_bg _) (by unfold maxLen; omega) (by omega) (Nat.le_refl _) ?_); intro v' wc hown hgrow'; have hgrow := (show World.grownBy _ wc none from hgrow'); clear hgrow'; rw [Nat.zero_add, List.nil_append] at hown; obtain ⟨a1, c1, rfl⟩ := own_form hown; have HL1 := keep hown; have HGc := keep (Below.grown (grow_drewN (Below.refl wr.heap.size wr) _) hgrow (Nat.le_refl _) (fun g e => by cases e)); obtain ⟨-, -, z2, -, z4, -⟩ := six_of (HX.out wc (Grow.trans HGj.out HGc.out)); clear hown hgrow)
                go_upto_region 13 with (at_builtin; go_must (refine wpList_append_src rfl _ _ 51 rfl wr.heap.size 59 iB (.agg #[.int .i64 0, .int .i64 0]) 2 16 Try.underlying51 hiB hzB0 hzB1 hzB2 rfl (by decide) (Value.slice a1 j c1) j (bgCells (B.take j)) rfl (HL1.out.alloc _) _ 1 [Value.int .i64 t.xid, Value.int .i64 t.last] rfl (src_new wc 59 2 _ [Value.int .i64 t.xid, Value.int .i64 t.last] rfl) (by intro u hu; simp at hu; rcases hu with rfl | rfl <;> rfl) (by unfold maxLen; omega) (by omega) (by have := HGc.out.size; simp; omega) ?_); intro v' we hown hgrow; obtain ⟨a3, c3, rfl⟩ := own_form hown; have HL2 := keep hown; have HGe := keep (Below.grown (Below.alloc HGc.out HGc.out.size _) hgrow (by have := HGc.out.size; simp; omega) (fun g e => (HL1.out.lt g e).1)); clear hown hgrow)
                clear z2 z4
                go_wp2_with (at_builtin; go_must (refine wpList_append_src rfl _ _ 51 rfl wr.heap.size 59 iB (.agg #[.int .i64 0, .int .i64 0]) 2 16 Try.underlying51 hiB hzB0 hzB1 hzB2 rfl (by decide) (Value.slice a3 (j + 1) c3) (j + 1) ((bgCells (B.take j)) ++ [Value.int .i64 t.xid, Value.int .i64 t.last]) rfl HL2.out _ 0 [] rfl (src_z2 _ _) (by simp) (by unfold maxLen; omega) (by omega) HGe.out.size ?_); intro v' wf hown hgrow; rw [Nat.add_zero, List.append_nil] at hown; obtain ⟨a4, c4, rfl⟩ := own_form hown; have HL3 := keep hown; have HGf := keep (Below.grown HGe.out hgrow HGe.out.size (fun g e => (HL2.out.lt g e).1)); clear hown hgrow)
                have hN : j + 1 = (insB (t.xid, t.last) B).length := by rw [insB_len]; omega
                have hL := HL3.out
                have hR : wf.ownsRow w0.heap.size 59 2 (.slice a4 (insB (t.xid, t.last) B).length c4) (insB (t.xid, t.last) B).length (bgCells (insB (t.xid, t.last) B)) := by
                  rw [← hN, show bgCells (insB (t.xid, t.last) B) = bgCells (B.take j) ++ [Value.int .i64 t.xid, Value.int .i64 t.last] from by unfold insB; rw [HPos.out, List.drop_eq_nil_of_le hcapB]; simp [bgCells, bgC]]
                  exact own_base hL HSz.out
                have HR2 := keep hR
                have HGz := keep (Below.trans HBv.out (HGf.out.mono HSz.out))
                have HN2 := keep hN
                clear hR hL hN
                go_roundw
                case rel => exact show DbRel D w0 _ _ _ from ⟨k + 1, a4, c4, by omega, by rw [HStp.out]; first | rfl | rw [HN2.out] | (rw [← HN2.out]), by first | go_num | simp, keep (by rw [HStp.out]; exact HR2.out), HGz⟩
                case measure => simp [intOf]; omega
              · have hcn : (cap = j) = False := by simp; omega
                go_upto_region 8 with fail
                go_quiet (fail)
                go_upto_region 11 with fail
                go_upto_region 12 with (at_builtin; go_must (refine wpList_append_src rfl _ _ 51 rfl wr.heap.size 59 iB (.agg #[.int .i64 0, .int .i64 0]) 2 16 Try.underlying51 hiB hzB0 hzB1 hzB2 rfl (by decide) (Value.slice none 0 0) 0 [] rfl (World.ownsRow_nil _ _ _ _) _ j (bgCells (B.take j)) rfl (bg_lo (owns_drewN HOv.out) j hjl) (one_bg _) (by unfold maxLen; omega) (by omega) (Nat.le_refl _) ?_); intro v' wc hown hgrow'; have hgrow := (show World.grownBy _ wc none from hgrow'); clear hgrow'; rw [Nat.zero_add, List.nil_append] at hown; obtain ⟨a1, c1, rfl⟩ := own_form hown; have HL1 := keep hown; have HGc := keep (Below.grown (grow_drewN (Below.refl wr.heap.size wr) _) hgrow (Nat.le_refl _) (fun g e => by cases e)); obtain ⟨-, -, z2, -, z4, -⟩ := six_of (HX.out wc (Grow.trans HGj.out HGc.out)); clear hown hgrow)
                go_upto_region 13 with (at_builtin; go_must (refine wpList_append_src rfl _ _ 51 rfl wr.heap.size 59 iB (.agg #[.int .i64 0, .int .i64 0]) 2 16 Try.underlying51 hiB hzB0 hzB1 hzB2 rfl (by decide) (Value.slice a1 j c1) j (bgCells (B.take j)) rfl (HL1.out.alloc _) _ 1 [Value.int .i64 t.xid, Value.int .i64 t.last] rfl (src_new wc 59 2 _ [Value.int .i64 t.xid, Value.int .i64 t.last] rfl) (by intro u hu; simp at hu; rcases hu with rfl | rfl <;> rfl) (by unfold maxLen; omega) (by omega) (by have := HGc.out.size; simp; omega) ?_); intro v' we hown hgrow; obtain ⟨a3, c3, rfl⟩ := own_form hown; have HL2 := keep hown; have HGe := keep (Below.grown (Below.alloc HGc.out HGc.out.size _) hgrow (by have := HGc.out.size; simp; omega) (fun g e => (HL1.out.lt g e).1)); clear hown hgrow)
                clear z2 z4
                go_wp2_with (at_builtin; go_must (refine wpList_append_src rfl _ _ 51 rfl wr.heap.size 59 iB (.agg #[.int .i64 0, .int .i64 0]) 2 16 Try.underlying51 hiB hzB0 hzB1 hzB2 rfl (by decide) (Value.slice a3 (j + 1) c3) (j + 1) ((bgCells (B.take j)) ++ [Value.int .i64 t.xid, Value.int .i64 t.last]) rfl HL2.out _ (B.length - j) (bgCells (B.drop j)) rfl (bg_hi (own_keeps HOv.out fun q _ hl => HGe.out.block q hl) j hjl rfl) (one_bg _) (by unfold maxLen; omega) (by omega) HGe.out.size ?_); intro v' wf hown hgrow; obtain ⟨a4, c4, rfl⟩ := own_form hown; have HL3 := keep hown; have HGf := keep (Below.grown HGe.out hgrow HGe.out.size (fun g e => (HL2.out.lt g e).1)); clear hown hgrow)
                have hN : j + 1 + (B.length - j) = (insB (t.xid, t.last) B).length := by rw [insB_len]; omega
                have hL := HL3.out
                have hR : wf.ownsRow w0.heap.size 59 2 (.slice a4 (insB (t.xid, t.last) B).length c4) (insB (t.xid, t.last) B).length (bgCells (insB (t.xid, t.last) B)) := by
                  rw [← hN, show bgCells (insB (t.xid, t.last) B) = bgCells (B.take j) ++ [Value.int .i64 t.xid, Value.int .i64 t.last] ++ bgCells (B.drop j) from by unfold insB; rw [HPos.out]; simp [bgCells, bgC]]
                  exact own_base hL HSz.out
                have HR2 := keep hR
                have HGz := keep (Below.trans HBv.out (HGf.out.mono HSz.out))
                have HN2 := keep hN
                clear hR hL hN
                go_roundw
                case rel => exact show DbRel D w0 _ _ _ from ⟨k + 1, a4, c4, by omega, by rw [HStp.out]; first | rfl | rw [HN2.out] | (rw [← HN2.out]), by first | go_num | simp, keep (by rw [HStp.out]; exact HR2.out), HGz⟩
                case measure => simp [intOf]; omega
    · have e : k = D.length := by omega
      subst e
      have hB : bD ((stD D).take D.length) = begunT (stD D) := by rw [show (stD D).take D.length = stD D from List.take_of_length_le (by simp [stD])]; exact HBd.out
      generalize bD ((stD D).take D.length) = B at *
      subst hB
      go_wp2_with fail
      go_ret
      exact ⟨_, _, rfl, (own_rowS HO.out).weak, HG.out⟩

end Go.Proofs.Ytgijmlienolhpaa
