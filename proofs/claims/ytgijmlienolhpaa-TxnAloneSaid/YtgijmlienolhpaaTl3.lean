
/- TxnAlone's walk. -/
import Derived.Test.YtgijmlienolhpaaTla
import Derived.Deep.CutRange
namespace Go.Proofs.Ytgijmlienolhpaa
open Go.RowKit Go.Maps

/-- The list behind the first k calls of one's own. -/
def stB (who : Int) (qs : List (Cl × Value)) (S : St) (k : Nat) : St := (qs.take k).foldl (fun S p => doesT { p.1 with who := who } S) S
theorem stB_succ (who : Int) (qs : List (Cl × Value)) (S : St) (k : Nat) (hk : k < qs.length) : stB who qs S (k + 1) = doesT { qs[k].1 with who := who } (stB who qs S k) := by
  unfold stB
  rw [List.take_succ_eq_append_getElem hk, List.foldl_append]
  rfl
theorem clOk_who {c : Cl} (h : ClOk c) (who : Int) : ClOk { c with who := who } := ⟨h.n, h.act⟩
theorem stB_good (who : Int) (qs : List (Cl × Value)) (h : ∀ p ∈ qs, ClOk p.1) (S : St) (K : Nat) (hS : Good K S) (k : Nat) (hk : k ≤ qs.length) : Good (K + k) (stB who qs S k) := by
  induction k with
  | zero => exact hS
  | succ k ih =>
    rw [stB_succ who qs S k hk]
    exact good_does (ih (by omega)) (clOk_who (h _ (List.getElem_mem _)) who)
theorem stB_alone (who : Int) (qs : List (Cl × Value)) (S : St) (k : Nat) (hk : k ≤ qs.length) : delT who (stB who qs S k) = delT who S := by
  induction k with
  | zero => rfl
  | succ k ih =>
    rw [stB_succ who qs S k hk, alone_does]
    exact ih (by omega)
/-- The state ahead of one's own call k. -/
def OwnRel (n : Nat) (O : Nat → Prop) (who : Int) (qs : List (Cl × Value)) (S : St) (tb : Nat) (w0 : World) (i : Value) (wr : World) : Prop :=
  ∃ (k : Nat) (T : Tr), k ≤ n ∧ i = .int .i64 k ∧ Kept (TabT wr O tb T) ∧ Kept (stT T = stB who qs S k) ∧ Kept (Out O w0 wr)
theorem Row.out {w w' : World} {t : Nat} {v : Value} {n : Nat} {cs : List Value} {B : Nat} {O : Nat → Prop} (h : Row w t v n cs) (hf : FreshB B v) (k : Out O w w') (hO : ∀ i, B ≤ i → i < w.heap.size → ¬ O i) : Row w' t v n cs := by
  rcases h with h0 | ⟨c, off, cap, rfl, hc⟩
  · exact .inl h0
  · refine .inr ⟨c, off, cap, rfl, fun j hj => ?_⟩
    have h1 := hc j hj
    have hlt : c < w.heap.size := World.block_lt_of_cell? w _ h1
    rw [← h1]
    exact World.cell?_of_block (k.block c hlt (hO c (hf c off _ cap rfl) hlt))
theorem SnS.fits {w w' : World} {v : Value} {B : Nat} {l : List (Int × List Int)} (h : SnS w B v l) (k : Grow w w') : SnS w' B v l := by
  obtain ⟨ps, h1, h2⟩ := h
  exact ⟨ps, owns_fitsT h1 k, h2.fits k⟩
theorem ints_of {w : World} {v : Value} {n : Nat} {l : List Int} (h : Row w 3 v n (iCells l)) (hn : n = l.length) : Ints w v l := by subst hn; exact h
theorem SnS.out {w w' : World} {v : Value} {B : Nat} {l : List (Int × List Int)} {O : Nat → Prop} (h : SnS w B v l) (k : Out O w w') (hO : ∀ i, B ≤ i → i < w.heap.size → ¬ O i) : SnR w' v l := by
  obtain ⟨ps, h1, h2, h3⟩ := h
  refine ⟨ps, Row.out (own_rowS h1).weak (own_fresh h1) k hO, h2, fun i a b => ⟨(h3 i a b).1, ?_⟩⟩
  exact ((h3 i a b).2.keeps (w' := w') fun j hj hl => k.block j hl (hO j hj hl)).1.weak

/-- A session's End, its answer left aside. -/
def EndW (O : Nat → Prop) (tb : Nat) (S1 : St) (w : World) (e : Ending) (w' : World) : Prop := ∃ x y, e = .returned (.tuple #[x, y]) ∧ (∃ T', TabT w' O tb T' ∧ stT T' = S1) ∧ Out O w w'
theorem end_w (O : Nat → Prop) (tb : Nat) (T : Tr) (S S1 : St) (who : Int) (hw : (Lit.int .i64 who).wf = true) (w_ : World) (h : TabT w_ O tb T) (hS : stT T = S) (K : Nat) (hG : Good K S) (h1 : delT who S = S1) :
    Calls Try.prog 21 #[.pointer (some ⟨tb, 0, none⟩), .int .i64 who] w_ (EndW O tb S1 w_) :=
  (end_call O tb T S who hw w_ h hS K hG).mono fun _ _ ⟨_, _, he, _, _, ⟨T', ht, hs⟩, ho⟩ => ⟨_, _, he, ⟨T', ht, hs.trans h1⟩, ho⟩

set_option maxRecDepth 100000 in
set_option maxHeartbeats 4000000 in
theorem alone_law (v v2 : Value) (ps qs : List (Cl × Value)) (who : Int) (w_ : World) (hw : (Lit.int .i64 who).wf = true) (hin : OpsIn w_ v ps) (hin2 : OpsIn w_ v2 qs) (hn : ps.length ≤ 2199023255552) (hn2 : qs.length ≤ 2199023255552) :
    Calls Try.prog 5 #[v, v2, .int .i64 who] w_ fun e w' => e = .returned (.bool true) ∧ Below w_.heap.size w_ w' := by
  obtain ⟨va, vc, rfl⟩ := row_sl hin.row
  obtain ⟨va2, vc2, rfl⟩ := row_sl hin2.row
  have HIn := keep hin
  have HIn2 := keep hin2
  have HN := keep hn
  have HN2 := keep hn2
  have HW := keep hw
  have HGd := keep (fun k hk => stA_good ps (fun p hp => (hin.each p hp).2.1) k hk)
  clear hin hin2 hw
  go_enter Try.func5, Try.ntmps5
  go_wp2_with (go_at_call 8; refine (new_any w_).mono ?_; rintro e w1 ⟨tb, rfl, hT1, hB1⟩; have HT1 := keep hT1; have HB1 := keep hB1; clear hT1 hB1)
  go_loopw [8] (fun i wr => DoRel ps tb w_ i wr) (fun i _ => ps.length - (intOf i).toNat)
  case atStart => exact show DoRel ps tb w_ _ _ from ⟨0, [], Nat.zero_le _, rfl, HT1, keep rfl, HB1⟩
  case round =>
    obtain ⟨k, T, hkl, rfl, HT, HS, HB⟩ := hrel
    by_cases hlt : k < ps.length
    · have hop := HIn.out.fits HB.out
      obtain ⟨c, off, cap2, e, c0, c1, c2, c3, c4, c5⟩ := hop.at_ hlt
      simp only [Value.slice.injEq] at e
      obtain ⟨rfl, _, rfl⟩ := e
      have hea := hop.each ps[k] (List.getElem_mem hlt)
      have hdo := does_any (fun k => w_.heap.size ≤ k) tb T ps[k].1 ps[k].2 hea.2.2 wr HT.out (fun k hk => Nat.le_trans HB.out.size hk) hea.1 hea.2.1 k (by have := HN.out; omega) (by rw [HS.out]; exact HGd.out k hkl)
      rw [HS.out, ← stA_succ ps k hlt] at hdo
      unfold opC at hdo
      generalize ps[k] = p at *
      obtain ⟨⟨ask, whx, n, flag, next, act⟩, sv⟩ := p
      dsimp only at c0 c1 c2 c3 c4 c5 hdo
      have HDo := keep hdo
      have HS9 := keep HB.out.size
      clear hop hea hdo
      go_wp2_with (go_at_call 9; refine HDo.out.mono ?_; rintro e w2 ⟨rfl, ⟨T2, hT2, hS2⟩, ho2⟩; have HT2 := keep hT2; have HS2 := keep hS2; have HB2 := keep (HB.out.trans (ho2.below HS9.out)); clear hT2 hS2 ho2)
      go_roundw
      case rel => exact show DoRel ps tb w_ _ _ from ⟨k + 1, T2, by omega, by first | go_num | simp, HT2, HS2, HB2⟩
      case measure => simp [intOf]; omega
    · have e : k = ps.length := by omega
      subst e
      have hG := HGd.out _ hkl
      generalize stA ps ps.length = S0 at *
      have hG1 : Good ps.length (delT who S0) := by rw [← endT_is]; exact good_end hG who
      have HEn := keep (end_w (fun k => w_.heap.size ≤ k) tb T S0 _ who HW.out wr HT.out HS.out _ hG rfl)
      have HBA := keep HB.out.size
      have hnn := HN.out
      have HGB := keep (stB_good who qs (fun p hp => (HIn2.out.each p hp).2.1) (delT who S0) _ hG1)
      have HAl := keep (fun k hk => stB_alone who qs (delT who S0) k hk)
      have hid := delT_idem who S0
      generalize delT who S0 = S at *
      rw [hid] at HAl
      clear hG HT HS hkl hlt hid
      have HG1 := keep hG1
      have hbl := begunT_len S
      have hsl : S.length ≤ 4398046511104 := by have := hG1.len; omega
      clear hG1
      go_upto_region 9 with (go_at_call 21; refine HEn.out.mono ?_; go_loud (rintro e w2 ⟨x2, y2, rfl, ⟨T2, hT2, hS2⟩, ho2⟩; have HB2 := keep (HB.out.trans (ho2.below HBA.out)); have HT2 := keep hT2; have HS2 := keep hS2; have HR2 := keep (rd_calls hT2 hS2 HG1.out (Nat.le_trans hnn (by decide))); clear hT2 hS2 ho2))
      go_wp2_with (first
        | (go_at_call 12; refine (HR2.out.run _ (Below.refl _ _)).mono ?_; rintro e w3 ⟨la, lc, rfl, hrow3, hb3, hf3⟩; have HL3 := keep hrow3; have HF3 := keep hf3; have HG3 := keep hb3; clear hrow3 hb3 hf3)
        | (go_at_call 26; refine (HR2.out.snp _ HG3.out).mono ?_; rintro e w4 ⟨sa, sc, rfl, hs4, hb4⟩; have HS4 := keep hs4; have HG4 := keep (Grow.trans HG3.out hb4); have HG34 := keep hb4; clear hs4 hb4)
        | (go_at_call 11; refine (HR2.out.old _ HG4.out).mono ?_; rintro e w5 ⟨rfl, hb5⟩; have HG5 := keep (Grow.trans HG4.out hb5); have HG45 := keep hb5; clear hb5)
        | (go_at_call 27; refine (HR2.out.beg _ HG5.out).mono ?_; rintro e w6 ⟨ba, bc, rfl, hrow6, hb6, hf6⟩; have HB6 := keep hrow6; have HF6 := keep hf6; have HG6 := keep (Grow.trans HG5.out hb6); have HG56 := keep hb6; clear hrow6 hb6 hf6))
      have hex : ∃ O : Nat → Prop, TabT w6 O tb T2 ∧ (∀ k, w6.heap.size ≤ k → O k) ∧ (∀ k, w2.heap.size ≤ k → k < w6.heap.size → ¬ O k) ∧ (∀ k, O k → w_.heap.size ≤ k) :=
        ⟨fun k => k < w2.heap.size ∧ w_.heap.size ≤ k ∨ w6.heap.size ≤ k, (HT2.out.old.fits HG6.out).weaken fun k h _ => .inl ⟨h.2, h.1⟩, fun k h => .inr h, fun k h1 h2 h3 => by omega, fun k h => by
          have := HB2.out.size
          have := HG6.out.size
          omega⟩
      obtain ⟨O, hT6, hO2, hno, hob⟩ := hex
      have HT6 := keep hT6
      have HO2 := keep hO2
      have HNo := keep hno
      have HL6 := keep (ints_of (Row.fits HL3.out (Grow.trans HG34.out (Grow.trans HG45.out HG56.out))) (runT_len S).symm)
      have HS6 := keep (SnS.fits HS4.out (Grow.trans HG45.out HG56.out))
      have HBW := keep (HB2.out.trans (HG6.out.mono HB2.out.size))
      have HWr := keep (fun wr (h : Out O w6 wr) => HBW.out.trans ((h.mono hob).below HBW.out.size))
      have HSz3 := keep HG3.out.size
      have HSz5 := keep HG5.out.size
      have HS0 := keep (show stT T2 = stB who qs S 0 from HS2.out)
      clear hT6 hO2 hno hob HT2 HR2 HG3 HG4 HG5 HG34 HG45 HG56 HL3 HS4 HB2 HB HEn HS2 HG6 HT1 HB1 HIn HN HGd HBA
      go_loopw [13] (fun i wr => OwnRel qs.length O who qs S tb w6 i wr) (fun i _ => qs.length - (intOf i).toNat)
      case atStart => exact show OwnRel qs.length O who qs S tb w6 _ _ from ⟨0, T2, Nat.zero_le _, rfl, HT6, HS0, keep (Out.refl _ _)⟩
      case round =>
        obtain ⟨k, T, hkl, rfl, HT, HS, HO⟩ := hrel
        by_cases hlt : k < qs.length
        · have hop := HIn2.out.fits (HWr.out _ HO.out)
          obtain ⟨c, off, cap2, e, c0, c1, c2, c3, c4, c5⟩ := hop.at_ hlt
          simp only [Value.slice.injEq] at e
          obtain ⟨rfl, _, rfl⟩ := e
          have hea := hop.each qs[k] (List.getElem_mem hlt)
          obtain ⟨w7, hw7⟩ : ∃ w7, w7 = wr.alloc (.cells (opC qs[k].1 qs[k].2).toArray 30) := ⟨_, rfl⟩
          have hg7 : Grow wr w7 := by subst hw7; exact (Grow.refl wr).alloc _
          have hx7 : Blk w7 wr.heap.size 30 (opC qs[k].1 qs[k].2) := by subst hw7; exact Blk.new wr _ _
          obtain ⟨w8, hw8⟩ : ∃ w8, w8 = w7.setCell ⟨wr.heap.size, 1, none⟩ (.int .i64 who) := ⟨_, rfl⟩
          have hx8 : Blk w8 wr.heap.size 30 (opC { qs[k].1 with who := who } qs[k].2) := by subst hw8; exact hx7.set 1 _
          have hg8 : Grow wr w8 := by subst hw8; exact But.below hg7 ((But.refl _ _).setCell 1 _) (Nat.le_refl _) hg7.size
          have hdo := does_any O tb T { qs[k].1 with who := who } qs[k].2 HW.out w8 (HT.out.fits hg8) (fun i hi => HO2.out i (Nat.le_trans HO.out.size (Nat.le_trans hg8.size hi))) (Row.fits hea.1 hg8) (clOk_who hea.2.1 who) (ps.length + k) (by have := HN2.out; omega) (by rw [HS.out]; exact HGB.out k hkl)
          rw [HS.out, ← stB_succ who qs S k hlt] at hdo
          unfold opC at hdo hx7 hx8 hw7
          generalize qs[k] = p at *
          obtain ⟨⟨ask, whx, n, flag, next, act⟩, sv⟩ := p
          dsimp only at c0 c1 c2 c3 c4 c5 hdo hx7 hx8 hw7 hea
          obtain ⟨s1, s2, rfl⟩ := row_sl hea.1
          obtain ⟨x0, x1, x2, x3, x4, x5, f0, f1, f2, f3, f4, f5⟩ := six_of hx7
          obtain ⟨y0, y1, y2, y3, y4, y5, _⟩ := six_of hx8
          have HDo := keep hdo
          have HG8 := keep hg8
          clear hop hea hdo hx7 hx8 hg7 hg8
          go_upto_region 17 with fail
          rw [← hw7]
          clear hw7
          go_upto_region 18 with fail
          rw [← hw8]
          clear hw8
          go_wp2_with (go_at_call 9; refine HDo.out.mono ?_; rintro e w9 ⟨rfl, ⟨T9, hT9, hS9⟩, ho9⟩; have HT9 := keep hT9; have HS9 := keep hS9; have HO9 := keep (HO.out.trans ((Out.of_below HG8.out).trans ho9)); clear hT9 hS9 ho9)
          go_roundw
          case rel => exact show OwnRel qs.length O who qs S tb w6 _ _ from ⟨k + 1, T9, by omega, by first | go_num | simp, HT9, HS9, HO9⟩
          case measure => simp [intOf]; omega
        · have e : k = qs.length := by omega
          subst e
          have HEn := keep (end_w O tb T _ S who HW.out wr HT.out HS.out _ (HGB.out _ hkl) (HAl.out _ hkl))
          go_upto_region 20 with (go_at_call 21; refine HEn.out.mono ?_; rintro e w10 ⟨x2, y2, rfl, ⟨T10, hT10, hS10⟩, ho10⟩; have HR10 := keep (rd_calls hT10 hS10 HG1.out (Nat.le_trans hnn (by decide))); have HO10 := keep (HO.out.trans ho10); clear hT10 hS10 ho10)
          have HL10 := keep (Row.out HL6.out HF3.out HO10.out HNo.out)
          have HS10 := keep (SnS.out HS6.out HO10.out (fun i h1 h2 => HNo.out i (Nat.le_trans HSz3.out h1) h2))
          have HB10 := keep (Row.out HB6.out HF6.out HO10.out (fun i h1 h2 => HNo.out i (Nat.le_trans HSz5.out h1) h2))
          have HW10 := keep (HWr.out _ HO10.out)
          have HAc := keep (fun x (hx : x ∈ snapsT S) => (show (x.2.length : Int) ≤ 17592186044416 from by
            obtain ⟨y, hy, rfl⟩ := List.mem_map.1 hx
            exact HG1.out.acts y hy))
          clear HT HS HO HEn HGB HAl HNo HO2 HWr HL6 HS6 HB6 HF3 HF6 HO10 HT6 HS0 hkl hlt
          go_wp2_with (first
            | (go_at_call 12; refine (HR10.out.run _ (Below.refl _ _)).mono ?_; rintro e w11 ⟨la', lc', rfl, hrow, hb, -⟩; have HL11 := keep hrow; have HG11 := keep hb; clear hrow hb)
            | (go_at_call 28; refine (sameInts_eq (runT S) _ _ w11 (ints_of HL11.out (runT_len S).symm) (Row.fits HL10.out HG11.out) (by rw [runT_len]; omega)).mono ?_; rintro e w12 ⟨rfl, hb⟩; have HG12 := keep (Grow.trans HG11.out hb); clear hb)
            | (go_at_call 26; refine (HR10.out.snp _ HG12.out).mono ?_; rintro e w13 ⟨sa', sc', rfl, hs, hb⟩; have HS13 := keep hs; have HG13 := keep (Grow.trans HG12.out hb); clear hs hb)
            | (go_at_call 29; refine (snaps_eq (snapsT S) _ _ w13 HS13.out.row (HS10.out.fits HG13.out) (by rw [snapsT_len]; omega) HAc.out).mono ?_; rintro e w14 ⟨rfl, hb⟩; have HG14 := keep (Grow.trans HG13.out hb); clear hb)
            | (go_at_call 11; refine (HR10.out.old _ HG14.out).mono ?_; rintro e w15 ⟨rfl, hb⟩; have HG15 := keep (Grow.trans HG14.out hb); clear hb)
            | (go_at_call 27; refine (HR10.out.beg _ HG15.out).mono ?_; rintro e w16 ⟨ba', bc', rfl, hrow, hb, -⟩; have HB16 := keep hrow; have HG16 := keep (Grow.trans HG15.out hb); clear hrow hb)
            | (go_at_call 30; refine (begun_eq (begunT S) _ _ w16 HB16.out (Row.fits HB10.out HG16.out) (by omega)).mono ?_; rintro e w17 ⟨rfl, hb⟩; have HG17 := keep (Grow.trans HG16.out hb); clear hb)
            | (go_at_call 13; refine (awake_any w17).mono ?_; rintro e w18 ⟨rfl, hb⟩; have HG18 := keep (Grow.trans HG17.out hb); clear hb))
          go_ret
          exact ⟨rfl, HW10.out.trans (HG18.out.mono HW10.out.size)⟩
theorem alone_top (v : Value) (ps : List (Cl × Value)) (v2 : Value) (qs : List (Cl × Value)) (who : Int) (w_ : World) (hin : OpsIn w_ v ps) (hn : ps.length ≤ 2199023255552) (hin2 : OpsIn w_ v2 qs) (hn2 : qs.length ≤ 2199023255552) (hw : (Lit.int .i64 who).wf = true) : Calls Try.prog 5 #[v, v2, .int .i64 who] w_ fun e w' => e = .returned (.bool true) ∧ Below w_.heap.size w_ w' := alone_law v v2 ps qs who w_ hw hin hin2 hn hn2

end Go.Proofs.Ytgijmlienolhpaa
