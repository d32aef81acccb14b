
/- The document's table: Take. -/
import Derived.Test.YtgijmlienolhpaaTd2
import Derived.Deep.CutRange
namespace Go.Proofs.Ytgijmlienolhpaa
open Go.RowKit Go.Maps

def DocCode (O : Nat → Prop) (tr : Nat) (R : St × Int) (w : World) (e : Ending) (w' : World) : Prop := e = .returned (.int .i64 R.2) ∧ (∃ D', DocT w' O tr D' ∧ stD D' = R.1) ∧ Out O w w'
def TkRel (D : Dr) (xid : Int) (w0 : World) (i : Value) (wr : World) : Prop := ∃ k : Nat, k ≤ D.length ∧ i = .int .i64 k ∧ Kept (∀ j (h : j < D.length), j < k → D[j].1.2.xid ≠ xid) ∧ Kept (Grow w0 wr)
theorem mem_runD {D : Dr} {n : Int} (hn : n ≠ 0) : n ∈ runT (stD D) ↔ ∃ (j : Nat) (h : j < D.length), D[j].1.2.xid = n := by
  rw [mem_runT]
  constructor
  · rintro ⟨x, hx, h1, _⟩
    obtain ⟨p, hp, rfl⟩ := List.mem_map.1 hx
    obtain ⟨j, hj, rfl⟩ := List.getElem_of_mem hp
    exact ⟨j, hj, h1⟩
  · rintro ⟨j, hj, h1⟩
    exact ⟨D[j].1, List.mem_map.2 ⟨_, List.getElem_mem hj, rfl⟩, h1, hn⟩

set_option maxRecDepth 100000 in
set_option maxHeartbeats 4000000 in
theorem doc_take (O : Nat → Prop) (tr : Nat) (D : Dr) (who xid : Int) (w_ : World) (h : DocT w_ O tr D) (hup : (stD D).Pairwise fun a b => a.1 < b.1) (hn : D.length ≤ 4398046511104) :
    Calls Try.prog 18 #[.pointer (some ⟨tr, 0, none⟩), .int .i64 who, .int .i64 xid] w_ (DocCode O tr (takeT who xid (stD D)) w_) := by
  obtain ⟨v, hb, ho, hg⟩ := h.tab
  have hat := at_any D tr v who w_ hb ho hn
  unfold AtPost at hat
  obtain ⟨hsp1, hsp2, hsp3, hsp4⟩ := atS_spec (who := who) hup
  have hfd := fun t => find_dr (who := who) hup (t := t)
  have HFd := keep hfd
  rw [hsp1] at hat
  have HAt := keep hat
  have HB := keep hb
  have HO := keep ho
  have H0 := keep h
  have HSp4 := keep hsp4
  clear h hup hat hsp1 hsp2 hsp3 hsp4 hfd hb ho
  unfold takeT
  cases hf : findT who (stD D) with
  | none =>
    rw [hf] at HAt
    generalize (atS who (stD D)).1 = i at *
    clear hf HFd HSp4
    dsimp only
    go_enter Try.func18, Try.ntmps18
    go_wp2_with (go_at_call 35; refine HAt.out.mono ?_; rintro e w2 ⟨rfl, hb2⟩; have HG2 := keep hb2; clear hb2)
    go_ret
    exact ⟨rfl, ⟨D, H0.out.fits HG2.out, rfl⟩, Out.of_below HG2.out⟩
  | some t =>
    rw [hf] at HAt
    obtain ⟨hk, he⟩ := HFd.out t hf
    have hset := (HSp4.out (by rw [hf]; rfl)).2
    generalize (atS who (stD D)).1 = i at *
    clear hf HFd HSp4
    dsimp only
    obtain ⟨g, cap, rfl, -, -, -⟩ := dr_at HO.out hk
    have HCs := keep (fun (u : World) (hu : Grow w_ u) (k : Nat) (hk : k < D.length) => (dr_at (own_keeps HO.out fun q _ hl => hu.block q hl) hk))
    have HGO := keep (hg g rfl)
    have HEq := keep he
    have HSet := keep hset
    clear hg he hset
    by_cases hA : xid < 1
    · rw [if_pos (.inl hA)]
      go_enter Try.func18, Try.ntmps18
      go_wp2_with (go_at_call 35; refine HAt.out.mono ?_; rintro e w2 ⟨rfl, hb2⟩; have HG2 := keep hb2; clear hb2)
      go_ret
      exact ⟨rfl, ⟨D, H0.out.fits HG2.out, rfl⟩, Out.of_below HG2.out⟩
    · by_cases hZ : t.xid = 0
      · have hz2 : (t.xid != 0) = false := by simp [hZ]
        obtain ⟨R, hR⟩ : ∃ R, R = (if xid < 1 ∨ t.xid ≠ 0 ∨ xid ∈ runT (stD D) then (stD D, (1 : Int)) else (setT who { t with xid := xid } (stD D), 0)) := ⟨_, rfl⟩
        rw [← hR]
        have HR := keep hR
        clear hR
        go_enter Try.func18, Try.ntmps18
        go_upto_region 2 with (go_at_call 35; refine HAt.out.mono ?_; rintro e w2 ⟨rfl, hb2⟩; have HG2 := keep hb2; clear hb2)
        obtain ⟨g', cap', e, -, ⟨-, -, -, d3, -⟩, -⟩ := HCs.out w2 HG2.out i hk
        rw [HEq.out] at d3
        simp only [Value.slice.injEq, Option.some.injEq, Addr.mk.injEq] at e
        obtain ⟨⟨rfl, -, -⟩, -, rfl⟩ := e
        have c0 := (HB.out.fits HG2.out).cell 0 (by simp)
        simp only [List.getElem_cons_zero] at c0
        dsimp only at d3
        go_wp2_with fail
        clear d3 c0
        go_loopw [9] (fun i wr => TkRel D xid w2 i wr) (fun i _ => D.length - (intOf i).toNat)
        case atStart => exact show TkRel D xid w2 _ _ from ⟨0, Nat.zero_le _, rfl, keep (fun j _ h => by omega), keep (Below.refl _ _)⟩
        case round =>
          obtain ⟨k, hkl, rfl, HL, HG⟩ := hrel
          have c0 := (HB.out.fits (Grow.trans HG2.out HG.out)).cell 0 (by simp)
          simp only [List.getElem_cons_zero] at c0
          by_cases hlt : k < D.length
          · obtain ⟨g', cap', e, -, ⟨-, -, -, d3, -⟩, -⟩ := HCs.out wr (Grow.trans HG2.out HG.out) k hlt
            simp only [Value.slice.injEq, Option.some.injEq, Addr.mk.injEq] at e
            obtain ⟨⟨rfl, -, -⟩, -, rfl⟩ := e
            have hlst : ∀ j (h : j < D.length), j < k + 1 → D[k].1.2.xid ≠ xid → D[j].1.2.xid ≠ xid := fun j h h1 h2 => by
              rcases Nat.lt_or_ge j k with h3 | h3
              · exact HL.out j h h3
              · have : j = k := by omega
                subst this; exact h2
            have hyes : D[k].1.2.xid = xid → xid ∈ runT (stD D) := fun e => (mem_runD (by omega)).2 ⟨k, hlt, e⟩
            have HLs := keep hlst
            have HYes := keep hyes
            clear hlst hyes
            generalize D[k].1.2.xid = x at *
            by_cases hx : x = xid
            · have e1 : (x == xid) = true := by simp [hx]
              have hin := HYes.out hx
              have HIn := keep hin
              clear hin hx
              go_wp2_with fail
              go_ret
              rw [HR.out, if_pos (.inr (.inr HIn.out))]
              have hB := Grow.trans HG2.out HG.out
              exact ⟨rfl, ⟨D, H0.out.fits hB, rfl⟩, Out.of_below hB⟩
            · have e1 : (x == xid) = false := by simp [hx]
              go_wp2_with fail
              go_roundw
              case rel => exact show TkRel D xid w2 _ _ from ⟨k + 1, by omega, by go_num, keep (fun j h h1 => HLs.out j h h1 hx), HG⟩
              case measure => simp [intOf]; omega
          · have e : k = D.length := by omega
            subst e
            have hnin : ¬ xid ∈ runT (stD D) := by
              rw [mem_runD (by omega)]
              rintro ⟨j, hj, he⟩
              exact HL.out j hj hj he
            have HNin := keep hnin
            clear hnin
            obtain ⟨g', cap', e, -, ⟨-, -, -, d3, -⟩, hfr⟩ := HCs.out wr (Grow.trans HG2.out HG.out) i hk
            rw [HEq.out] at d3
            simp only [Value.slice.injEq, Option.some.injEq, Addr.mk.injEq] at e
            obtain ⟨⟨rfl, -, -⟩, -, rfl⟩ := e
            dsimp only at d3
            have f3 := hfr (i * 7 + 3)
            clear hfr
            go_wp2_with fail
            go_ret
            rw [HR.out, if_neg (fun h => h.elim (fun h => by omega) fun h => h.elim (fun h => h hZ) HNin.out)]
            have hB := Grow.trans HG2.out HG.out
            have hbut := (But.refl g wr).setCell (i * 7 + 3) (.int .i64 xid)
            have hD := H0.out.fits hB
            have hoo := own_keeps HO.out fun q _ hl => hB.block q hl
            refine ⟨rfl, ⟨D.set i ((who, { t with xid := xid }), D[i].2), ?_, ?_⟩, (Out.of_below hB).trans (Out.of_but hbut HGO.out)⟩
            · exact DocT.set (y := ((who, { t with xid := xid }), D[i].2)) hD hk (HB.out.fits hB) HGO.out hoo rfl (by rw [HEq.out]) (dr_set hoo i hk 3 (by decide) _ _ (by unfold drC; rw [HEq.out]; rfl)) hbut
            · rw [stD_set, HSet.out]
      · have hz2 : (t.xid != 0) = true := by simp [hZ]
        rw [if_pos (.inr (.inl hZ))]
        go_enter Try.func18, Try.ntmps18
        go_upto_region 2 with (go_at_call 35; refine HAt.out.mono ?_; rintro e w2 ⟨rfl, hb2⟩; have HG2 := keep hb2; clear hb2)
        obtain ⟨g', cap', e, -, ⟨-, -, -, d3, -⟩, -⟩ := HCs.out w2 HG2.out i hk
        rw [HEq.out] at d3
        simp only [Value.slice.injEq, Option.some.injEq, Addr.mk.injEq] at e
        obtain ⟨⟨rfl, -, -⟩, -, rfl⟩ := e
        have c0 := (HB.out.fits HG2.out).cell 0 (by simp)
        simp only [List.getElem_cons_zero] at c0
        dsimp only at d3
        go_wp2_with fail
        go_ret
        exact ⟨rfl, ⟨D, H0.out.fits HG2.out, rfl⟩, Out.of_below HG2.out⟩

end Go.Proofs.Ytgijmlienolhpaa
