
/- TxnBegun's walk. -/
import Derived.Test.YtgijmlienolhpaaTla
import Derived.Deep.CutRange
namespace Go.Proofs.Ytgijmlienolhpaa
open Go.RowKit Go.Maps

set_option maxRecDepth 100000 in
set_option maxHeartbeats 4000000 in
theorem begun_law (v : Value) (ps : List (Cl × Value)) (w_ : World) (hin : OpsIn w_ v ps) (hn : ps.length ≤ 4398046511104) :
    Calls Try.prog 7 #[v] w_ fun e w' => e = .returned (.bool true) ∧ Below w_.heap.size w_ w' := by
  obtain ⟨va, vc, rfl⟩ := row_sl hin.row
  have HIn := keep hin
  have HN := keep hn
  have HGd := keep (fun k hk => stA_good ps (fun p hp => (hin.each p hp).2.1) k hk)
  clear hin
  go_enter Try.func7, Try.ntmps7
  go_wp2_with (go_at_call 8; refine (new_any w_).mono ?_; rintro e w1 ⟨tb, rfl, hT1, hB1⟩; have HT1 := keep hT1; have HB1 := keep hB1; clear hT1 hB1)
  go_loopw [4] (fun i wr => DoRel ps tb w_ i wr) (fun i _ => ps.length - (intOf i).toNat)
  case atStart => exact show DoRel ps tb w_ _ _ from ⟨0, [], Nat.zero_le _, rfl, HT1, keep rfl, HB1⟩
  case round =>
    obtain ⟨k, T, hkl, rfl, HT, HS, HB⟩ := hrel
    by_cases hlt : k < ps.length
    · have hop := HIn.out.fits HB.out
      obtain ⟨c, off, cap2, e, c0, c1, c2, c3, c4, c5⟩ := hop.at_ hlt
      simp only [Value.slice.injEq] at e
      obtain ⟨rfl, _, rfl⟩ := e
      have hea := hop.each ps[k] (List.getElem_mem hlt)
      have hdo := does_any (fun k => w_.heap.size ≤ k) tb T ps[k].1 ps[k].2 hea.2.2 wr HT.out (fun k hk => Nat.le_trans HB.out.size hk) hea.1 hea.2.1 k (by have := HN.out; omega) (by rw [HS.out]; exact HGd.out k hkl)
      rw [HS.out, ← stA_succ ps k hlt] at hdo
      unfold opC at hdo
      generalize ps[k] = p at *
      obtain ⟨⟨ask, who, n, flag, next, act⟩, sv⟩ := p
      dsimp only at c0 c1 c2 c3 c4 c5 hdo
      have HDo := keep hdo
      have HS9 := keep HB.out.size
      clear hop hea hdo
      go_wp2_with (go_at_call 9; refine HDo.out.mono ?_; rintro e w2 ⟨rfl, ⟨T2, hT2, hS2⟩, ho2⟩; have HT2 := keep hT2; have HS2 := keep hS2; have HB2 := keep (HB.out.trans (ho2.below HS9.out)); clear hT2 hS2 ho2)
      go_roundw
      case rel => exact show DoRel ps tb w_ _ _ from ⟨k + 1, T2, by omega, by first | go_num | simp, HT2, HS2, HB2⟩
      case measure => simp [intOf]; omega
    · have e : k = ps.length := by omega
      subst e
      have hG := HGd.out _ hkl
      generalize stA ps ps.length = S at *
      have hN := HN.out
      have hbl : (begunT S).length ≤ S.length := begunT_len S
      have hGl := hG.len
      have hrd := rd_calls HT.out HS.out hG HN.out
      have hpos : ∀ b ∈ begunT S, 0 ≤ b.2 := by
        intro b hb
        obtain ⟨x, hx, _, rfl⟩ := mem_begs.1 ((begunT_perm _).mem_iff.1 hb)
        have := hG.fit.pos x hx
        dsimp only
        omega
      have hin2 : ∀ who t, findT who S = some t → t.xid ≠ 0 → (t.xid, t.last) ∈ begunT S := fun who t h h0 => (begunT_perm _).mem_iff.2 (mem_begs.2 ⟨_, findT_mem h, h0, rfl⟩)
      have HRd := keep hrd
      have HPos := keep hpos
      have HIn2 := keep hin2
      clear hG HT hpos hin2 HS hkl hlt hrd
      have hg1 : decide (S.length < (begunT S).length) = false := decide_eq_false (by omega)
      have hln : (begunT S).length ≤ 4398046511104 := by omega
      clear hbl hGl
      have HBA := keep HB.out.size
      go_wp2_with (first
        | (go_at_call 27; refine (HRd.out.beg _ (Below.refl _ _)).mono ?_; rintro e w2 ⟨ba, bc, rfl, hrow2, hb2, -⟩; have HR2 := keep hrow2; have HB2 := keep hb2; clear hrow2 hb2)
        | (go_at_call 12; refine (HRd.out.run _ HB2.out).mono ?_; rintro e w3 ⟨la, lc, rfl, hrow3, hb3, -⟩; have HR3 := keep hrow3; have HB3 := keep (Grow.trans HB2.out hb3); have HG3 := keep hb3; clear hrow3 hb3)
        | (go_at_call 26; refine (HRd.out.snp _ HB3.out).mono ?_; rintro e w4 ⟨sa, sc, rfl, -, hb4⟩; have HB4 := keep (Grow.trans HB3.out hb4); have HG4 := keep hb4; clear hb4))
      have HOf4 := keep (fun who (hw : (Lit.int .i64 who).wf = true) u (hu : Grow w4 u) => HRd.out.of who hw u (Grow.trans HB4.out hu))
      have HB9 := keep (HB.out.trans (HB4.out.mono HBA.out))
      have HR9 := keep (Row.fits HR2.out (Grow.trans HG3.out HG4.out))
      have hl9 := Row.fits HR3.out HG4.out
      unfold runT at hl9
      have HL9 := keep hl9
      clear hl9 HRd hg1 HB4 HG3 HG4 HR2 HR3 HB2 HB3
      generalize begunT S = l at *
      go_loopw [7] (fun i wr => RdRel l.length w4 i wr) (fun i _ => l.length - (intOf i).toNat)
      case atStart => exact show RdRel l.length w4 _ _ from ⟨0, Nat.zero_le _, rfl, keep (Below.refl _ _)⟩
      case round =>
        obtain ⟨k, hkl, rfl, HG⟩ := hrel
        by_cases hlt : k < l.length
        · obtain ⟨c, off, cap2, e, c0, c1⟩ := bg_at (Row.fits HR9.out HG.out) rfl hlt
          simp only [Value.slice.injEq] at e
          obtain ⟨rfl, _, rfl⟩ := e
          obtain ⟨c', off', cap', e, d0⟩ := ints_at (Row.fits HL9.out HG.out) (by simp) (k := k) (by simpa using hlt)
          simp only [Value.slice.injEq] at e
          obtain ⟨rfl, _, rfl⟩ := e
          simp only [List.getElem_map] at d0
          have hp := HPos.out l[k] (List.getElem_mem hlt)
          generalize l[k] = z at *
          have hp2 : decide (z.2 < 0) = false := decide_eq_false (by omega)
          clear hp
          go_upto_region 15 with fail
          go_quiet (fail)
          go_wp2_with fail
          go_roundw
          case rel => exact show RdRel l.length w4 _ _ from ⟨k + 1, by omega, by first | go_num | simp, keep (grow_drewN HG.out _)⟩
          case measure => simp [intOf]; omega
        · have e : k = l.length := by omega
          subst e
          go_wp2_with fail
          go_loopw [8] (fun i wr => RdRel ps.length w4 i wr) (fun i _ => ps.length - (intOf i).toNat)
          case atStart => exact show RdRel ps.length w4 _ _ from ⟨0, Nat.zero_le _, rfl, HG⟩
          case round =>
            clear HG
            obtain ⟨k, hkl, rfl, HG⟩ := hrel
            by_cases hlt : k < ps.length
            · have hop := (HIn.out.fits (HB9.out.mono (Nat.le_refl _))).fits HG.out
              obtain ⟨c, off, cap2, e, -, c1, -⟩ := hop.at_ hlt
              simp only [Value.slice.injEq] at e
              obtain ⟨rfl, _, rfl⟩ := e
              have hof := HOf4.out ps[k].1.who (hop.each _ (List.getElem_mem hlt)).2.2 wr HG.out
              unfold OfS at hof
              have hi2 := HIn2.out ps[k].1.who
              generalize ps[k].1.who = who at *
              generalize findT who S = o at *
              have HOfk := keep hof
              have HI2 := keep hi2
              clear hof hi2 hop
              go_upto_region 21 with (go_at_call 10; refine HOfk.out.mono ?_; rintro e w5 ⟨av, rfl, hrow5, hb5⟩; obtain ⟨a5, c5, rfl⟩ := row_sl hrow5.1.weak; have HG5 := keep (Grow.trans HG.out hb5); clear hrow5 hb5; unfold tnV)
              have hI3 : o.isSome = true → (o.getD tnZ).xid ≠ 0 → ((o.getD tnZ).xid, (o.getD tnZ).last) ∈ l := by
                cases o with
                | none => simp
                | some t => intro _ h; exact HI2.out t rfl h
              generalize o.isSome = ok at *
              generalize o.getD tnZ = t at *
              clear HI2 HOfk
              have HI3 := keep hI3
              clear hI3
              obtain ⟨w6, hw6⟩ : ∃ w6, w6 = w5.alloc (.cells #[.int .i64 t.next, .slice a5 t.act.length c5, .int .i64 t.xid, .int .i64 t.first, .int .i64 t.last, .int .i64 t.undoes] 32) := ⟨_, rfl⟩
              have hg6 : Grow w5 w6 := by subst hw6; exact (Grow.refl w5).alloc _
              have hx6 : Blk w6 w5.heap.size 32 [.int .i64 t.next, .slice a5 t.act.length c5, .int .i64 t.xid, .int .i64 t.first, .int .i64 t.last, .int .i64 t.undoes] := by subst hw6; exact Blk.new w5 _ [_, _, _, _, _, _]
              rw [← hw6]
              have HX6 := keep hx6
              have HG6 := keep (Grow.trans HG5.out hg6)
              clear hw6 hg6 hx6 HG5
              go_wp2_with fail
              go_loopw [11, 12] (fun b i wr => IsRel l t.xid t.last w6 b i wr) (fun _ i _ => l.length - (intOf i).toNat)
              case atStart => exact show IsRel l t.xid t.last w6 _ _ _ from ⟨0, Nat.zero_le _, by simp, rfl, keep (Below.refl _ _)⟩
              case round =>
                obtain ⟨j, hjl, rfl, rfl, HGj⟩ := hrel
                obtain ⟨-, -, x2, -, x4, -⟩ := six_of (HX6.out.fits HGj.out)
                by_cases hltj : j < l.length
                · obtain ⟨c', off', cap', e, d0, d1⟩ := bg_at (Row.fits HR9.out (Grow.trans HG6.out HGj.out)) rfl hltj
                  simp only [Value.slice.injEq] at e
                  obtain ⟨rfl, -, rfl⟩ := e
                  have hst := is_step l t.xid t.last j hltj
                  generalize l[j] = z at *
                  generalize ((l.take j).any fun z => z.1 == t.xid && z.2 == t.last) = q at *
                  have HSt := keep hst
                  clear hst
                  cases q with
                  | true =>
                    go_upto_region 25 with fail
                    go_quiet (fail)
                    go_wp2_with fail
                    go_roundw
                    case rel => exact show IsRel l t.xid t.last w6 _ _ _ from ⟨j + 1, by omega, by rw [HSt.out]; rfl, by first | go_num | simp, keep (grow_drewN HGj.out _)⟩
                    case measure => simp [intOf]; omega
                  | false =>
                    by_cases hz1 : z.1 = t.xid
                    · have e1 : (z.1 == t.xid) = true := by simp [hz1]
                      have hst := HSt.out
                      rw [e1] at hst
                      have HSt := keep hst
                      clear hz1 hst
                      generalize hq2 : (z.2 == t.last) = q2 at *
                      go_upto_region 25 with fail
                      go_quiet (fail)
                      go_wp2_with fail
                      go_roundw
                      case rel => exact show IsRel l t.xid t.last w6 _ _ _ from ⟨j + 1, by omega, by rw [HSt.out]; simp, by first | go_num | simp, keep (grow_drewN HGj.out _)⟩
                      case measure => simp [intOf]; omega
                    · have e1 : (z.1 == t.xid) = false := by simp [hz1]
                      have hst := HSt.out
                      rw [e1] at hst
                      have HSt := keep hst
                      clear hz1 hst
                      go_upto_region 25 with fail
                      go_quiet (fail)
                      go_wp2_with fail
                      go_roundw
                      case rel => exact show IsRel l t.xid t.last w6 _ _ _ from ⟨j + 1, by omega, by rw [HSt.out]; rfl, by first | go_num | simp, keep (grow_drewN HGj.out _)⟩
                      case measure => simp [intOf]; omega
                · have e : j = l.length := by omega
                  subst e
                  rw [List.take_length] at *
                  have hfin : ok = true → t.xid ≠ 0 → (l.any fun z => z.1 == t.xid && z.2 == t.last) = true := by
                    intro h1 h2
                    rw [List.any_eq_true]
                    exact ⟨_, HI3.out h1 h2, by simp⟩
                  generalize (l.any fun z => z.1 == t.xid && z.2 == t.last) = q at *
                  cases ok with
                  | false =>
                    clear hfin
                    go_wp2_with fail
                    go_roundw
                    case rel => exact show RdRel ps.length w4 _ _ from ⟨k + 1, by omega, by first | go_num | simp, keep (Grow.trans HG6.out HGj.out)⟩
                    case measure => simp [intOf]; omega
                  | true =>
                    by_cases hz0 : t.xid = 0
                    · have e1 : (t.xid != 0) = false := by simp [hz0]
                      clear hfin hz0
                      go_wp2_with fail
                      go_roundw
                      case rel => exact show RdRel ps.length w4 _ _ from ⟨k + 1, by omega, by first | go_num | simp, keep (Grow.trans HG6.out HGj.out)⟩
                      case measure => simp [intOf]; omega
                    · have e1 : (t.xid != 0) = true := by simp [hz0]
                      have e2 := hfin rfl hz0
                      subst e2
                      clear hfin hz0
                      go_wp2_with fail
                      go_roundw
                      case rel => exact show RdRel ps.length w4 _ _ from ⟨k + 1, by omega, by first | go_num | simp, keep (Grow.trans HG6.out HGj.out)⟩
                      case measure => simp [intOf]; omega
            · have e : k = ps.length := by omega
              subst e
              go_wp2_with (go_at_call 13; refine (awake_any wr).mono ?_; rintro e w9 ⟨rfl, hb9⟩)
              go_ret
              exact ⟨rfl, HB9.out.trans ((Grow.trans HG.out hb9).mono HB9.out.size)⟩
theorem begun_top (v : Value) (ps : List (Cl × Value)) (w_ : World) (hin : OpsIn w_ v ps) (hn : ps.length ≤ 2199023255552) : Calls Try.prog 7 #[v] w_ fun e w' => e = .returned (.bool true) ∧ Below w_.heap.size w_ w' := begun_law v ps w_ hin (by omega)

end Go.Proofs.Ytgijmlienolhpaa
