
/- Running and Oldest of a table. -/
import Derived.Test.YtgijmlienolhpaaTs3
import Derived.Deep.CutRange
namespace Go.Proofs.Ytgijmlienolhpaa
open Go.RowKit Go.Maps Go.Shelf

theorem infoIntT : (Try.prog.info? 3).map (fun i => (i.zero, i.size, i.bytes)) = some (some (.int .i64 0), 1, 8) := by kernel_rfl
theorem bg_at {w : World} {t n : Nat} {v : Value} {l : List (Int × Int)} (h : Row w t v n (bgCells l)) (hn : n = l.length) {k : Nat} (hk : k < l.length) : ∃ c off cap, v = .slice (some ⟨c, off, none⟩) n cap ∧ w.cell? ⟨c, off + k * 2, none⟩ = some (.int .i64 l[k].1) ∧ w.cell? ⟨c, off + k * 2 + 1, none⟩ = some (.int .i64 l[k].2) := by
  rcases h with ⟨h0, _⟩ | ⟨c, off, cap, rfl, hc⟩
  · omega
  · have h1 := hc (k * 2) (by rw [bgCells_length]; omega)
    have h2 := hc (k * 2 + 1) (by rw [bgCells_length]; omega)
    have g1 := bgCells_get l (k * 2) (by omega)
    have g2 := bgCells_get l (k * 2 + 1) (by omega)
    rw [List.getElem?_eq_getElem (by rw [bgCells_length]; omega)] at g1 g2
    have e1 : k * 2 / 2 = k := by omega
    have e2 : (k * 2 + 1) / 2 = k := by omega
    have e3 : k * 2 % 2 = 0 := by omega
    have e4 : (k * 2 + 1) % 2 = 1 := by omega
    simp only [e1, e3] at g1
    simp only [e2, e4] at g2
    refine ⟨c, off, cap, rfl, ?_, ?_⟩
    · rw [h1, g1]; simp [bgC]
    · rw [show off + k * 2 + 1 = off + (k * 2 + 1) by omega, h2, g2]; simp [bgC]

theorem cell_one_newT (w : World) (x : Value) (t : TypeId) : ∀ j u, [x][j]? = some u → (w.alloc (.cells #[x] t)).cell? ((⟨w.heap.size, 0, none⟩ : Addr).add j) = some u := by
  intro j u hj
  match j, hj with
  | 0, hj => simp at hj; subst hj; simp [Addr.add]
def RunRel (l : List (Int × Int)) (w1 : World) (x i : Value) (wr : World) : Prop := ∃ (k : Nat) (a : Option Addr) (cap : Nat), k ≤ l.length ∧ x = .slice a k cap ∧ i = .int .i64 k ∧
  Kept (wr.ownsRow w1.heap.size 3 1 (.slice a k cap) k (iCells ((l.take k).map (·.1)))) ∧ Kept (Below w1.heap.size w1 wr)
def RunPost (T : Tr) (w : World) (e : Ending) (w' : World) : Prop := ∃ v, e = .returned v ∧ Ints w' v (runT (stT T)) ∧ Below w.heap.size w w' ∧ FreshB w.heap.size v

set_option maxRecDepth 100000 in
set_option maxHeartbeats 4000000 in
theorem running_any (O : Nat → Prop) (tb : Nat) (T : Tr) (w_ : World) (h : TabT w_ O tb T) (hL : T.length ≤ 4398046511104) (K : Nat) (hF : Fit K (stT T)) (hN : ∀ x ∈ T, x.2.2.xid ≤ 9223372036854775807) :
    Calls Try.prog 12 #[.pointer (some ⟨tb, 0, none⟩)] w_ (RunPost T w_) := by
  obtain ⟨iI, hiI, hzI0, hzI1, hzI2⟩ := info_parts infoIntT
  have hall := begun_any O tb T w_ h hL K hF hN
  have hl : (begunT (stT T)).length ≤ 4398046511104 := by
    rw [(begunT_perm _).length_eq]
    exact Nat.le_trans (begs_len _) (by simpa [stT] using hL)
  clear h hF hN hL
  have hd : runT (stT T) = (begunT (stT T)).map (·.1) := rfl
  unfold RunPost
  unfold BgPost at hall
  rw [hd]
  clear hd
  generalize begunT (stT T) = l at *
  go_enter Try.func12, Try.ntmps12
  go_wp2_with (go_at_call 27; refine hall.mono ?_; rintro e w1 ⟨v, rfl, hrow, hb1, -⟩; obtain ⟨va, vc, rfl⟩ := row_sl hrow; have HR := keep hrow; have HB1 := keep hb1; clear hrow hb1)
  clear hall
  go_loopw [3, 9] (fun x i wr => RunRel l w1 x i wr) (fun _ i _ => l.length - (intOf i).toNat)
  case atStart => exact show RunRel l w1 _ _ _ from ⟨0, none, 0, Nat.zero_le _, rfl, rfl, keep (by simpa [iCells] using World.ownsRow_nil _ _ _ _), keep (Below.refl _ _)⟩
  case round =>
    obtain ⟨k, a, cap, hkl, rfl, rfl, HO, HG⟩ := hrel
    by_cases hlt : k < l.length
    · obtain ⟨c, off, cap2, e, hc1, hc2⟩ := bg_at (Row.fits HR.out HG.out) rfl hlt
      simp only [Value.slice.injEq] at e
      obtain ⟨rfl, _, rfl⟩ := e
      have hst : iCells ((l.take (k + 1)).map (·.1)) = iCells ((l.take k).map (·.1)) ++ [.int .i64 l[k].1] := by
        rw [List.take_succ_eq_append_getElem hlt, List.map_append]; unfold iCells; rw [List.map_append]; rfl
      have HSt := keep hst
      have hsz := HG.out.size
      generalize l[k] = x at *
      obtain ⟨x1, x2⟩ := x
      dsimp only at hc1 hc2
      clear hst
      go_upto_region 5 with fail
      obtain ⟨w2, hw2⟩ : ∃ w2, w2 = wr.alloc (.cells #[.int .i64 x1, .int .i64 x2] 59) := ⟨_, rfl⟩
      have hg2 : Grow wr w2 := by subst hw2; exact (Grow.refl wr).alloc _
      have hb2 : Blk w2 wr.heap.size 59 [.int .i64 x1, .int .i64 x2] := by subst hw2; exact Blk.new wr _ [_, _]
      rw [← hw2]
      have hz2 := hg2.size
      obtain ⟨z0, z1⟩ : w2.cell? ⟨wr.heap.size, 0, none⟩ = some (.int .i64 x1) ∧ w2.cell? ⟨wr.heap.size, 1, none⟩ = some (.int .i64 x2) := ⟨hb2.cell 0 (by simp), hb2.cell 1 (by simp)⟩
      have HO2 := keep (owns_fitsT HO.out hg2)
      have HG2 := keep (Below.trans HG.out (Below.mono hg2 hsz))
      clear hw2 hg2 hb2 HO HG hc1 hc2
      go_wp2_with ((at_builtin; go_must (refine wpList_append_own_at _ rfl _ _ 26 rfl w1.heap.size 3 iI (.int .i64 0) 1 8 Try.underlying26 hiI hzI0 hzI1 hzI2 rfl (by decide) _ _ _ rfl (HO2.out.alloc _) ⟨w2.heap.size, 0, none⟩ 1 1 [.int .i64 x1] rfl rfl (cell_one_newT _ _ _) (by intro u hu; simp at hu; subst hu; rfl) (by unfold maxLen; omega) (by omega) (by simp; omega) ?_); intro v' xa hown' hgrow _ _; obtain ⟨a', cap', rfl⟩ := own_form hown'))
      have HG9 := keep (Below.grown (Below.alloc HG2.out (by omega) _) hgrow (by simp; omega) (fun g e => (HO2.out.lt g e).1))
      have HO9 := keep hown'
      clear hown' hgrow
      go_roundw
      case rel => exact show RunRel l w1 _ _ _ from ⟨k + 1, a', cap', by omega, rfl, by first | go_num | simp, keep (by rw [HSt.out]; exact HO9.out), HG9⟩
      case measure => simp [intOf]; omega
    · have e : k = l.length := by omega
      subst e
      rw [List.take_length] at *
      go_wp2_with fail
      go_ret
      refine ⟨_, rfl, ?_, HB1.out.trans (HG.out.mono HB1.out.size), (own_fresh HO.out).mono HB1.out.size⟩
      have h9 := own_rowS HO.out
      unfold Ints
      rw [List.length_map]
      exact h9.weak

theorem old_step (T : Tr) (k : Nat) (hk : k < T.length) : oldT (stT (T.take (k + 1))) = if T[k].2.2.first ≠ 0 ∧ (oldT (stT (T.take k)) = 0 ∨ T[k].2.2.first < oldT (stT (T.take k))) then T[k].2.2.first else oldT (stT (T.take k)) := by
  rw [take_st T k hk]
  unfold oldT
  rw [List.foldl_append]
  rfl
def OldRel (T : Tr) (w1 : World) (x i : Value) (wr : World) : Prop := ∃ (k : Nat), k ≤ T.length ∧ x = .int .i64 (oldT (stT (T.take k))) ∧ i = .int .i64 k ∧ wr = w1

set_option maxRecDepth 100000 in
set_option maxHeartbeats 4000000 in
theorem oldest_any (O : Nat → Prop) (tb : Nat) (T : Tr) (w_ : World) (h : TabT w_ O tb T) (hL : T.length ≤ 4398046511104) :
    Calls Try.prog 11 #[.pointer (some ⟨tb, 0, none⟩)] w_ fun e w' => e = .returned (.int .i64 (oldT (stT T))) ∧ Below w_.heap.size w_ w' := by
  have hall := all_any O tb T w_ h hL
  have HT0 := keep h
  clear h
  go_enter Try.func11, Try.ntmps11
  go_wp2_with (go_at_call 33; refine hall.mono ?_; rintro e w1 ⟨v, rfl, hrow, hb1⟩; obtain ⟨va, vc, rfl⟩ := row_sl hrow; have HR := keep hrow; have HB1 := keep hb1; clear hrow hb1)
  clear hall
  go_loopw [3, 9] (fun x i wr => OldRel T w1 x i wr) (fun _ i _ => T.length - (intOf i).toNat)
  case atStart => exact show OldRel T w1 _ _ _ from ⟨0, Nat.zero_le _, rfl, rfl, rfl⟩
  case round =>
    obtain ⟨k, hkl, rfl, rfl, rfl⟩ := hrel
    by_cases hlt : k < T.length
    · have hr := HR.out
      rcases hr with ⟨h0, _⟩ | ⟨c, off, cap2, e, hcl⟩
      · omega
      simp only [Value.slice.injEq] at e
      obtain ⟨rfl, _, rfl⟩ := e
      have hcell := hcl k (by simpa using hlt)
      simp only [List.getElem_map] at hcell
      have hst := old_step T k hlt
      have hrw := HT0.out.rows T[k] (List.getElem_mem hlt)
      generalize oldT (stT (T.take k)) = n at *
      generalize T[k] = x at *
      obtain ⟨who, b, t⟩ := x
      dsimp only at hcell hst hrw
      obtain ⟨-, av, hbk, -⟩ := hrw
      have hbk2 := hbk.fits HB1.out
      unfold tnC at hbk2
      obtain ⟨y0, y1, y2, y3, y4, y5, y6, _⟩ := seven_of hbk2
      have HSt := keep hst
      unfold encP at hcell
      clear hst hbk hbk2 hcl
      by_cases hz : t.first = 0
      · have hz2 : (t.first != 0) = false := by simp [hz]
        have hst := HSt.out
        rw [if_neg (fun h => h.1 hz)] at hst
        have HSt := keep hst
        clear hz hst
        go_wp2_with fail
        go_roundw
        case rel => exact show OldRel T _ _ _ _ from ⟨k + 1, by omega, by rw [HSt.out], by first | go_num | simp, rfl⟩
        case measure => simp [intOf]; omega
      · have hz2 : (t.first != 0) = true := by simp [hz]
        by_cases hn : n = 0
        · have hn2 : (n == 0) = true := by simp [hn]
          have hst := HSt.out
          rw [if_pos ⟨hz, .inl hn⟩] at hst
          have HSt := keep hst
          clear hz hst hn
          go_wp2_with fail
          go_roundw
          case rel => exact show OldRel T _ _ _ _ from ⟨k + 1, by omega, by rw [HSt.out], by first | go_num | simp, rfl⟩
          case measure => simp [intOf]; omega
        · have hn2 : (n == 0) = false := by simp [hn]
          by_cases hc : t.first < n
          · have hst := HSt.out
            rw [if_pos ⟨hz, .inr hc⟩] at hst
            have HSt := keep hst
            clear hz hst hn
            go_wp2_with fail
            go_roundw
            case rel => exact show OldRel T _ _ _ _ from ⟨k + 1, by omega, by rw [HSt.out], by first | go_num | simp, rfl⟩
            case measure => simp [intOf]; omega
          · have hst := HSt.out
            rw [if_neg (fun h => h.2.elim hn hc)] at hst
            have HSt := keep hst
            clear hz hst hn
            go_wp2_with fail
            go_roundw
            case rel => exact show OldRel T _ _ _ _ from ⟨k + 1, by omega, by rw [HSt.out], by first | go_num | simp, rfl⟩
            case measure => simp [intOf]; omega
    · have e : k = T.length := by omega
      subst e
      rw [List.take_length] at *
      go_wp2_with fail
      go_ret
      exact ⟨rfl, HB1.out⟩

end Go.Proofs.Ytgijmlienolhpaa
