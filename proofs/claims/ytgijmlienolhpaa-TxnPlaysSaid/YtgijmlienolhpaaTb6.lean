
/- Take, Logged. -/
import Derived.Test.YtgijmlienolhpaaTb5
import Derived.Test.YtgijmlienolhpaaTs4
namespace Go.Proofs.Ytgijmlienolhpaa
open Go.RowKit Go.Maps

def setR (who : Int) (t : Tn) (T : Tr) : Tr := T.map fun x => if x.1 = who then (who, x.2.1, t) else x
theorem st_set (who : Int) (t : Tn) (T : Tr) : stT (setR who t T) = setT who t (stT T) := by
  unfold stT setR setT
  rw [List.map_map, List.map_map]
  refine List.map_congr_left fun x _ => ?_
  simp only [Function.comp]
  by_cases h : x.1 = who <;> simp [h]
theorem lk_set (who : Int) (t : Tn) (T : Tr) : lkT (setR who t T) = lkT T := by
  unfold lkT setR
  rw [List.map_map]
  refine List.map_congr_left fun x _ => ?_
  simp only [Function.comp]
  by_cases h : x.1 = who <;> simp [h]
theorem blk_ne {w : World} {b c t u : Nat} {cs ds : List Value} (h : Blk w b t cs) (k : Blk w c u ds) (hn : t ≠ u) : b ≠ c := by
  rintro rfl
  unfold Blk at h k
  rw [h] at k
  simp at k
  exact hn k.2
theorem TabT.set {w w' : World} {O : Nat → Prop} {tb b : Nat} {T : Tr} {who : Int} {t0 t : Tn} {av : Value} (h : TabT w O tb T) (hx : (who, b, t0) ∈ T) (hB : Blk w b 70 (tnC who t0 av)) (hra : RowO w O av t0.act) (hact : t.act = t0.act)
    (hB' : Blk w' b 70 (tnC who t av)) (hb : But b w w') : TabT w' O tb (setR who t T) := by
  obtain ⟨m, hm, hmO, hown⟩ := h.mp
  have hkeys : ∀ x ∈ T, x.1 = who → x = (who, b, t0) := by
    intro x hxT e
    rcases Decidable.em (x.2.1 = b) with h1 | h1
    · by_cases h2 : x = (who, b, t0)
      · exact h2
      · exact absurd h1 (pair_of h.apart (fun h => Ne.symm h) hxT hx h2)
    · have h2 : x ≠ (who, b, t0) := fun e => h1 (by rw [e])
      have := pair_of (R := fun a b : Int × Nat × Tn => a.1 ≠ b.1) (h.up.imp fun h => by omega) (fun h => Ne.symm h) hxT hx h2
      exact absurd e this
  have hmne : m ≠ b := by
    rintro rfl
    unfold Blk at hB
    exact owns_not hown hB
  refine ⟨?_, ?_, h.base, ⟨m, hm.but hb (blk_ne hm hB (by decide)), hmO, ?_⟩, fun x hxs => ?_⟩
  · unfold setR
    rw [List.pairwise_map]
    refine h.up.imp fun {a b} hab => ?_
    have e : ∀ x : Int × Nat × Tn, (if x.1 = who then (who, x.2.1, t) else x).1 = x.1 := by
      intro x
      by_cases hx : x.1 = who
      · rw [if_pos hx]; exact hx.symm
      · rw [if_neg hx]
    rw [e, e]; exact hab
  · unfold setR
    rw [List.pairwise_map]
    refine h.apart.imp fun {a b} hab => ?_
    have e : ∀ x : Int × Nat × Tn, (if x.1 = who then (who, x.2.1, t) else x).2.1 = x.2.1 := by
      intro x
      by_cases hx : x.1 = who
      · rw [if_pos hx]
      · rw [if_neg hx]
    rw [e, e]; exact hab
  · rw [lk_set, show (setR who t T).length = T.length by simp [setR]]
    exact owns_keeps hown (hb.block _ (owns_lt hown) hmne)
  · unfold setR at hxs
    obtain ⟨y, hy, rfl⟩ := List.mem_map.1 hxs
    by_cases he : y.1 = who
    · rw [if_pos he, hkeys y hy he]
      refine ⟨(h.rows _ hx).1, av, hB', ?_⟩
      show RowO w' O av t.act
      rw [hact]
      exact rowO_but hra hB (by decide) hb
    · rw [if_neg he]
      obtain ⟨a, av', c, d⟩ := h.rows y hy
      have hne : y.2.1 ≠ b := fun e => pair_of h.apart (fun h => Ne.symm h) hy hx (fun e2 => he (by rw [e2])) e
      exact ⟨a, av', c.but hb hne, rowO_but d hB (by decide) hb⟩

theorem contains_ints (S : List Int) (v : Value) (x : Int) (w : World) (h : Ints w v S) (hl : S.length ≤ 4398046511104) :
    Calls Try.prog 36 #[v, .int .i64 x] w fun e w' => e = .returned (.bool (decide (x ∈ S))) ∧ w' = w := by
  rcases h with ⟨h1, _, a, cap, rfl⟩ | ⟨c, off, cap, rfl, hc⟩
  · have hS : S = [] := List.eq_nil_of_length_eq_zero h1
    subst hS
    exact (Try.slices_Contains_int_empty a cap x w).mono fun e w' h => by simpa using h
  · refine (Try.slices_Contains_int c off S.length cap S x w (Nat.le_refl _) (by omega) ?_).mono ?_
    · intro j hj
      rw [hc j (by simpa [iCells] using hj)]
      simp [iCells, hj]
    · intro e w' h
      simpa using h

set_option maxRecDepth 100000 in
set_option maxHeartbeats 4000000 in
theorem take_any (O : Nat → Prop) (tb : Nat) (T : Tr) (who xid : Int) (hw : (Lit.int .i64 who).wf = true) (w_ : World) (h : TabT w_ O tb T) (hL : T.length ≤ 4398046511104) (K : Nat) (hF : Fit K (stT T)) (hN : ∀ x ∈ T, x.2.2.xid ≤ 9223372036854775807) :
    Calls Try.prog 17 #[.pointer (some ⟨tb, 0, none⟩), .int .i64 who, .int .i64 xid] w_ (CodePost O tb (takeT who xid (stT T)) w_) := by
  have hd : takeT who xid (stT T) = match atT who T with | none => (stT T, 182) | some x => if xid < 1 ∨ x.2.2.xid ≠ 0 ∨ xid ∈ runT (stT T) then (stT T, 1) else (setT who { x.2.2 with xid := xid } (stT T), 0) := by
    unfold takeT
    rw [findT_st]
    unfold atT
    cases T.find? fun x => x.1 == who <;> rfl
  rw [hd]
  clear hd
  have hf := find_any O tb T who hw w_ h
  have hrun := running_any O tb T w_ h hL K hF hN
  have hrl : (runT (stT T)).length ≤ 4398046511104 := by
    unfold runT
    rw [List.length_map, (begunT_perm _).length_eq]
    exact Nat.le_trans (begs_len _) (by simpa [stT] using hL)
  have hmem : ∀ x, atT who T = some x → x ∈ T ∧ x.1 = who := fun x e => atT_mem e
  have HSt := keep (fun t => st_set who t T)
  have H0 := keep h
  generalize atT who T = o at *
  clear h hL hF hN
  cases o with
  | none =>
    unfold foundV foundE at hf
    dsimp only at hf
    clear hmem hrun hrl
    go_enter Try.func17, Try.ntmps17
    go_wp2_with (go_at_call 31; refine hf.mono ?_; rintro e w' ⟨rfl, rfl⟩)
    go_ret
    exact ⟨rfl, ⟨T, H0.out, rfl⟩, Out.of_below (Below.refl _ _)⟩
  | some x =>
    obtain ⟨hx, hxw⟩ := hmem x rfl
    obtain ⟨who', b, t⟩ := x
    have hr := H0.out.rows _ hx
    dsimp only at hr hxw
    subst hxw
    obtain ⟨hbO, av, hb, hra⟩ := hr
    have HX := keep hx
    have HB := keep hb
    have HRA := keep hra
    have HBO := keep hbO
    unfold foundV foundE at hf
    dsimp only at hf ⊢
    unfold tnC at hb
    obtain ⟨c0, c1, c2, c3, c4, c5, c6, f0, f1, f2, f3, f4, f5, f6⟩ := seven_of hb
    clear hmem hx hra hb hbO
    by_cases hA : xid < 1
    · rw [if_pos (.inl hA)]
      clear hrun hrl
      go_enter Try.func17, Try.ntmps17
      go_wp2_with (go_at_call 31; refine hf.mono ?_; rintro e w' ⟨rfl, rfl⟩)
      go_ret
      exact ⟨rfl, ⟨T, H0.out, rfl⟩, Out.of_below (Below.refl _ _)⟩
    · by_cases hZ : t.xid = 0
      · have hz2 : (t.xid != 0) = false := by simp [hZ]
        unfold RunPost at hrun
        have HRun := keep hrun
        clear hrun
        by_cases hC : xid ∈ runT (stT T)
        · rw [if_pos (.inr (.inr hC))]
          have hcn := fun v w h => contains_ints (runT (stT T)) v xid w h hrl
          rw [decide_eq_true hC] at hcn
          have HCn := keep hcn
          clear hC hcn hrl hZ
          go_enter Try.func17, Try.ntmps17
          go_wp2_with (first | (go_at_call 31; refine hf.mono ?_; rintro e w' ⟨rfl, rfl⟩) | (go_at_call 12; refine HRun.out.mono ?_; rintro e w2 ⟨v, rfl, hi, hb2, -⟩; obtain ⟨va, vc, rfl⟩ := row_sl hi; have HI := keep hi; have HB2 := keep hb2; clear hi hb2) | (go_at_call 36; refine (HCn.out _ _ HI.out).mono ?_; rintro e w3 ⟨rfl, rfl⟩))
          go_ret
          exact ⟨rfl, ⟨T, H0.out.fits HB2.out, rfl⟩, Out.of_below HB2.out⟩
        · rw [if_neg (fun h => h.elim hA fun h => h.elim (fun h => h hZ) hC)]
          have hcn := fun v w h => contains_ints (runT (stT T)) v xid w h hrl
          rw [decide_eq_false hC] at hcn
          have HCn := keep hcn
          clear hC hcn hrl hZ c0 c1 c3 c4 c5 c6 f0 f1 f2 f3 f4 f5 f6
          go_enter Try.func17, Try.ntmps17
          go_wp2_with (first | (go_at_call 31; refine hf.mono ?_; rintro e w' ⟨rfl, rfl⟩) | (go_at_call 12; refine HRun.out.mono ?_; rintro e w2 ⟨v, rfl, hi, hb2, -⟩; obtain ⟨va, vc, rfl⟩ := row_sl hi; have HI := keep hi; have HB2 := keep hb2; clear hi hb2; have hbb := HB.out.fits HB2.out; unfold tnC at hbb; obtain ⟨d0, d1, d2, d3, d4, d5, d6, f0, f1, f2, f3, f4, f5, f6⟩ := seven_of hbb; clear hbb) | (go_at_call 36; refine (HCn.out _ _ HI.out).mono ?_; rintro e w3 ⟨rfl, rfl⟩))
          go_ret
          have hbut := (But.refl b _).setCell (w := w3) 2 (.int .i64 xid)
          refine ⟨rfl, ⟨setR who' { t with xid := xid } T, ?_, HSt.out _⟩, (Out.of_below HB2.out).trans (Out.of_but hbut HBO.out)⟩
          exact TabT.set (H0.out.fits HB2.out) HX.out (HB.out.fits HB2.out) (HRA.out.keeps fun k _ hl => HB2.out.block k hl) rfl ((HB.out.fits HB2.out).set 2 (.int .i64 xid)) hbut
      · have hz2 : (t.xid != 0) = true := by simp [hZ]
        rw [if_pos (.inr (.inl hZ))]
        clear hrun hrl hZ
        go_enter Try.func17, Try.ntmps17
        go_wp2_with (go_at_call 31; refine hf.mono ?_; rintro e w' ⟨rfl, rfl⟩)
        go_ret
        exact ⟨rfl, ⟨T, H0.out, rfl⟩, Out.of_below (Below.refl _ _)⟩

end Go.Proofs.Ytgijmlienolhpaa
