
/- Begin. -/
import Derived.Test.YtgijmlienolhpaaTb4
import Derived.Test.YtgijmlienolhpaaLexf
namespace Go.Proofs.Ytgijmlienolhpaa
open Go.RowKit Go.Maps
attribute [local go_sem] givesF_none givesF_some evalF_tmp evalF_const evalF_global evalF_func lookL isB_bool isB_undef givesUpon_value givesUpon_skip givesUpon_enter
def insR (who : Int) (b : Nat) (t : Tn) : Tr → Tr
  | [] => [(who, b, t)]
  | x :: r => if who < x.1 then (who, b, t) :: x :: r else x :: insR who b t r
theorem lk_ins (who : Int) (b : Nat) (t : Tn) (T : Tr) : lkT (insR who b t T) = putL who b (lkT T) := by
  induction T with
  | nil => rfl
  | cons x r ih =>
    unfold insR
    by_cases h : who < x.1
    · rw [if_pos h]
      show _ = putL who b ((x.1, x.2.1) :: lkT r)
      rw [putL, if_pos h]; rfl
    · rw [if_neg h]
      show (x.1, x.2.1) :: lkT (insR who b t r) = putL who b ((x.1, x.2.1) :: lkT r)
      rw [putL, if_neg h, ih]
theorem st_ins (who : Int) (b : Nat) (t : Tn) (T : Tr) : stT (insR who b t T) = insT who t (stT T) := by
  induction T with
  | nil => rfl
  | cons x r ih =>
    unfold insR
    by_cases h : who < x.1
    · rw [if_pos h]
      show _ = insT who t ((x.1, x.2.2) :: stT r)
      rw [insT, if_pos h]; rfl
    · rw [if_neg h]
      show (x.1, x.2.2) :: stT (insR who b t r) = insT who t ((x.1, x.2.2) :: stT r)
      rw [insT, if_neg h, ih]
theorem mem_insR {who : Int} {b : Nat} {t : Tn} {T : Tr} {x : Int × Nat × Tn} : x ∈ insR who b t T ↔ x = (who, b, t) ∨ x ∈ T := by
  induction T with
  | nil => simp [insR]
  | cons y r ih =>
    rw [insR]
    split
    · simp
    · simp only [List.mem_cons, ih]
      constructor
      · rintro (h | h | h)
        · exact .inr (.inl h)
        · exact .inl h
        · exact .inr (.inr h)
      · rintro (h | h | h)
        · exact .inr (.inl h)
        · exact .inl h
        · exact .inr (.inr h)
theorem insR_perm (who : Int) (b : Nat) (t : Tn) (T : Tr) : (insR who b t T).Perm ((who, b, t) :: T) := by
  induction T with
  | nil => exact List.Perm.refl _
  | cons y r ih =>
    rw [insR]
    split
    · exact List.Perm.refl _
    · exact (List.Perm.cons y ih).trans (List.Perm.swap _ _ _)
theorem insR_up {who : Int} {b : Nat} {t : Tn} {T : Tr} (h : T.Pairwise fun a b => a.1 < b.1) (hn : atT who T = none) : (insR who b t T).Pairwise fun a b => a.1 < b.1 := by
  have h1 : (stT (insR who b t T)).Pairwise fun a b => a.1 < b.1 := by
    rw [st_ins]
    refine insT_up (by unfold stT; rw [List.pairwise_map]; exact h) (findT_none ?_)
    rw [findT_st]
    unfold atT at hn
    rw [hn]; rfl
  unfold stT at h1
  rw [List.pairwise_map] at h1
  exact h1
theorem TabT.ins {w w' : World} {O : Nat → Prop} {tb m b : Nat} {T : Tr} {who : Int} {t : Tn} {av : Value} (h : TabT w O tb T) (hm : Blk w tb 62 [.map (some m)]) (hmO : O m) (hown : w.ownsMap Try.prog 3 ptrR m T.length (mapD (lkT T)))
    (hno : atT who T = none) (hbO : O b) (hnew : ∀ x ∈ T, x.2.1 ≠ b) (hb : Blk w b 70 (tnC who t av)) (hav : RowO w O av t.act)
    {n : Nat} (hown' : w'.ownsMap Try.prog 3 ptrR m n ((mapD (lkT T)).put (.int .i64 who) (.lit (.int .i64 (b : Int))))) (hbut : But m w w') : TabT w' O tb (insR who b t T) := by
  rw [put_mapD who b _ (by rw [getL_lk]; unfold atT at hno; rw [hno]; rfl), ← lk_ins who b t T] at hown'
  have hown2 := owns_tight hown'
  rw [show (lkT (insR who b t T)).length = (insR who b t T).length by simp [lkT]] at hown2
  refine ⟨insR_up h.up hno, ?_, h.base, ⟨m, blk_butM hm hown hbut, hmO, hown2⟩, fun x hx => ?_⟩
  · refine ((insR_perm who b t T).pairwise_iff (fun h => Ne.symm h)).2 ?_
    rw [List.pairwise_cons]
    exact ⟨fun x hx => (hnew x hx).symm, h.apart⟩
  · rcases mem_insR.1 hx with rfl | hx
    · exact ⟨hbO, av, blk_butM hb hown hbut, rowO_butG hav (fun _ _ => owns_not hown) hbut⟩
    · obtain ⟨a, av', c, d⟩ := h.rows x hx
      exact ⟨a, av', blk_butM c hown hbut, rowO_butG d (fun _ _ => owns_not hown) hbut⟩

/-- A call that leaves a table, and a code. -/
def CodePost (O : Nat → Prop) (tb : Nat) (R : St × Int) (w : World) (e : Ending) (w' : World) : Prop := e = .returned (.int .i64 R.2) ∧ (∃ T', TabT w' O tb T' ∧ stT T' = R.1) ∧ Out O w w'
theorem two_of {w : World} {b t : Nat} {v0 v1 : Value} (h : Blk w b t [v0, v1]) : w.cell? ⟨b, 0, none⟩ = some v0 ∧ w.cell? ⟨b, 1, none⟩ = some v1 ∧ w.frozen? ⟨b, 0, none⟩ = false ∧ w.frozen? ⟨b, 1, none⟩ = false := ⟨h.cell 0 (by simp), h.cell 1 (by simp), h.free 0, h.free 1⟩

set_option maxRecDepth 100000 in
set_option maxHeartbeats 4000000 in
theorem begin_any (O : Nat → Prop) (tb : Nat) (T : Tr) (who next : Int) (act : List Int) (sv : Value) (hw : (Lit.int .i64 who).wf = true) (w_ : World) (h : TabT w_ O tb T) (hO : ∀ k, w_.heap.size ≤ k → O k) (hs : Ints w_ sv act) (hl : (act.length : Int) ≤ 17592186044416) (hT : T.length ≤ 4398046511104) :
    Calls Try.prog 15 #[.pointer (some ⟨tb, 0, none⟩), .int .i64 who, .agg #[.int .i64 next, sv]] w_ (CodePost O tb (beginT who next act (stT T)) w_) := by
  obtain ⟨sa, sc, rfl⟩ := row_sl hs
  have hd : beginT who next act (stT T) = if (atT who T).isSome then (stT T, 183) else (insT who (newT next act) (stT T), 0) := by
    unfold beginT
    rw [findT_st]
    unfold atT
    cases T.find? fun x => x.1 == who <;> rfl
  rw [hd]
  clear hd
  obtain ⟨w1, hw1⟩ : ∃ w1, w1 = w_.alloc (.cells #[.int .i64 next, .slice sa act.length sc] 28) := ⟨_, rfl⟩
  have HG1 := keep (show Grow w_ w1 from by subst hw1; exact (Grow.refl w_).alloc _)
  have HX := keep (show Blk w1 w_.heap.size 28 [.int .i64 next, .slice sa act.length sc] from by subst hw1; exact Blk.new w_ _ [_, _])
  have HT := keep (h.old.fits HG1.out)
  obtain ⟨m, hm, hmO, hown⟩ := HT.out.mp
  have hlk := look_tab hown who hw
  have HM := keep hm
  have HMO := keep hmO
  have HOWN := keep hown
  have H0 := keep h
  have hkey := Maps.keyOf_int_mk Try.underlying3 hw
  have hc0 := hm.cell 0 (by simp)
  simp only [List.getElem_cons_zero] at hc0
  obtain ⟨x0, x1, f0, f1⟩ := two_of HX.out
  have hcl := clone_ints act _ w1 (Row.fits hs HG1.out) hl
  have HNo := keep (show ∀ o, o = atT who T → o = none → atT who T = none from fun o h1 h2 => h1 ▸ h2)
  obtain ⟨o, ho⟩ : ∃ o, o = atT who T := ⟨_, rfl⟩
  have HNone := keep (HNo.out o ho)
  rw [← ho] at hlk ⊢
  have hz1 := HG1.out.size
  have HOk := keep hO
  have HTn := keep hT
  clear h hO hs hm hmO hown ho HNo hT
  cases o with
  | some x =>
    unfold foundV at hlk
    dsimp only at hlk
    clear hcl HNone
    go_enter Try.func15, Try.ntmps15
    go_upto_region 1 with fail
    rw [← hw1]
    clear hw1
    go_wp2_with fail
    go_ret
    exact ⟨rfl, ⟨T, H0.out.fits HG1.out, rfl⟩, Out.of_below HG1.out⟩
  | none =>
    unfold foundV at hlk
    dsimp only at hlk
    rw [if_neg (by simp)]
    go_enter Try.func15, Try.ntmps15
    go_upto_region 1 with fail
    rw [← hw1]
    clear hw1
    go_upto_region 5 with fail
    clear hlk hc0
    go_wp2_with fail
    refine hcl.mono ?_
    rintro e w2 ⟨v', rfl, hrow, hb⟩
    obtain ⟨ba, bc, rfl⟩ := row_sl hrow.1.weak
    have hX2 := HX.out.fits hb
    have hT2 := HT.out.fits hb
    have hM2 := HM.out.fits hb
    have hO2 := owns_keeps HOWN.out (hb.block _ (owns_lt HOWN.out))
    have hG2 := Grow.trans HG1.out hb
    have hz2 := hb.size
    clear hcl x0 x1 f0 f1 hb
    obtain ⟨x0, x1, f0, f1⟩ := two_of hX2
    go_upto_region 6 with fail
    obtain ⟨w3, hw3⟩ : ∃ w3, w3 = w2.setCell ⟨w_.heap.size, 1, none⟩ (.slice ba act.length bc) := ⟨_, rfl⟩
    have HU := keep (show But w_.heap.size w2 w3 from by subst hw3; exact (But.refl _ w2).setCell 1 _)
    have HX3 := keep (show Blk w3 w_.heap.size 28 [.int .i64 next, .slice ba act.length bc] from by subst hw3; exact hX2.set 1 _)
    have hold : ∀ k, (O k ∧ k < w_.heap.size) → k < w2.heap.size → w3.heap[k]? = w2.heap[k]? := fun k hk hl => HU.out.block k hl (by omega)
    have HT3 := keep (hT2.keeps hold)
    have HM3 := keep (blk_keeps hM2 (hold _ HT.out.base hM2.lt))
    have HO3 := keep (owns_keeps hO2 (hold _ HMO.out (owns_lt hO2)))
    have HR3 := keep (rowO_but hrow hX2 (by decide) HU.out)
    have HG3 := keep (show Below w_.heap.size w_ w3 from But.below hG2 HU.out (Nat.le_refl _) (by omega))
    rw [← hw3]
    have HC3 := keep (fun (u : World) (hu : Grow w3 u) => two_of (HX3.out.fits hu))
    have HD3 := keep (fun (u : World) (hu : Grow w3 u) => (HM3.out.fits hu).cell 0 (by simp))

    have hz3 := HU.out.size
    clear hw3 hX2 hT2 hM2 hO2 hG2 hold hrow x0 x1 f0 f1
    refine wp_region_grow_named (by kernel_rfl) 10 (by kernel_rfl) [(20, 0), (21, 1), (22, 2), (23, 3), (24, 4), (25, 5), (26, 6), (27, 7), (28, 8), (29, 9)] (by kernel_rfl) [(0, true), (1, true), (2, true), (3, true), (4, true), (5, true), (6, true), (7, true), (8, true), (9, true)] (by kernel_rfl) rfl rfl ?_
    intro a0 ha0
    have hsz : a0.tmps.size = 30 := (size_at ha0).trans rfl
    have s0 := slot_at ha0 0 rfl
    have s1 := slot_at ha0 1 rfl
    have s5 := slot_at ha0 5 rfl
    have HA0 := keep ha0
    clear ha0
    -- operation 0
    apply lexf_eq hsz [] [(22, 2), (23, 3), (24, 4), (25, 5), (26, 6), (27, 7), (28, 8), (29, 9)] none (by kernel_rfl) (by kernel_rfl) (by kernel_rfl) (by kernel_rfl) rfl
    · intro xs w hw hp K hK
      go_simp
      exact hK _ (Grow.refl _)
    -- operation 1
    apply lexf_eq hsz [(0, true)] [(20, 0), (23, 3), (24, 4), (25, 5), (26, 6), (27, 7), (28, 8), (29, 9)] none (by kernel_rfl) (by kernel_rfl) (by kernel_rfl) (by kernel_rfl) rfl
    · intro xs w hw hp K hK
      simp only [holdsL, List.nil_append, List.getD_cons_zero, if_true, and_true] at hp
      go_simp
      exact hK _ (Grow.refl _)
    -- operation 2
    apply lexf_eq hsz [(1, true)] [(20, 0), (21, 1), (24, 4), (25, 5), (26, 6), (27, 7), (28, 8), (29, 9)] none (by kernel_rfl) (by kernel_rfl) (by kernel_rfl) (by kernel_rfl) rfl
    · intro xs w hw hp K hK
      simp only [holdsL, List.nil_append, List.cons_append, List.getD_cons_succ, List.getD_cons_zero, if_true, and_true] at hp
      go_simp
      exact hK _ (Grow.refl _)
    -- operation 3
    apply lexf_eq hsz [(2, true)] [(20, 0), (21, 1), (22, 2), (24, 4), (25, 5), (26, 6), (27, 7), (28, 8), (29, 9)] none (by kernel_rfl) (by kernel_rfl) (by kernel_rfl) (by kernel_rfl) rfl
    · intro xs w hw hp K hK
      simp only [holdsL, List.nil_append, List.cons_append, List.getD_cons_succ, List.getD_cons_zero, if_true, and_true] at hp
      have hc0 := HD3.out w (Grow.undrew hw)
      go_simp
      exact hK _ (Grow.refl _)
    -- operation 4
    apply lexf_eq hsz [] [(20, 0), (21, 1), (22, 2), (23, 3), (25, 5), (26, 6), (27, 7), (28, 8), (29, 9)] none (by kernel_rfl) (by kernel_rfl) (by kernel_rfl) (by kernel_rfl) rfl
    · intro xs w hw hp K hK
      go_simp
      exact hK _ (Grow.refl _)
    -- operation 5
    apply lexf_eq hsz [] [(20, 0), (21, 1), (22, 2), (23, 3), (24, 4), (27, 7), (28, 8), (29, 9)] none (by kernel_rfl) (by kernel_rfl) (by kernel_rfl) (by kernel_rfl) rfl
    · intro xs w hw hp K hK
      obtain ⟨x0, x1, _⟩ := HC3.out w (Grow.undrew hw)
      go_simp
      exact hK _ (Grow.refl _)
    -- operation 6
    apply lexf_eq hsz [(5, true)] [(20, 0), (21, 1), (22, 2), (23, 3), (24, 4), (25, 5), (27, 7), (29, 9)] none (by kernel_rfl) (by kernel_rfl) (by kernel_rfl) (by kernel_rfl) rfl
    · intro xs w hw hp K hK
      simp only [holdsL, List.nil_append, List.cons_append, List.getD_cons_succ, List.getD_cons_zero, if_true, and_true] at hp
      go_simp
      exact hK _ (Grow.refl _)
    -- operation 7
    apply lexf_eq hsz [] [(20, 0), (21, 1), (22, 2), (23, 3), (24, 4), (25, 5), (26, 6), (29, 9)] none (by kernel_rfl) (by kernel_rfl) (by kernel_rfl) (by kernel_rfl) rfl
    · intro xs w hw hp K hK
      go_simp
      exact hK _ (Grow.refl _)
    -- operation 8
    apply lexf_eq hsz [(6, true), (7, true)] [(20, 0), (21, 1), (22, 2), (23, 3), (24, 4), (25, 5), (26, 6), (27, 7)] none (by kernel_rfl) (by kernel_rfl) (by kernel_rfl) (by kernel_rfl) rfl
    · intro xs w hw hp K hK
      simp only [holdsL, List.nil_append, List.cons_append, List.getD_cons_succ, List.getD_cons_zero, if_true, and_true] at hp
      go_simp
      exact hK _ (Grow.refl _)
    -- operation 9
    refine lexf_says hsz (fun v u => ∃ b, v = .pointer (some ⟨b, 0, none⟩) ∧ w3.heap.size ≤ b ∧ Blk u b 70 (tnC who (newT next act) (.slice ba act.length bc))) (fun _ _ _ g h => h.elim fun b h => ⟨b, h.1, h.2.1, h.2.2.fits g⟩) [(8, true)] [(20, 0), (21, 1), (22, 2), (23, 3), (24, 4), (25, 5), (26, 6), (27, 7), (28, 8)] none (by kernel_rfl) (by kernel_rfl) (by kernel_rfl) (by kernel_rfl) rfl ?_ ?_
    · intro xs w hw hp K hK
      simp only [holdsL, List.nil_append, List.cons_append, List.getD_cons_succ, List.getD_cons_zero, if_true, and_true] at hp
      go_simp
      exact hK _ _ ⟨_, rfl, (Grow.undrew hw).size, Blk.new w _ (tnC who (newT next act) (.slice ba act.length bc))⟩ ((Grow.refl _).alloc _)
    intro xs w hw hp
    have ha0 := HA0.out
    clear HA0 hsz s0 s1 s5
    simp only [holdsL, List.nil_append, List.cons_append, List.getD_cons_succ, List.getD_cons_zero, if_true, and_true] at hp
    have h3 := hp.2.2.2.1
    have h4 := hp.2.2.2.2.1
    have h9 := hp.2.2.2.2.2.2.2.2.2
    clear hp
    subst ha0
    simp only [putAll, h3, h4]
    obtain ⟨b, h29, hbN, hB⟩ := h9
    have hgw : Grow w3 w := hw.undrew
    simp only [h29, List.drop_succ_cons, List.drop_zero]
    go_frame
    have hzw := hgw.size
    have HTw := keep (HT3.out.fits hgw)
    have HMw := keep (HM3.out.fits hgw)
    have HOw := keep (owns_keeps HO3.out (hgw.block _ (owns_lt HO3.out)))
    have HRw := keep ((HR3.out.weaken (O' := O) fun k hk _ => HOk.out k (by omega)).keeps fun k _ hl => hgw.block k hl)
    have HGw := keep ((Out.of_below (O := O) HG3.out).trans (Out.of_below hgw))
    have HBw := keep hB
    have hbl : w_.heap.size ≤ b := by omega
    have hmx : T.length < maxLen := by have := HTn.out; unfold maxLen; omega
    clear hw hgw h3 h4 h29 hB hbN
    go_wp2_with (refine wpList_mapUpdate_own _ rfl _ _ _ 60 rfl 3 63 (Maps.int_keyed Try.underlying3) Try.underlying60 ptrR m T.length (mapD (lkT T)) rfl HOw.out hmx _ _ (.int .i64 who) rfl rfl hkey _ [] (ptrR_mk b) ?_; intro w5 hown5 hgrow5)
    have hbut : But m w w5 := ⟨hgrow5.os, hgrow5.tape, hgrow5.output, hgrow5.size, fun k hk hne => hgrow5.block k hk (by simpa using hne)⟩
    go_ret
    refine ⟨rfl, ⟨insR who b (newT next act) T, ?_, st_ins _ _ _ _⟩, HGw.out.trans (Out.of_but hbut HMO.out.1)⟩
    exact TabT.ins (HTw.out.weaken fun k hk _ => hk.1) HMw.out HMO.out.1 HOw.out (HNone.out (by first | trivial | rfl)) (HOk.out b hbl) (fun x hx => by have := (HTw.out.rows x hx).1.2; omega) HBw.out HRw.out hown5 hbut

end Go.Proofs.Ytgijmlienolhpaa
