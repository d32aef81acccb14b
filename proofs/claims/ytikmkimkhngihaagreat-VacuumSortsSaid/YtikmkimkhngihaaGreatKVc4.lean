
import Derived.Test.YtikmkimkhngihaaGreatKVc2
import Derived.Test.YtikmkimkhngihaaGreatKVc3
/- The document's Decode. -/
namespace Go.Proofs.YtikmkimkhngihaaGreat
open Go.RowKit
attribute [local go_sem] givesF_none givesF_some evalF_tmp evalF_const evalF_global evalF_func lookL isB_bool isB_undef givesUpon_value givesUpon_skip givesUpon_enter

theorem dec_new (w_ : World) (r : List UInt8) (w0 : World) (hw0 : w0 = (w_.alloc (.cells #[.int .i64 0, .int .i64 0, .bool false, .string ⟨#[]⟩, .string ⟨#[]⟩] 61)).alloc (.cells #[.string (str r), .int .i64 0, .int .i64 0] 104)) :
    Blk w0 w_.heap.size 61 [.int .i64 0, .int .i64 0, .bool false, .string ⟨#[]⟩, .string ⟨#[]⟩] ∧ Rr w0 (w_.heap.size + 1) r (r, 0) ∧ Grow w_ w0 ∧ w_.heap.size + 2 ≤ w0.heap.size := by
  subst hw0
  refine ⟨(Blk.new w_ 61 [.int .i64 0, .int .i64 0, .bool false, .string ⟨#[]⟩, .string ⟨#[]⟩]).alloc _, ⟨0, by omega, ?_, fun _ => rfl⟩, ((Grow.refl w_).alloc _).alloc _, by simp⟩
  have := Blk.new (w_.alloc (.cells #[.int .i64 0, .int .i64 0, .bool false, .string ⟨#[]⟩, .string ⟨#[]⟩] 61)) 104 [.string (str r), .int .i64 0, .int .i64 0]
  rw [show (w_.alloc (.cells #[.int .i64 0, .int .i64 0, .bool false, .string ⟨#[]⟩, .string ⟨#[]⟩] 61)).heap.size = w_.heap.size + 1 by simp] at this
  exact this
theorem Rr.but' {w w' : World} {b c : Nat} {l : List UInt8} {x : List UInt8 × Int} (h : Rr w b l x) (k : But c w w') (hb : b ≠ c) : Rr w' b l x := by
  obtain ⟨i, h1, h2, h3⟩ := h
  exact ⟨i, h1, Blk.but h2 k hb, h3⟩

set_option maxRecDepth 100000 in
set_option maxHeartbeats 4000000 in
theorem rdec_true (b c d e : UInt8) (r : List UInt8) (w_ : World) (hs : (r.length : Int) ≤ 4611686018427387000) : Calls Tryz.prog 28 #[.string (str (3 :: b :: c :: d :: e :: r))] w_ (DecPost (3 :: b :: c :: d :: e :: r) w_) := by
  obtain ⟨l, hl⟩ : ∃ l : List UInt8, l = 3 :: b :: c :: d :: e :: r := ⟨_, rfl⟩
  have hO := rdDec_eq l
  have hO2 : rdDec l = (decide (endE (decVal l).2 = 0) && tupOk (decParts l).xmin (decParts l).xmax (str (decParts l).key) (str (decParts l).val)) := by subst hl; simp [rdDec]
  have hC := tupS_canon l (by subst hl; simp) (by subst hl; exact .inr rfl)
  have hfr : (decParts l).frozen = true := by subst hl; exact (show ((3 : UInt8).toNat % 4 / 2 == 1) = true by decide)
  have hx : (decParts l).xmin = ofS [b, c] := by subst hl; rfl
  have hy : (decParts l).xmax = ofS [d, e] := by subst hl; rfl
  obtain ⟨s, hS⟩ : ∃ s, s = str l := ⟨_, rfl⟩
  have x1 : s.extract 5 s.size = str r := by subst hS; subst hl; exact extract_tail (str (3 :: b :: c :: d :: e :: r)) 5
  have x2 : s.extract 1 3 = str [b, c] := by subst hS; subst hl; exact Lib.extract_eq (str (3 :: b :: c :: d :: e :: r)) 1 3
  have x3 : s.extract 3 5 = str [d, e] := by subst hS; subst hl; exact Lib.extract_eq (str (3 :: b :: c :: d :: e :: r)) 3 5
  have i0 : ∀ h : 0 < s.size, (s[0]'h).toNat = 3 := by subst hS; subst hl; exact fun _ => rfl
  have hz : 5 ≤ s.size := by subst hS; subst hl; simp
  have hz0 : 0 < s.size := by omega
  have hi0 := i0 hz0
  have hz3 : (3 : Int) ≤ s.size := by omega
  have hz5 : (5 : Int) ≤ s.size := by omega
  have hK := fun (u : World) (bb : Nat) (h : Rr u bb r (r, 0)) => rrtext_any bb r r 24 u h (by omega) (by decide)
  have hV := fun (u : World) (bb : Nat) (h : Rr u bb r (decKey l).2) => rrtext2_any bb r 64 (decKey l) u h (by omega) (by decide)
  have hE := fun (u : World) (bb : Nat) (h : Rr u bb r (decVal l).2) => rrend_any bb r (decVal l).2 u h
  have hen := fun (u : World) => renc_any (decParts l) u
  have hke : rdTextS 24 r = decKey l := by subst hl; rfl
  have hkk : (decParts l).key = (decKey l).1 := rfl
  have hvv : (decParts l).val = (decVal l).1 := rfl
  have hev : rdText2 64 (decKey l) = decVal l := rfl
  have heN : encT (decParts l) = if tupOk (decParts l).xmin (decParts l).xmax (str (decParts l).key) (str (decParts l).val) then (tupS (decParts l).xmin (decParts l).xmax (decParts l).frozen (decParts l).key (decParts l).val, 0) else ([], 110) := rfl
  have hP0 := fun (w' : World) (h : decOk l = false) (hb : Below w_.heap.size w_ w') => decPost_none h hb
  have hP1 := fun (w' : World) (h : decOk l = true) (hb : Below w_.heap.size w_ w') => decPost_some h hb
  unfold tupV at hen hP1
  rw [hke] at hK
  rw [hev] at hV
  rw [hkk, hvv] at hen hO2 heN hC hP1
  rw [hx, hy] at hen hO2 heN hC hP1
  rw [hfr] at hen heN hC hP1
  rw [← hl, ← hS]
  clear hl hfr hx hy hke hkk hvv hev i0
  generalize DecPost l w_ = Q at *
  generalize decOk l = O at *
  generalize rdDec l = O2 at *
  generalize encT (decParts l) = X at *
  generalize endE (decVal l).2 = EE at *
  generalize decVal l = V at *
  generalize decKey l = K at *
  obtain ⟨k, K2⟩ := K
  obtain ⟨v, V2⟩ := V
  obtain ⟨eb, ec⟩ := X
  dsimp only at hO hO2 hC hK hV hE hen heN hP0 hP1
  have hls : (str l).toList = l := str_list l
  generalize htb : tupOk (ofS [b, c]) (ofS [d, e]) (str k) (str v) = TB at *
  obtain ⟨w0, hw0⟩ : ∃ w0, w0 = (w_.alloc (.cells #[.int .i64 0, .int .i64 0, .bool false, .string ⟨#[]⟩, .string ⟨#[]⟩] 61)).alloc (.cells #[.string (str r), .int .i64 0, .int .i64 0] 104) := ⟨_, rfl⟩
  obtain ⟨hR0, hD0, hg0, hsz0⟩ := dec_new w_ r w0 hw0
  have HO := keep hO
  have HO2 := keep hO2
  have HC := keep hC
  have HK := keep hK
  have HV := keep hV
  have HE := keep hE
  have HEn := keep hen
  have HeN := keep heN
  have HP0 := keep hP0
  have HP1 := keep hP1
  have HS := keep hS
  have HR0 := keep hR0
  have HD0 := keep hD0
  have HG0 := keep hg0
  have HSz0 := keep hsz0
  clear hO hO2 hC hK hV hE hen heN hP0 hP1 hS htb hls hR0 hD0 hg0 hsz0
  go_enter Tryz.func28, Tryz.ntmps28
  go_upto_region 4 with fail
  rw [← hw0]
  clear hw0
  refine wp_region_grow_named (by kernel_rfl) 11 (by kernel_rfl) [(26, 0), (27, 1), (28, 2), (29, 3), (30, 4), (31, 5), (32, 6), (33, 7), (34, 8), (35, 9), (5, 10)] (by kernel_rfl) [(0, true), (1, true), (2, true), (3, true), (4, true), (5, true), (6, true), (7, true), (8, true), (9, true), (10, true)] (by kernel_rfl) rfl rfl ?_
  intro a0 ha0
  have hsz : a0.tmps.size = 61 := (size_at ha0).trans rfl
  have s0 := slot_at ha0 0 rfl
  have HA0 := keep ha0
  clear ha0
  -- operation 0
  apply lexf_eq hsz [] [(28, 2), (29, 3), (30, 4), (31, 5), (32, 6), (33, 7), (34, 8), (35, 9), (5, 10)] none (by kernel_rfl) (by kernel_rfl) (by kernel_rfl) (by kernel_rfl) rfl
  · intro xs w hw hp K hK
    go_simp
    exact hK _ (Grow.refl _)
  -- operation 1
  apply lexf_eq hsz [(0, true)] [(26, 0), (29, 3), (30, 4), (31, 5), (32, 6), (33, 7), (34, 8), (35, 9), (5, 10)] none (by kernel_rfl) (by kernel_rfl) (by kernel_rfl) (by kernel_rfl) rfl
  · intro xs w hw hp K hK
    simp only [holdsL, List.nil_append, List.getD_cons_zero, if_true, and_true] at hp
    go_simp
    exact hK _ (Grow.refl _)
  -- operation 2
  apply lexf_eq hsz [(1, true)] [(26, 0), (27, 1), (29, 3), (30, 4), (31, 5), (32, 6), (33, 7), (34, 8), (5, 10)] none (by kernel_rfl) (by kernel_rfl) (by kernel_rfl) (by kernel_rfl) rfl
  · intro xs w hw hp K hK
    simp only [holdsL, List.nil_append, List.cons_append, List.getD_cons_succ, List.getD_cons_zero, if_true, and_true] at hp
    go_simp
    exact hK _ (Grow.refl _)
  -- operation 3
  apply lexf_eq hsz [] [(26, 0), (27, 1), (28, 2), (31, 5), (32, 6), (33, 7), (34, 8), (35, 9), (5, 10)] none (by kernel_rfl) (by kernel_rfl) (by kernel_rfl) (by kernel_rfl) rfl
  · intro xs w hw hp K hK
    go_simp
    exact hK _ (Grow.refl _)
  -- operation 4
  apply lexf_eq hsz [(3, true)] [(26, 0), (27, 1), (28, 2), (29, 3), (32, 6), (33, 7), (34, 8), (35, 9), (5, 10)] none (by kernel_rfl) (by kernel_rfl) (by kernel_rfl) (by kernel_rfl) rfl
  · intro xs w hw hp K hK
    simp only [holdsL, List.nil_append, List.cons_append, List.getD_cons_succ, List.getD_cons_zero, if_true, and_true] at hp
    go_simp
    exact hK _ (Grow.refl _)
  -- operation 5
  apply lexf_eq hsz [(4, true)] [(26, 0), (27, 1), (28, 2), (29, 3), (30, 4), (32, 6), (33, 7), (5, 10)] none (by kernel_rfl) (by kernel_rfl) (by kernel_rfl) (by kernel_rfl) rfl
  · intro xs w hw hp K hK
    simp only [holdsL, List.nil_append, List.cons_append, List.getD_cons_succ, List.getD_cons_zero, if_true, and_true] at hp
    go_simp
    exact (rof_two b c w).mono fun e w' h => ⟨_, h.1, hK _ h.2⟩
  -- operation 6
  apply lexf_eq hsz [] [(26, 0), (27, 1), (28, 2), (29, 3), (30, 4), (31, 5), (34, 8), (35, 9), (5, 10)] none (by kernel_rfl) (by kernel_rfl) (by kernel_rfl) (by kernel_rfl) rfl
  · intro xs w hw hp K hK
    go_simp
    exact hK _ (Grow.refl _)
  -- operation 7
  apply lexf_eq hsz [(6, true)] [(26, 0), (27, 1), (28, 2), (29, 3), (30, 4), (31, 5), (32, 6), (35, 9), (5, 10)] none (by kernel_rfl) (by kernel_rfl) (by kernel_rfl) (by kernel_rfl) rfl
  · intro xs w hw hp K hK
    simp only [holdsL, List.nil_append, List.cons_append, List.getD_cons_succ, List.getD_cons_zero, if_true, and_true] at hp
    go_simp
    exact hK _ (Grow.refl _)
  -- operation 8
  apply lexf_eq hsz [(7, true)] [(26, 0), (27, 1), (28, 2), (29, 3), (30, 4), (31, 5), (32, 6), (33, 7), (5, 10)] none (by kernel_rfl) (by kernel_rfl) (by kernel_rfl) (by kernel_rfl) rfl
  · intro xs w hw hp K hK
    simp only [holdsL, List.nil_append, List.cons_append, List.getD_cons_succ, List.getD_cons_zero, if_true, and_true] at hp
    go_simp
    exact (rof_two d e w).mono fun e w' h => ⟨_, h.1, hK _ h.2⟩
  -- operation 9
  apply lexf_eq hsz [(2, true), (5, true), (8, true)] [(26, 0), (27, 1), (28, 2), (29, 3), (30, 4), (31, 5), (32, 6), (33, 7), (34, 8), (5, 10)] none (by kernel_rfl) (by kernel_rfl) (by kernel_rfl) (by kernel_rfl) rfl
  · intro xs w hw hp K hK
    simp only [holdsL, List.nil_append, List.cons_append, List.getD_cons_succ, List.getD_cons_zero, if_true, and_true] at hp
    go_simp
    exact hK _ (Grow.refl _)
  -- operation 10
  refine lexf_says hsz (fun v u => ∃ bb, v = .pointer (some ⟨bb, 0, none⟩) ∧ w0.heap.size ≤ bb ∧ Blk u bb 61 [.int .i64 0, .int .i64 0, .bool false, .string ⟨#[]⟩, .string ⟨#[]⟩]) (fun _ _ _ g ⟨bb, h1, h2, h3⟩ => ⟨bb, h1, h2, h3.fits g⟩) [] [(26, 0), (27, 1), (28, 2), (29, 3), (30, 4), (31, 5), (32, 6), (33, 7), (34, 8), (35, 9)] none (by kernel_rfl) (by kernel_rfl) (by kernel_rfl) (by kernel_rfl) rfl ?_ ?_
  · intro xs w hw hp K hK
    go_simp
    exact hK _ _ ⟨_, rfl, by simpa using hw.size, Blk.new w _ [_, _, _, _, _]⟩ ((Grow.refl w).alloc _)
  intro xs w hw hp
  have ha0 := HA0.out
  clear HA0 hsz s0
  simp only [holdsL, List.nil_append, List.cons_append, List.getD_cons_succ, List.getD_cons_zero, if_true, and_true] at hp
  have h9 := hp.2.2.2.2.2.2.2.2.2.1
  have h10 := hp.2.2.2.2.2.2.2.2.2.2
  clear hp
  subst ha0
  simp only [putAll, h9]
  obtain ⟨t5, hT, hTs, hTB⟩ := h10
  simp only [hT]
  have hg1 := hw.undrew
  clear hw h9 hT
  obtain ⟨c0, c1, c2, c3, c4⟩ := tures hTB
  have f0 := hTB.free 0
  have f1 := hTB.free 1
  have f2 := hTB.free 2
  have f3 := hTB.free 3
  have f4 := hTB.free 4
  have hB1 := set5 hTB (.int .i64 (ofS [b, c])) (.int .i64 (ofS [d, e])) (.bool true) (.string ⟨#[]⟩) (.string ⟨#[]⟩)
  have hU1 := but5 w t5 (.int .i64 (ofS [b, c])) (.int .i64 (ofS [d, e])) (.bool true) (.string ⟨#[]⟩) (.string ⟨#[]⟩)
  have hsz0 := HSz0.out
  have hszw : w0.heap.size ≤ w.heap.size := hg1.size
  have hD1 := ((HD0.out.fits hg1).but' hU1 (by omega))
  have hR1 := (HR0.out.fits hg1).but hU1 (by omega)
  have hg1' := Below.step (Grow.trans HG0.out hg1) hU1 (by omega) (by omega)
  have hz1 := Nat.le_trans hszw hU1.size
  have HB1 := keep hB1
  have HR1 := keep hR1
  have HD1 := keep hD1
  have HG1 := keep hg1'
  clear hB1 hU1 hD1 hR1 hg1'
  go_upto_region 5 with fail
  generalize hw1 : (((((w.setCell ⟨t5, 0, none⟩ (.int .i64 (ofS [b, c]))).setCell ⟨t5, 1, none⟩ (.int .i64 (ofS [d, e]))).setCell ⟨t5, 2, none⟩ (.bool true)).setCell ⟨t5, 3, none⟩ (.string ⟨#[]⟩)).setCell ⟨t5, 4, none⟩ (.string ⟨#[]⟩)) = w1 at *
  clear hw1 hTB c0 c1 c2 c3 c4 f0 f1 f2 f3 f4 hg1 HR0 HD0 HG0
  go_wp2_with fail
  refine (HK.out _ _ HD1.out).mono ?_
  rintro x w2 ⟨rfl, hD2, hb2⟩
  have hB2 := HB1.out.but hb2 (by omega)
  have hR2 := HR1.out.but hb2 (by omega)
  have hg2 := Below.step HG1.out hb2 (by omega) (by omega)
  have hz2 := Nat.le_trans hz1 hb2.size
  clear hb2 HB1 HR1 HG1 HD1 HK
  obtain ⟨c0, c1, c2, c3, c4⟩ := tures hB2
  have f3 := hB2.free 3
  have hB2' := hB2.set 3 (.string (str k))
  have hD2' := hD2.set_other ⟨t5, 3, none⟩ (by dsimp only; omega) (.string (str k))
  have hR2' := hR2.set_other ⟨t5, 3, none⟩ (by dsimp only; omega) (.string (str k))
  have hg2' := Below.step hg2 ((But.refl t5 w2).setCell 3 (.string (str k))) (by omega) (by omega)
  have hz2' := Nat.le_trans hz2 ((But.refl t5 w2).setCell 3 (.string (str k))).size
  clear hB2 hR2 hg2 hD2
  go_wp2_with fail
  refine (HV.out _ _ hD2').mono ?_
  rintro x w3 ⟨rfl, hD3, hb3⟩
  have hB3 := hB2'.but hb3 (by omega)
  have hR3 := hR2'.but hb3 (by omega)
  have hg3 := Below.step hg2' hb3 (by omega) (by omega)
  have hz3 := Nat.le_trans hz2' hb3.size
  clear hb3 hB2' hR2' hg2' hD2' HV c0 c1 c2 c3 c4 f3
  obtain ⟨c0, c1, c2, c3, c4⟩ := tures hB3
  have f4 := hB3.free 4
  have hB3' := hB3.set 4 (.string (str v))
  have hD3' := hD3.set_other ⟨t5, 4, none⟩ (by dsimp only; omega) (.string (str v))
  have hR3' := hR3.set_other ⟨t5, 4, none⟩ (by dsimp only; omega) (.string (str v))
  have hg3' := Below.step hg3 ((But.refl t5 w3).setCell 4 (.string (str v))) (by omega) (by omega)
  have hz3' := Nat.le_trans hz3 ((But.refl t5 w3).setCell 4 (.string (str v))).size
  clear hB3 hR3 hg3 hD3
  go_upto_region 7 with fail
  generalize hw4 : w3.setCell ⟨t5, 4, none⟩ (.string (str v)) = w4 at *
  have hB4 : Blk w4 t5 61 [.int .i64 (ofS [b, c]), .int .i64 (ofS [d, e]), .bool true, .string (str k), .string (str v)] := hB3'
  clear hB3' hw4 c0 c1 c2 c3 c4 f4
  obtain ⟨c0, c1, c2, c3, c4⟩ := tures hB4
  go_wp2_with fail
  refine (HEn.out w4).mono ?_
  rintro x w5 ⟨rfl, hb5⟩
  have hB5 := hB4.fits hb5
  have hR5 := Blk.fits hR3' hb5
  have hD5 := hD3'.fits hb5
  have hg5 := Below.trans hg3' (hb5.mono (by omega))
  have hz5 := Nat.le_trans hz3' hb5.size
  clear hB4 hR3' hD3' hg3' hb5 c0 c1 c2 c3 c4
  go_wp2_with fail
  refine (HE.out w5 _ hD5).mono ?_
  rintro x w6 ⟨rfl, hb6⟩
  have hB6 := hB5.fits hb6
  have hR6 := hR5.fits hb6
  have hg6 := Below.trans hg5 (hb6.mono (by omega))
  clear hB5 hR5 hD5 hg5 hb6
  obtain ⟨c0, c1, c2, c3, c4⟩ := tures hB6
  obtain ⟨r0, r1, r2, r3, r4⟩ := tures hR6
  have f0 := hR6.free 0
  have f1 := hR6.free 1
  have f2 := hR6.free 2
  have f3 := hR6.free 3
  have f4 := hR6.free 4
  by_cases hEE : EE = 0
  · have hCn := HC.out hEE
    have hN := HeN.out
    rw [hCn] at hN
    cases TB with
    | true =>
      rw [if_pos rfl] at hN
      simp only [Prod.mk.injEq] at hN
      obtain ⟨he1, he2⟩ := hN
      have hes : str eb = s := by rw [he1, HS.out]
      have hOt : O = true := by rw [← HO.out, HO2.out]; simp [hEE]
      subst hEE
      subst he2
      rw [hes]
      clear hes he1 hCn
      have Hset := keep (set5 hR6 (.int .i64 (ofS [b, c])) (.int .i64 (ofS [d, e])) (.bool true) (.string (str k)) (.string (str v)))
      have Hbut := keep (but5 w6 w_.heap.size (.int .i64 (ofS [b, c])) (.int .i64 (ofS [d, e])) (.bool true) (.string (str k)) (.string (str v)))
      have Hlt := keep hR6.lt
      have HOt := keep hOt
      clear hR6 hB6 hOt HO HO2 HC HeN HS
      go_wp2_with fail
      refine bodyPost_ret (v := .tuple #[.agg #[.int .i64 (ofS [b, c]), .int .i64 (ofS [d, e]), .bool true, .string (str k), .string (str v)], .int .i64 0]) ?_ rfl (HP1.out _ HOt.out (But.below hg6 Hbut.out (Nat.le_refl _) (Nat.le_of_lt Hlt.out)))
      obtain ⟨s0, s1, s2, s3, s4⟩ := tures Hset.out
      simp [results, Tryz.results28, go_sem, s0, s1, s2, s3, s4]
    | false =>
      rw [if_neg (by simp)] at hN
      simp only [Prod.mk.injEq] at hN
      obtain ⟨he1, he2⟩ := hN
      have hOf : O = false := by rw [← HO.out, HO2.out]; simp
      have HOf := keep hOf
      subst hEE
      subst he2
      clear he1 hCn hOf HO HO2 HC HeN HS
      have Hset := keep (set5 hR6 (.int .i64 0) (.int .i64 0) (.bool false) (.string ⟨#[]⟩) (.string ⟨#[]⟩))
      have Hbut := keep (but5 w6 w_.heap.size (.int .i64 0) (.int .i64 0) (.bool false) (.string ⟨#[]⟩) (.string ⟨#[]⟩))
      have Hlt := keep hR6.lt
      clear hR6 hB6
      go_wp2_with fail
      refine bodyPost_ret (v := .tuple #[tupV noTup, .int .i64 110]) ?_ rfl (HP0.out _ HOf.out (But.below hg6 Hbut.out (Nat.le_refl _) (Nat.le_of_lt Hlt.out)))
      obtain ⟨s0, s1, s2, s3, s4⟩ := tures Hset.out
      simp [results, Tryz.results28, go_sem, s0, s1, s2, s3, s4, tupV, noTup]
      rfl
  · have hOf : O = false := by rw [← HO.out, HO2.out]; simp [hEE]
    have HOf := keep hOf
    have qE : (EE != 0) = true := by simp [hEE]
    clear hOf HO HO2 HC HeN HS
    have Hset := keep (set5 hR6 (.int .i64 0) (.int .i64 0) (.bool false) (.string ⟨#[]⟩) (.string ⟨#[]⟩))
    have Hbut := keep (but5 w6 w_.heap.size (.int .i64 0) (.int .i64 0) (.bool false) (.string ⟨#[]⟩) (.string ⟨#[]⟩))
    have Hlt := keep hR6.lt
    clear hR6 hB6
    go_wp2_with fail
    refine bodyPost_ret (v := .tuple #[tupV noTup, .int .i64 110]) ?_ rfl (HP0.out _ HOf.out (But.below hg6 Hbut.out (Nat.le_refl _) (Nat.le_of_lt Hlt.out)))
    obtain ⟨s0, s1, s2, s3, s4⟩ := tures Hset.out
    simp [results, Tryz.results28, go_sem, s0, s1, s2, s3, s4, tupV, noTup]
    rfl

set_option maxRecDepth 100000 in
set_option maxHeartbeats 4000000 in
theorem rdec_false (b c d e : UInt8) (r : List UInt8) (w_ : World) (hs : (r.length : Int) ≤ 4611686018427387000) : Calls Tryz.prog 28 #[.string (str (1 :: b :: c :: d :: e :: r))] w_ (DecPost (1 :: b :: c :: d :: e :: r) w_) := by
  obtain ⟨l, hl⟩ : ∃ l : List UInt8, l = 1 :: b :: c :: d :: e :: r := ⟨_, rfl⟩
  have hO := rdDec_eq l
  have hO2 : rdDec l = (decide (endE (decVal l).2 = 0) && tupOk (decParts l).xmin (decParts l).xmax (str (decParts l).key) (str (decParts l).val)) := by subst hl; simp [rdDec]
  have hC := tupS_canon l (by subst hl; simp) (by subst hl; exact .inl rfl)
  have hfr : (decParts l).frozen = false := by subst hl; exact (show ((1 : UInt8).toNat % 4 / 2 == 1) = false by decide)
  have hx : (decParts l).xmin = ofS [b, c] := by subst hl; rfl
  have hy : (decParts l).xmax = ofS [d, e] := by subst hl; rfl
  obtain ⟨s, hS⟩ : ∃ s, s = str l := ⟨_, rfl⟩
  have x1 : s.extract 5 s.size = str r := by subst hS; subst hl; exact extract_tail (str (1 :: b :: c :: d :: e :: r)) 5
  have x2 : s.extract 1 3 = str [b, c] := by subst hS; subst hl; exact Lib.extract_eq (str (1 :: b :: c :: d :: e :: r)) 1 3
  have x3 : s.extract 3 5 = str [d, e] := by subst hS; subst hl; exact Lib.extract_eq (str (1 :: b :: c :: d :: e :: r)) 3 5
  have i0 : ∀ h : 0 < s.size, (s[0]'h).toNat = 1 := by subst hS; subst hl; exact fun _ => rfl
  have hz : 5 ≤ s.size := by subst hS; subst hl; simp
  have hz0 : 0 < s.size := by omega
  have hi0 := i0 hz0
  have hz3 : (3 : Int) ≤ s.size := by omega
  have hz5 : (5 : Int) ≤ s.size := by omega
  have hK := fun (u : World) (bb : Nat) (h : Rr u bb r (r, 0)) => rrtext_any bb r r 24 u h (by omega) (by decide)
  have hV := fun (u : World) (bb : Nat) (h : Rr u bb r (decKey l).2) => rrtext2_any bb r 64 (decKey l) u h (by omega) (by decide)
  have hE := fun (u : World) (bb : Nat) (h : Rr u bb r (decVal l).2) => rrend_any bb r (decVal l).2 u h
  have hen := fun (u : World) => renc_any (decParts l) u
  have hke : rdTextS 24 r = decKey l := by subst hl; rfl
  have hkk : (decParts l).key = (decKey l).1 := rfl
  have hvv : (decParts l).val = (decVal l).1 := rfl
  have hev : rdText2 64 (decKey l) = decVal l := rfl
  have heN : encT (decParts l) = if tupOk (decParts l).xmin (decParts l).xmax (str (decParts l).key) (str (decParts l).val) then (tupS (decParts l).xmin (decParts l).xmax (decParts l).frozen (decParts l).key (decParts l).val, 0) else ([], 110) := rfl
  have hP0 := fun (w' : World) (h : decOk l = false) (hb : Below w_.heap.size w_ w') => decPost_none h hb
  have hP1 := fun (w' : World) (h : decOk l = true) (hb : Below w_.heap.size w_ w') => decPost_some h hb
  unfold tupV at hen hP1
  rw [hke] at hK
  rw [hev] at hV
  rw [hkk, hvv] at hen hO2 heN hC hP1
  rw [hx, hy] at hen hO2 heN hC hP1
  rw [hfr] at hen heN hC hP1
  rw [← hl, ← hS]
  clear hl hfr hx hy hke hkk hvv hev i0
  generalize DecPost l w_ = Q at *
  generalize decOk l = O at *
  generalize rdDec l = O2 at *
  generalize encT (decParts l) = X at *
  generalize endE (decVal l).2 = EE at *
  generalize decVal l = V at *
  generalize decKey l = K at *
  obtain ⟨k, K2⟩ := K
  obtain ⟨v, V2⟩ := V
  obtain ⟨eb, ec⟩ := X
  dsimp only at hO hO2 hC hK hV hE hen heN hP0 hP1
  have hls : (str l).toList = l := str_list l
  generalize htb : tupOk (ofS [b, c]) (ofS [d, e]) (str k) (str v) = TB at *
  obtain ⟨w0, hw0⟩ : ∃ w0, w0 = (w_.alloc (.cells #[.int .i64 0, .int .i64 0, .bool false, .string ⟨#[]⟩, .string ⟨#[]⟩] 61)).alloc (.cells #[.string (str r), .int .i64 0, .int .i64 0] 104) := ⟨_, rfl⟩
  obtain ⟨hR0, hD0, hg0, hsz0⟩ := dec_new w_ r w0 hw0
  have HO := keep hO
  have HO2 := keep hO2
  have HC := keep hC
  have HK := keep hK
  have HV := keep hV
  have HE := keep hE
  have HEn := keep hen
  have HeN := keep heN
  have HP0 := keep hP0
  have HP1 := keep hP1
  have HS := keep hS
  have HR0 := keep hR0
  have HD0 := keep hD0
  have HG0 := keep hg0
  have HSz0 := keep hsz0
  clear hO hO2 hC hK hV hE hen heN hP0 hP1 hS htb hls hR0 hD0 hg0 hsz0
  go_enter Tryz.func28, Tryz.ntmps28
  go_upto_region 4 with fail
  rw [← hw0]
  clear hw0
  refine wp_region_grow_named (by kernel_rfl) 11 (by kernel_rfl) [(26, 0), (27, 1), (28, 2), (29, 3), (30, 4), (31, 5), (32, 6), (33, 7), (34, 8), (35, 9), (5, 10)] (by kernel_rfl) [(0, true), (1, true), (2, true), (3, true), (4, true), (5, true), (6, true), (7, true), (8, true), (9, true), (10, true)] (by kernel_rfl) rfl rfl ?_
  intro a0 ha0
  have hsz : a0.tmps.size = 61 := (size_at ha0).trans rfl
  have s0 := slot_at ha0 0 rfl
  have HA0 := keep ha0
  clear ha0
  -- operation 0
  apply lexf_eq hsz [] [(28, 2), (29, 3), (30, 4), (31, 5), (32, 6), (33, 7), (34, 8), (35, 9), (5, 10)] none (by kernel_rfl) (by kernel_rfl) (by kernel_rfl) (by kernel_rfl) rfl
  · intro xs w hw hp K hK
    go_simp
    exact hK _ (Grow.refl _)
  -- operation 1
  apply lexf_eq hsz [(0, true)] [(26, 0), (29, 3), (30, 4), (31, 5), (32, 6), (33, 7), (34, 8), (35, 9), (5, 10)] none (by kernel_rfl) (by kernel_rfl) (by kernel_rfl) (by kernel_rfl) rfl
  · intro xs w hw hp K hK
    simp only [holdsL, List.nil_append, List.getD_cons_zero, if_true, and_true] at hp
    go_simp
    exact hK _ (Grow.refl _)
  -- operation 2
  apply lexf_eq hsz [(1, true)] [(26, 0), (27, 1), (29, 3), (30, 4), (31, 5), (32, 6), (33, 7), (34, 8), (5, 10)] none (by kernel_rfl) (by kernel_rfl) (by kernel_rfl) (by kernel_rfl) rfl
  · intro xs w hw hp K hK
    simp only [holdsL, List.nil_append, List.cons_append, List.getD_cons_succ, List.getD_cons_zero, if_true, and_true] at hp
    go_simp
    exact hK _ (Grow.refl _)
  -- operation 3
  apply lexf_eq hsz [] [(26, 0), (27, 1), (28, 2), (31, 5), (32, 6), (33, 7), (34, 8), (35, 9), (5, 10)] none (by kernel_rfl) (by kernel_rfl) (by kernel_rfl) (by kernel_rfl) rfl
  · intro xs w hw hp K hK
    go_simp
    exact hK _ (Grow.refl _)
  -- operation 4
  apply lexf_eq hsz [(3, true)] [(26, 0), (27, 1), (28, 2), (29, 3), (32, 6), (33, 7), (34, 8), (35, 9), (5, 10)] none (by kernel_rfl) (by kernel_rfl) (by kernel_rfl) (by kernel_rfl) rfl
  · intro xs w hw hp K hK
    simp only [holdsL, List.nil_append, List.cons_append, List.getD_cons_succ, List.getD_cons_zero, if_true, and_true] at hp
    go_simp
    exact hK _ (Grow.refl _)
  -- operation 5
  apply lexf_eq hsz [(4, true)] [(26, 0), (27, 1), (28, 2), (29, 3), (30, 4), (32, 6), (33, 7), (5, 10)] none (by kernel_rfl) (by kernel_rfl) (by kernel_rfl) (by kernel_rfl) rfl
  · intro xs w hw hp K hK
    simp only [holdsL, List.nil_append, List.cons_append, List.getD_cons_succ, List.getD_cons_zero, if_true, and_true] at hp
    go_simp
    exact (rof_two b c w).mono fun e w' h => ⟨_, h.1, hK _ h.2⟩
  -- operation 6
  apply lexf_eq hsz [] [(26, 0), (27, 1), (28, 2), (29, 3), (30, 4), (31, 5), (34, 8), (35, 9), (5, 10)] none (by kernel_rfl) (by kernel_rfl) (by kernel_rfl) (by kernel_rfl) rfl
  · intro xs w hw hp K hK
    go_simp
    exact hK _ (Grow.refl _)
  -- operation 7
  apply lexf_eq hsz [(6, true)] [(26, 0), (27, 1), (28, 2), (29, 3), (30, 4), (31, 5), (32, 6), (35, 9), (5, 10)] none (by kernel_rfl) (by kernel_rfl) (by kernel_rfl) (by kernel_rfl) rfl
  · intro xs w hw hp K hK
    simp only [holdsL, List.nil_append, List.cons_append, List.getD_cons_succ, List.getD_cons_zero, if_true, and_true] at hp
    go_simp
    exact hK _ (Grow.refl _)
  -- operation 8
  apply lexf_eq hsz [(7, true)] [(26, 0), (27, 1), (28, 2), (29, 3), (30, 4), (31, 5), (32, 6), (33, 7), (5, 10)] none (by kernel_rfl) (by kernel_rfl) (by kernel_rfl) (by kernel_rfl) rfl
  · intro xs w hw hp K hK
    simp only [holdsL, List.nil_append, List.cons_append, List.getD_cons_succ, List.getD_cons_zero, if_true, and_true] at hp
    go_simp
    exact (rof_two d e w).mono fun e w' h => ⟨_, h.1, hK _ h.2⟩
  -- operation 9
  apply lexf_eq hsz [(2, true), (5, true), (8, true)] [(26, 0), (27, 1), (28, 2), (29, 3), (30, 4), (31, 5), (32, 6), (33, 7), (34, 8), (5, 10)] none (by kernel_rfl) (by kernel_rfl) (by kernel_rfl) (by kernel_rfl) rfl
  · intro xs w hw hp K hK
    simp only [holdsL, List.nil_append, List.cons_append, List.getD_cons_succ, List.getD_cons_zero, if_true, and_true] at hp
    go_simp
    exact hK _ (Grow.refl _)
  -- operation 10
  refine lexf_says hsz (fun v u => ∃ bb, v = .pointer (some ⟨bb, 0, none⟩) ∧ w0.heap.size ≤ bb ∧ Blk u bb 61 [.int .i64 0, .int .i64 0, .bool false, .string ⟨#[]⟩, .string ⟨#[]⟩]) (fun _ _ _ g ⟨bb, h1, h2, h3⟩ => ⟨bb, h1, h2, h3.fits g⟩) [] [(26, 0), (27, 1), (28, 2), (29, 3), (30, 4), (31, 5), (32, 6), (33, 7), (34, 8), (35, 9)] none (by kernel_rfl) (by kernel_rfl) (by kernel_rfl) (by kernel_rfl) rfl ?_ ?_
  · intro xs w hw hp K hK
    go_simp
    exact hK _ _ ⟨_, rfl, by simpa using hw.size, Blk.new w _ [_, _, _, _, _]⟩ ((Grow.refl w).alloc _)
  intro xs w hw hp
  have ha0 := HA0.out
  clear HA0 hsz s0
  simp only [holdsL, List.nil_append, List.cons_append, List.getD_cons_succ, List.getD_cons_zero, if_true, and_true] at hp
  have h9 := hp.2.2.2.2.2.2.2.2.2.1
  have h10 := hp.2.2.2.2.2.2.2.2.2.2
  clear hp
  subst ha0
  simp only [putAll, h9]
  obtain ⟨t5, hT, hTs, hTB⟩ := h10
  simp only [hT]
  have hg1 := hw.undrew
  clear hw h9 hT
  obtain ⟨c0, c1, c2, c3, c4⟩ := tures hTB
  have f0 := hTB.free 0
  have f1 := hTB.free 1
  have f2 := hTB.free 2
  have f3 := hTB.free 3
  have f4 := hTB.free 4
  have hB1 := set5 hTB (.int .i64 (ofS [b, c])) (.int .i64 (ofS [d, e])) (.bool false) (.string ⟨#[]⟩) (.string ⟨#[]⟩)
  have hU1 := but5 w t5 (.int .i64 (ofS [b, c])) (.int .i64 (ofS [d, e])) (.bool false) (.string ⟨#[]⟩) (.string ⟨#[]⟩)
  have hsz0 := HSz0.out
  have hszw : w0.heap.size ≤ w.heap.size := hg1.size
  have hD1 := ((HD0.out.fits hg1).but' hU1 (by omega))
  have hR1 := (HR0.out.fits hg1).but hU1 (by omega)
  have hg1' := Below.step (Grow.trans HG0.out hg1) hU1 (by omega) (by omega)
  have hz1 := Nat.le_trans hszw hU1.size
  have HB1 := keep hB1
  have HR1 := keep hR1
  have HD1 := keep hD1
  have HG1 := keep hg1'
  clear hB1 hU1 hD1 hR1 hg1'
  go_upto_region 5 with fail
  generalize hw1 : (((((w.setCell ⟨t5, 0, none⟩ (.int .i64 (ofS [b, c]))).setCell ⟨t5, 1, none⟩ (.int .i64 (ofS [d, e]))).setCell ⟨t5, 2, none⟩ (.bool false)).setCell ⟨t5, 3, none⟩ (.string ⟨#[]⟩)).setCell ⟨t5, 4, none⟩ (.string ⟨#[]⟩)) = w1 at *
  clear hw1 hTB c0 c1 c2 c3 c4 f0 f1 f2 f3 f4 hg1 HR0 HD0 HG0
  go_wp2_with fail
  refine (HK.out _ _ HD1.out).mono ?_
  rintro x w2 ⟨rfl, hD2, hb2⟩
  have hB2 := HB1.out.but hb2 (by omega)
  have hR2 := HR1.out.but hb2 (by omega)
  have hg2 := Below.step HG1.out hb2 (by omega) (by omega)
  have hz2 := Nat.le_trans hz1 hb2.size
  clear hb2 HB1 HR1 HG1 HD1 HK
  obtain ⟨c0, c1, c2, c3, c4⟩ := tures hB2
  have f3 := hB2.free 3
  have hB2' := hB2.set 3 (.string (str k))
  have hD2' := hD2.set_other ⟨t5, 3, none⟩ (by dsimp only; omega) (.string (str k))
  have hR2' := hR2.set_other ⟨t5, 3, none⟩ (by dsimp only; omega) (.string (str k))
  have hg2' := Below.step hg2 ((But.refl t5 w2).setCell 3 (.string (str k))) (by omega) (by omega)
  have hz2' := Nat.le_trans hz2 ((But.refl t5 w2).setCell 3 (.string (str k))).size
  clear hB2 hR2 hg2 hD2
  go_wp2_with fail
  refine (HV.out _ _ hD2').mono ?_
  rintro x w3 ⟨rfl, hD3, hb3⟩
  have hB3 := hB2'.but hb3 (by omega)
  have hR3 := hR2'.but hb3 (by omega)
  have hg3 := Below.step hg2' hb3 (by omega) (by omega)
  have hz3 := Nat.le_trans hz2' hb3.size
  clear hb3 hB2' hR2' hg2' hD2' HV c0 c1 c2 c3 c4 f3
  obtain ⟨c0, c1, c2, c3, c4⟩ := tures hB3
  have f4 := hB3.free 4
  have hB3' := hB3.set 4 (.string (str v))
  have hD3' := hD3.set_other ⟨t5, 4, none⟩ (by dsimp only; omega) (.string (str v))
  have hR3' := hR3.set_other ⟨t5, 4, none⟩ (by dsimp only; omega) (.string (str v))
  have hg3' := Below.step hg3 ((But.refl t5 w3).setCell 4 (.string (str v))) (by omega) (by omega)
  have hz3' := Nat.le_trans hz3 ((But.refl t5 w3).setCell 4 (.string (str v))).size
  clear hB3 hR3 hg3 hD3
  go_upto_region 7 with fail
  generalize hw4 : w3.setCell ⟨t5, 4, none⟩ (.string (str v)) = w4 at *
  have hB4 : Blk w4 t5 61 [.int .i64 (ofS [b, c]), .int .i64 (ofS [d, e]), .bool false, .string (str k), .string (str v)] := hB3'
  clear hB3' hw4 c0 c1 c2 c3 c4 f4
  obtain ⟨c0, c1, c2, c3, c4⟩ := tures hB4
  go_wp2_with fail
  refine (HEn.out w4).mono ?_
  rintro x w5 ⟨rfl, hb5⟩
  have hB5 := hB4.fits hb5
  have hR5 := Blk.fits hR3' hb5
  have hD5 := hD3'.fits hb5
  have hg5 := Below.trans hg3' (hb5.mono (by omega))
  have hz5 := Nat.le_trans hz3' hb5.size
  clear hB4 hR3' hD3' hg3' hb5 c0 c1 c2 c3 c4
  go_wp2_with fail
  refine (HE.out w5 _ hD5).mono ?_
  rintro x w6 ⟨rfl, hb6⟩
  have hB6 := hB5.fits hb6
  have hR6 := hR5.fits hb6
  have hg6 := Below.trans hg5 (hb6.mono (by omega))
  clear hB5 hR5 hD5 hg5 hb6
  obtain ⟨c0, c1, c2, c3, c4⟩ := tures hB6
  obtain ⟨r0, r1, r2, r3, r4⟩ := tures hR6
  have f0 := hR6.free 0
  have f1 := hR6.free 1
  have f2 := hR6.free 2
  have f3 := hR6.free 3
  have f4 := hR6.free 4
  by_cases hEE : EE = 0
  · have hCn := HC.out hEE
    have hN := HeN.out
    rw [hCn] at hN
    cases TB with
    | true =>
      rw [if_pos rfl] at hN
      simp only [Prod.mk.injEq] at hN
      obtain ⟨he1, he2⟩ := hN
      have hes : str eb = s := by rw [he1, HS.out]
      have hOt : O = true := by rw [← HO.out, HO2.out]; simp [hEE]
      subst hEE
      subst he2
      rw [hes]
      clear hes he1 hCn
      have Hset := keep (set5 hR6 (.int .i64 (ofS [b, c])) (.int .i64 (ofS [d, e])) (.bool false) (.string (str k)) (.string (str v)))
      have Hbut := keep (but5 w6 w_.heap.size (.int .i64 (ofS [b, c])) (.int .i64 (ofS [d, e])) (.bool false) (.string (str k)) (.string (str v)))
      have Hlt := keep hR6.lt
      have HOt := keep hOt
      clear hR6 hB6 hOt HO HO2 HC HeN HS
      go_wp2_with fail
      refine bodyPost_ret (v := .tuple #[.agg #[.int .i64 (ofS [b, c]), .int .i64 (ofS [d, e]), .bool false, .string (str k), .string (str v)], .int .i64 0]) ?_ rfl (HP1.out _ HOt.out (But.below hg6 Hbut.out (Nat.le_refl _) (Nat.le_of_lt Hlt.out)))
      obtain ⟨s0, s1, s2, s3, s4⟩ := tures Hset.out
      simp [results, Tryz.results28, go_sem, s0, s1, s2, s3, s4]
    | false =>
      rw [if_neg (by simp)] at hN
      simp only [Prod.mk.injEq] at hN
      obtain ⟨he1, he2⟩ := hN
      have hOf : O = false := by rw [← HO.out, HO2.out]; simp
      have HOf := keep hOf
      subst hEE
      subst he2
      clear he1 hCn hOf HO HO2 HC HeN HS
      have Hset := keep (set5 hR6 (.int .i64 0) (.int .i64 0) (.bool false) (.string ⟨#[]⟩) (.string ⟨#[]⟩))
      have Hbut := keep (but5 w6 w_.heap.size (.int .i64 0) (.int .i64 0) (.bool false) (.string ⟨#[]⟩) (.string ⟨#[]⟩))
      have Hlt := keep hR6.lt
      clear hR6 hB6
      go_wp2_with fail
      refine bodyPost_ret (v := .tuple #[tupV noTup, .int .i64 110]) ?_ rfl (HP0.out _ HOf.out (But.below hg6 Hbut.out (Nat.le_refl _) (Nat.le_of_lt Hlt.out)))
      obtain ⟨s0, s1, s2, s3, s4⟩ := tures Hset.out
      simp [results, Tryz.results28, go_sem, s0, s1, s2, s3, s4, tupV, noTup]
      rfl
  · have hOf : O = false := by rw [← HO.out, HO2.out]; simp [hEE]
    have HOf := keep hOf
    have qE : (EE != 0) = true := by simp [hEE]
    clear hOf HO HO2 HC HeN HS
    have Hset := keep (set5 hR6 (.int .i64 0) (.int .i64 0) (.bool false) (.string ⟨#[]⟩) (.string ⟨#[]⟩))
    have Hbut := keep (but5 w6 w_.heap.size (.int .i64 0) (.int .i64 0) (.bool false) (.string ⟨#[]⟩) (.string ⟨#[]⟩))
    have Hlt := keep hR6.lt
    clear hR6 hB6
    go_wp2_with fail
    refine bodyPost_ret (v := .tuple #[tupV noTup, .int .i64 110]) ?_ rfl (HP0.out _ HOf.out (But.below hg6 Hbut.out (Nat.le_refl _) (Nat.le_of_lt Hlt.out)))
    obtain ⟨s0, s1, s2, s3, s4⟩ := tures Hset.out
    simp [results, Tryz.results28, go_sem, s0, s1, s2, s3, s4, tupV, noTup]
    rfl

set_option maxHeartbeats 1000000 in
theorem rdec_short (l : List UInt8) (w : World) (h : l.length < 5) : Calls Tryz.prog 28 #[.string (str l)] w (DecPost l w) := by
  have hP := fun (w' : World) (hb : Below w.heap.size w w') => decPost_none (l := l) (decOk_short h) hb
  have hz : (str l).size < 5 := h
  generalize DecPost l w = Q at *
  generalize str l = s at *
  have HP := keep hP
  clear hP h
  obtain ⟨w0, hw0⟩ : ∃ w0, w0 = w.alloc (.cells #[.int .i64 0, .int .i64 0, .bool false, .string ⟨#[]⟩, .string ⟨#[]⟩] 61) := ⟨_, rfl⟩
  have hR0 : Blk w0 w.heap.size 61 [.int .i64 0, .int .i64 0, .bool false, .string ⟨#[]⟩, .string ⟨#[]⟩] := by subst hw0; exact Blk.new w _ [_, _, _, _, _]
  have hg0 : Grow w w0 := by subst hw0; exact (Grow.refl w).alloc _
  have Hset := keep (set5 hR0 (.int .i64 0) (.int .i64 0) (.bool false) (.string ⟨#[]⟩) (.string ⟨#[]⟩))
  have Hbut := keep (but5 w0 w.heap.size (.int .i64 0) (.int .i64 0) (.bool false) (.string ⟨#[]⟩) (.string ⟨#[]⟩))
  have Hlt := keep hR0.lt
  have HG := keep hg0
  obtain ⟨r0, r1, r2, r3, r4⟩ := tures hR0
  have f0 := hR0.free 0
  have f1 := hR0.free 1
  have f2 := hR0.free 2
  have f3 := hR0.free 3
  have f4 := hR0.free 4
  clear hR0 hg0
  go_enter Tryz.func28, Tryz.ntmps28
  go_upto_region 1 with fail
  rw [← hw0]
  clear hw0
  go_wp2_with fail
  refine bodyPost_ret (v := .tuple #[tupV noTup, .int .i64 110]) ?_ rfl (HP.out _ (But.below HG.out Hbut.out (Nat.le_refl _) (Nat.le_of_lt Hlt.out)))
  obtain ⟨s0, s1, s2, s3, s4⟩ := tures Hset.out
  simp [results, Tryz.results28, go_sem, s0, s1, s2, s3, s4, tupV, noTup]
  rfl
set_option maxHeartbeats 1000000 in
theorem rdec_flag (l : List UInt8) (w : World) (h : 5 ≤ l.length) (h1 : (l.getD 0 0).toNat ≠ 1) (h3 : (l.getD 0 0).toNat ≠ 3) : Calls Tryz.prog 28 #[.string (str l)] w (DecPost l w) := by
  have hk : decOk l = false := by
    cases hk : decOk l with
    | false => rfl
    | true =>
      unfold decOk at hk
      simp only [Bool.and_eq_true, decide_eq_true_eq] at hk
      omega
  have hP := fun (w' : World) (hb : Below w.heap.size w w') => decPost_none hk hb
  have hz : 5 ≤ (str l).size := h
  have hz0 : 0 < (str l).size := by omega
  have i0 : ∀ h : 0 < (str l).size, ((str l)[0]'h).toNat = (l.getD 0 0).toNat := by
    intro h
    cases l with
    | nil => cases h
    | cons a r => rfl
  have hi0 := i0 hz0
  clear i0 hk
  generalize (l.getD 0 0).toNat = A at *
  generalize DecPost l w = Q at *
  generalize str l = s at *
  have q1 : ((A : Int) != 1) = true := by simp; omega
  have q3 : ((A : Int) != 3) = true := by simp; omega
  have HP := keep hP
  clear hP h
  obtain ⟨w0, hw0⟩ : ∃ w0, w0 = w.alloc (.cells #[.int .i64 0, .int .i64 0, .bool false, .string ⟨#[]⟩, .string ⟨#[]⟩] 61) := ⟨_, rfl⟩
  have hR0 : Blk w0 w.heap.size 61 [.int .i64 0, .int .i64 0, .bool false, .string ⟨#[]⟩, .string ⟨#[]⟩] := by subst hw0; exact Blk.new w _ [_, _, _, _, _]
  have hg0 : Grow w w0 := by subst hw0; exact (Grow.refl w).alloc _
  have Hset := keep (set5 hR0 (.int .i64 0) (.int .i64 0) (.bool false) (.string ⟨#[]⟩) (.string ⟨#[]⟩))
  have Hbut := keep (but5 w0 w.heap.size (.int .i64 0) (.int .i64 0) (.bool false) (.string ⟨#[]⟩) (.string ⟨#[]⟩))
  have Hlt := keep hR0.lt
  have HG := keep hg0
  obtain ⟨r0, r1, r2, r3, r4⟩ := tures hR0
  have f0 := hR0.free 0
  have f1 := hR0.free 1
  have f2 := hR0.free 2
  have f3 := hR0.free 3
  have f4 := hR0.free 4
  clear hR0 hg0
  go_enter Tryz.func28, Tryz.ntmps28
  go_upto_region 1 with fail
  rw [← hw0]
  clear hw0
  go_wp2_with fail
  refine bodyPost_ret (v := .tuple #[tupV noTup, .int .i64 110]) ?_ rfl (HP.out _ (But.below HG.out Hbut.out (Nat.le_refl _) (Nat.le_of_lt Hlt.out)))
  obtain ⟨s0, s1, s2, s3, s4⟩ := tures Hset.out
  simp [results, Tryz.results28, go_sem, s0, s1, s2, s3, s4, tupV, noTup]
  rfl
theorem rdec_any (l : List UInt8) (w : World) (hs : (l.length : Int) ≤ 4611686018427387000) : Calls Tryz.prog 28 #[.string (str l)] w (DecPost l w) := by
  by_cases h5 : 5 ≤ l.length
  · by_cases h1 : (l.getD 0 0).toNat = 1
    · obtain ⟨a, b, c, d, e, r, rfl⟩ := five_head h5
      have ha : a = 1 := UInt8.toNat_inj.1 h1
      subst ha
      exact rdec_false b c d e r w (by simp at hs; omega)
    · by_cases h3 : (l.getD 0 0).toNat = 3
      · obtain ⟨a, b, c, d, e, r, rfl⟩ := five_head h5
        have ha : a = 3 := UInt8.toNat_inj.1 h3
        subst ha
        exact rdec_true b c d e r w (by simp at hs; omega)
      · exact rdec_flag l w h5 h1 h3
  · exact rdec_short l w (by omega)

end Go.Proofs.YtikmkimkhngihaaGreat
