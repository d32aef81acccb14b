import Derived.Test.YtaninphcgeaepaaGreatKRu3
import Derived.Test.YtaninphcgeaepaaGreatKAp1
/- The document's answers: Child. -/
namespace Go.Proofs.YtaninphcgeaepaaGreat
open Go.RowKit
attribute [local go_sem] givesF_none givesF_some evalF_tmp evalF_const evalF_global evalF_func lookL isB_bool isB_undef givesUpon_value givesUpon_skip givesUpon_enter

theorem pos_iff {l : List En} {t : En} (h : Sorted l) (i : Nat) (hi : i < l.length) : cmpE l[i] t < 0 ↔ i < posE l t := by
  constructor
  · intro hc
    have h1 := search_low h hi hc
    have h2 : posE l t = (l.take (i + 1)).countP (fun x => decide (cmpE x t < 0)) + (l.drop (i + 1)).countP (fun x => decide (cmpE x t < 0)) := by
      unfold posE
      rw [← List.countP_append, List.take_append_drop]
    have h3 : (l.take (i + 1)).countP (fun x => decide (cmpE x t < 0)) = (l.take (i + 1)).length := by
      rw [List.countP_eq_length]
      intro x hx
      obtain ⟨j, hj, rfl⟩ := List.getElem_of_mem hx
      rw [List.length_take] at hj
      rw [List.getElem_take]
      exact decide_eq_true (h1 j (by omega) (by omega))
    rw [List.length_take] at h3
    omega
  · intro hp
    by_cases hc : cmpE l[i] t < 0
    · exact hc
    · exfalso
      have h1 := search_high h hi hc
      have h2 : posE l t = (l.take i).countP (fun x => decide (cmpE x t < 0)) + (l.drop i).countP (fun x => decide (cmpE x t < 0)) := by
        unfold posE
        rw [← List.countP_append, List.take_append_drop]
      have h3 : (l.drop i).countP (fun x => decide (cmpE x t < 0)) = 0 := by
        rw [List.countP_eq_zero]
        intro x hx
        obtain ⟨j, hj, rfl⟩ := List.getElem_of_mem hx
        rw [List.length_drop] at hj
        rw [List.getElem_drop]
        simpa using h1 (i + j) (by omega) (by omega)
      have h4 : (l.take i).countP (fun x => decide (cmpE x t < 0)) ≤ (l.take i).length := List.countP_le_length
      rw [List.length_take] at h4
      omega
/-- Where the way leads, of the first n separators. -/
def wayTo (Q : List Int) (pos n : Nat) : Int := if min n pos = 0 then 0 else Q.getD (min n pos - 1) 0
theorem way_low {Q : List Int} {pos n : Nat} (h : n < pos) : wayTo Q pos (n + 1) = Q.getD n 0 := by
  unfold wayTo
  rw [show min (n + 1) pos = n + 1 by omega, if_neg (by omega), Nat.add_sub_cancel]
theorem way_high {Q : List Int} {pos n : Nat} (h : ¬ n < pos) : wayTo Q pos (n + 1) = wayTo Q pos n := by
  unfold wayTo
  rw [show min (n + 1) pos = min n pos by omega]

set_option maxRecDepth 100000 in
set_option maxHeartbeats 4000000 in
theorem rchild_node (P : Pg) (iv : Value) (e : En) (w_ : World) (hin : PgIn w_ iv P) :
    Calls Tryz.prog 41 #[pgV P iv, enV e] w_ fun x w' => x = .returned (.tuple #[.int .i64 (childN P e).1, .int .i64 (childN P e).2]) ∧ Below w_.heap.size w_ w' := by
  have hd : childN P e = if openOk P && (!decide (P.level = 0) && (enOk e && !beyN (bdN P) (hiN P) e)) then ((kidsN P).getD (posE (ensN P) e - 1) 0, 0) else (0, 140) := rfl
  have hbd : beyondN P e = if openOk P && enOk e then (beyN (bdN P) (hiN P) e, 0) else (false, 140) := rfl
  have hso := fun (h : openOk P = true) => open_sorted h
  have hp1 := fun (h : openOk P = true) (h2 : P.level ≠ 0) (h3 : enOk e = true) => pos_one h h2 h3
  have hkl := fun (h2 : P.level ≠ 0) => (kidsN_length h2).trans (ensN_length P).symm
  have hky : kidsOk P = (openOk P && !decide (P.level = 0)) := rfl
  have h255 := fun (h : openOk P = true) => (show (ensN P).length ≤ 255 by rw [ensN_length]; exact (open_fine h).1)
  generalize hX : childN P e = X at *
  obtain ⟨xb, xc⟩ := X
  dsimp only
  obtain ⟨k, p, s⟩ := e
  obtain ⟨w0, hw0⟩ : ∃ w0, w0 = ((w_.alloc (.cells (pgCells P iv).toArray 24)).alloc (.cells #[.string (str k), .int .i64 p, .int .i64 s] 41)) := ⟨_, rfl⟩
  have hg0 : Grow w_ w0 := by subst hw0; exact ((Grow.refl w_).alloc _).alloc _
  have hB0 : Blk w0 w_.heap.size 24 (pgCells P iv) := by
    have := (Blk.new w_ 24 (pgCells P iv)).alloc (.cells #[.string (str k), .int .i64 p, .int .i64 s] 41)
    subst hw0; exact this
  have hE0 : Blk w0 (w_.heap.size + 1) 41 [.string (str k), .int .i64 p, .int .i64 s] := by
    have := Blk.new (w_.alloc (.cells (pgCells P iv).toArray 24)) 41 [.string (str k), .int .i64 p, .int .i64 s]
    have e : (w_.alloc (.cells (pgCells P iv).toArray 24)).heap.size = w_.heap.size + 1 := by simp
    rw [e] at this
    subst hw0; exact this
  have hkd := rkids_any P iv w0 (hin.fits hg0)
  have hbe := fun (u : World) (hu : Grow w_ u) => rbeyond_any P iv (k, p, s) u (hin.fits hu)
  obtain ⟨ia, ic, rfl⟩ := items_form hin.1
  unfold pgCells at hw0 hB0
  unfold pgV enV at *
  generalize beyondN P (k, p, s) = B at *
  obtain ⟨ob, oc⟩ := B
  dsimp only at hbe
  have HKd := keep hkd
  have HBe := keep hbe
  have HD := keep hd
  have HBd := keep hbd
  have HSo := keep hso
  have HP1 := keep hp1
  have HKl := keep hkl
  have HKy := keep hky
  have H255 := keep h255
  have HB0 := keep hB0
  have HE0 := keep hE0
  have HG0 := keep hg0
  obtain ⟨p0, p1, p2, p3, p4, p5, _⟩ := pgres hB0
  clear hkd hbe hd hbd hso hp1 hkl hky h255 hB0 hE0 hg0 hin hX
  go_enter Tryz.func41, Tryz.ntmps41
  go_upto_region 1 with fail
  rw [← hw0]
  clear hw0
  go_wp2_with fail
  refine HKd.out.mono ?_
  rintro x w1 hx
  unfold KidsPost at hx
  obtain ⟨hx, hb1⟩ := hx
  obtain ⟨q0, q1, q2, q3, q4, q5, _⟩ := pgres (HB0.out.fits hb1)
  obtain ⟨e0, e1, e2, _⟩ := enres (HE0.out.fits hb1)
  clear p0 p1 p2 p3 p4 p5 HKd
  cases hK : kidsOk P with
  | false =>
    rw [hK, if_neg (by decide)] at hx
    subst hx
    have hno : (xb, xc) = ((0 : Int), (140 : Int)) := by
      rw [HD.out]
      have h1 := HKy.out
      rw [hK] at h1
      rw [← Bool.and_assoc, ← h1, Bool.false_and]
      rfl
    simp only [Prod.mk.injEq] at hno
    obtain ⟨rfl, rfl⟩ := hno
    clear hK
    go_wp2_with fail
    refine (HBe.out w1 (Grow.trans HG0.out hb1)).mono ?_
    rintro x w2 ⟨rfl, hb2⟩
    go_wp2_with fail
    go_ret2
    exact ⟨rfl, Grow.trans HG0.out (Grow.trans hb1 hb2)⟩
  | true =>
    rw [hK, if_pos rfl] at hx
    obtain ⟨a, c, a2, c2, rfl, hes, hks⟩ := hx
    have h1 := HKy.out
    rw [hK] at h1
    have h2 : openOk P = true ∧ P.level ≠ 0 := by simpa using h1.symm
    obtain ⟨hO, hlv⟩ := h2
    have hd := HD.out
    have hbd := HBd.out
    rw [hO, decide_eq_false hlv] at hd
    rw [hO] at hbd
    have hso := HSo.out hO
    have hp1 := HP1.out hO hlv
    have hkl := HKl.out hlv
    have h255 := H255.out hO
    generalize ensN P = L at *
    generalize kidsN P = Q at *
    clear hK h1 HD HBd HSo HP1 HKl HKy H255
    have HEs := keep hes
    have HKs := keep hks
    have HDd := keep hd
    have HBdd := keep hbd
    have HSo := keep hso
    have HP1 := keep hp1
    have HKl := keep hkl
    clear hes hks hd hbd hso hp1 hkl hO hlv
    go_wp2_with fail
    refine (HBe.out w1 (Grow.trans HG0.out hb1)).mono ?_
    rintro x w2 ⟨rfl, hb2⟩
    have HG2 := keep (Grow.trans HG0.out (Grow.trans hb1 hb2))
    have HE2 := keep (HE0.out.fits (Grow.trans hb1 hb2))
    have HB12 := keep hb2
    clear q0 q1 q2 q3 q4 q5 e0 e1 e2 hb1 hb2
    cases hA : enOk (k, p, s) with
    | false =>
      have hx := HDd.out
      have hy := HBdd.out
      rw [hA] at hx hy
      simp only [Bool.and_false, Bool.false_and, Bool.false_eq_true, if_false, Prod.mk.injEq] at hx hy
      obtain ⟨rfl, rfl⟩ := hx
      obtain ⟨rfl, rfl⟩ := hy
      clear hA HDd HBdd HP1
      go_wp2_with fail
      go_ret2
      exact ⟨rfl, HG2.out⟩
    | true =>
      have hx := HDd.out
      have hy := HBdd.out
      have hp9 := HP1.out hA
      rw [hA] at hx hy
      simp only [Bool.and_true, Bool.true_and, Bool.not_false, if_true, Prod.mk.injEq] at hx hy
      obtain ⟨hy, rfl⟩ := hy
      rw [← hy] at hx
      clear hA HDd HBdd HP1 hy
      cases ob with
      | true =>
        simp only [Bool.not_true, Bool.false_eq_true, if_false, Prod.mk.injEq] at hx
        obtain ⟨rfl, rfl⟩ := hx
        go_wp2_with fail
        go_ret2
        exact ⟨rfl, HG2.out⟩
      | false =>
        simp only [Bool.not_false, if_true, Prod.mk.injEq] at hx
        obtain ⟨hxb, rfl⟩ := hx
        have HPi := keep (fun (i : Nat) (hi : i < L.length) => pos_iff (t := (k, p, s)) HSo.out i hi)
        have hpl : posE L (k, p, s) ≤ L.length := posE_le _ _
        generalize posE L (k, p, s) = J at *
        have HXb := keep hxb
        clear hxb
        go_wp2_with fail
        go_loopw [11, 12] (fun x i wr => ∃ n : Nat, n ≤ L.length ∧ x = .int .i64 (wayTo Q J n) ∧ i = .int .i64 n ∧ Kept (Grow w2 wr)) (fun _ i _ => L.length - (intOf i).toNat)
        case atStart => exact ⟨0, Nat.zero_le _, by unfold wayTo; simp, rfl, keep (Grow.refl _)⟩
        case round =>
          obtain ⟨n, hn, rfl, rfl, HG⟩ := hrel
          by_cases hlt : n < L.length
          · obtain ⟨ce, offe, cape, ee, hce⟩ := ens_at HEs.out hlt
            obtain ⟨ck, offk, capk, ek, hck⟩ := ints_at HKs.out.weak (k := n) (by rw [HKl.out]; exact hlt)
            simp only [Value.slice.injEq] at ee ek
            obtain ⟨rfl, x1, x2⟩ := ee
            obtain ⟨rfl, x3, x4⟩ := ek
            have hpi := HPi.out n hlt
            have hcp := fun (u : World) => rcompare_any L[n] (k, p, s) u
            have hqd : Q[n]'(by rw [HKl.out]; exact hlt) = Q.getD n 0 := by simp [HKl.out, hlt]
            rw [hqd] at hck
            have hql : n < Q.length := by rw [HKl.out]; exact hlt
            generalize L[n] = g at *
            obtain ⟨gk, gp, gs⟩ := g
            unfold enV at hcp
            dsimp only at hcp hce
            have HCp := keep hcp
            have HPn := keep hpi
            have HC9 := keep (fun (u : World) (hu : Grow wr.drew u) => hce u (Grow.trans HB12.out (Grow.trans HG.out (Grow.undrew hu))))
            have HK9 := keep (fun (u : World) (hu : Grow wr u) => hck u (Grow.trans HB12.out (Grow.trans HG.out hu)))
            have HE9 := keep (fun (u : World) (hu : Grow wr.drew u) => enres (HE2.out.fits (Grow.trans HG.out (Grow.undrew hu))))
            clear hcp hpi hce hck x1 x2 x3 x4 hqd
            go_upto_region 9 with fail
            refine wp_region_grow_named (by kernel_rfl) 6 (by kernel_rfl) [(40, 0), (41, 1), (42, 2), (43, 3), (44, 4), (45, 5)] (by kernel_rfl) [(0, true), (1, true), (2, true), (3, true), (4, true), (5, true)] (by kernel_rfl) rfl rfl ?_
            intro a0 ha0
            have hsz : a0.tmps.size = 52 := (size_at ha0).trans rfl
            have s3 := slot_at ha0 3 rfl
            have s6 := slot_at ha0 6 rfl
            have s12 := slot_at ha0 12 rfl
            have HA0 := keep ha0
            clear ha0
            -- operation 0
            apply lexf_eq hsz [] [(41, 1), (43, 3), (44, 4), (45, 5), (46, 6)] none (by kernel_rfl) (by kernel_rfl) (by kernel_rfl) (by kernel_rfl) rfl
            · intro xs w hw hp K hK
              go_simp
              exact hK _ (Grow.refl _)
            -- operation 1
            apply lexf_eq hsz [] [(40, 0), (43, 3), (44, 4), (45, 5), (46, 6)] none (by kernel_rfl) (by kernel_rfl) (by kernel_rfl) (by kernel_rfl) rfl
            · intro xs w hw hp K hK
              go_simp
              exact hK _ (Grow.refl _)
            -- operation 2
            apply lexf_eq hsz [(0, true), (1, true)] [(40, 0), (41, 1), (44, 4), (45, 5), (46, 6)] none (by kernel_rfl) (by kernel_rfl) (by kernel_rfl) (by kernel_rfl) rfl
            · intro xs w hw hp K hK
              simp only [holdsL, List.nil_append, List.cons_append, List.getD_cons_succ, List.getD_cons_zero, if_true, and_true] at hp
              have q1 : n < L.length := hlt
              have q2 : (n : Int) < (L.length : Int) := by omega
              go_simp
              exact hK _ (Grow.refl _)
            -- operation 3
            apply lexf_eq hsz [(2, true)] [(40, 0), (41, 1), (42, 2), (44, 4), (46, 6)] none (by kernel_rfl) (by kernel_rfl) (by kernel_rfl) (by kernel_rfl) rfl
            · intro xs w hw hp K hK
              simp only [holdsL, List.nil_append, List.cons_append, List.getD_cons_succ, List.getD_cons_zero, if_true, and_true] at hp
              obtain ⟨c0, c1, c2⟩ := HC9.out w hw
              go_simp
              exact hK _ (Grow.refl _)
            -- operation 4
            apply lexf_eq hsz [] [(40, 0), (41, 1), (42, 2), (43, 3), (46, 6)] none (by kernel_rfl) (by kernel_rfl) (by kernel_rfl) (by kernel_rfl) rfl
            · intro xs w hw hp K hK
              obtain ⟨c0, c1, c2, _⟩ := HE9.out w hw
              go_simp
              exact hK _ (Grow.refl _)
            -- operation 5
            apply lexf_eq hsz [(3, true), (4, true)] [(40, 0), (41, 1), (42, 2), (43, 3), (44, 4)] none (by kernel_rfl) (by kernel_rfl) (by kernel_rfl) (by kernel_rfl) rfl
            · intro xs w hw hp K hK
              simp only [holdsL, List.nil_append, List.cons_append, List.getD_cons_succ, List.getD_cons_zero, if_true, and_true] at hp
              go_simp
              exact (HCp.out w).mono fun e w' h => ⟨_, h.1, hK _ h.2⟩
            intro xs w hw hp
            have ha0 := HA0.out
            clear HA0 hsz s3 s6 s12
            simp only [holdsL, List.nil_append, List.cons_append, List.getD_cons_succ, List.getD_cons_zero, if_true, and_true] at hp
            have h5 := hp.2.2.2.2.2
            clear hp
            subst ha0
            simp only [putAll, h5]
            have hg9 := Grow.undrew hw
            have HG9 := keep (Grow.trans HG.out hg9)
            have c0 := HK9.out _ hg9
            clear hw h5 HC9 HK9 HE9 hg9
            by_cases hlow : cmpE (gk, gp, gs) (k, p, s) < 0
            · have HLow := keep (way_low (Q := Q) (HPn.out.1 hlow))
              have q1 : (n : Int) < (Q.length : Int) := by omega
              go_wp2_with fail
              go_roundw
              case rel => exact ⟨n + 1, by omega, by rw [HLow.out]; simp [hql], by go_num, HG9⟩
              case measure => simp [intOf]; omega
            · have HHi := keep (way_high (Q := Q) (fun h => hlow (HPn.out.2 h)))
              go_wp2_with fail
              go_roundw
              case rel => exact ⟨n + 1, by omega, by rw [HHi.out], by go_num, HG9⟩
              case measure => simp [intOf]; omega
          · have e : n = L.length := by omega
            subst e
            have hwy : wayTo Q J L.length = Q.getD (J - 1) 0 := by
              unfold wayTo
              rw [show min L.length J = J by omega, if_neg (by omega)]
            rw [hwy]
            clear hwy
            go_wp2_with fail
            go_ret2
            rw [HXb.out]
            exact ⟨rfl, Grow.trans HG2.out HG.out⟩

end Go.Proofs.YtaninphcgeaepaaGreat
