import Derived.Test.YtmhepfehcakmjaaGreatKLexm
import Derived.Test.YtmhepfehcakmjaaGreatKOp2
import Derived.Deep.CutRange
namespace Go.Proofs.YtmhepfehcakmjaaGreat
open Go.RowKit
attribute [local go_sem] givesV lookV knAt givesF_none givesF_some evalF_tmp evalF_const evalF_global evalF_func lookL isB_bool isB_undef givesUpon_value givesUpon_skip givesUpon_enter
attribute [local simp] eql_least
attribute [local go_sem] guard_entry
theorem OpAt.setHigh {w : World} {b : Nat} (h : OpAt w b [] [] leastE false (.slice none 0 0) (.slice none 0 0)) (e : En) :
  OpAt ((((w.setCell ⟨b, 2, none⟩ (.string (str e.1))).setCell ⟨b, 3, none⟩ (.int .i64 e.2.1)).setCell ⟨b, 4, none⟩ (.int .i64 e.2.2)).setCell ⟨b, 5, none⟩ (.bool true)) b [] [] e true (.slice none 0 0) (.slice none 0 0) :=
 ⟨(((h.blk.set 2 _).set 3 _).set 4 _).set 5 _, World.ownsRow_nil _ _ _ _, World.ownsRow_nil _ _ _ _⟩
theorem okTo_no {lv : Int} {hi : En} {bd : Bool} {items : List (List UInt8)} {k m : Nat} (h : okTo lv hi bd items k = false) (hm : k ≤ m) : okTo lv hi bd items m = false := by
 induction m with
 | zero => have : k = 0 := by omega
           rw [← this]; exact h
 | succ m ih =>
  by_cases e : k = m + 1
  ·rw [← e]; exact h
  ·rw [okTo, ih (by omega)]; rfl
theorem open_no {P : Pg} {k : Nat} (h : okTo P.level (hiN P) (bdN P) P.items k = false) (hk : k ≤ P.items.length) : false = openOk P := by
 unfold openOk
 rw [okTo_no h hk]
 simp
theorem round_no1 {lv : Int} {hi : En} {bd : Bool} {k : Nat} {pr x : En × Int × Int} (h : (decide (x.2.2 ≠ 0) || (decide (0 < k) && decide (0 ≤ cmpE pr.1 x.1))) = true) : roundOk lv hi bd k pr x = false := by
 unfold roundOk
 by_cases h1 : x.2.2 = 0
 ·have h2 : 0 < k ∧ 0 ≤ cmpE pr.1 x.1 := by simpa [h1] using h
  have h3 : (decide (k = 0) || decide (cmpE pr.1 x.1 < 0)) = false := by
   rw [decide_eq_false (show ¬ k = 0 by omega), decide_eq_false (show ¬ cmpE pr.1 x.1 < 0 by omega)]; rfl
  rw [h3]; simp
 ·rw [decide_eq_false h1]; simp
theorem round_no2 {lv : Int} {hi : En} {bd : Bool} {k : Nat} {pr x : En × Int × Int} (h : (bd && (decide (0 < cmpE x.1 hi) || (decide (cmpE x.1 hi = 0) && decide (0 < lv)))) = true) : roundOk lv hi bd k pr x = false := by
 unfold roundOk
 rw [Bool.and_eq_true] at h
 rw [h.1, h.2]; simp
theorem round_yes {lv : Int} {hi : En} {bd : Bool} {k : Nat} {pr x : En × Int × Int} (h0 : lv ≠ 0 → isL x.1 = decide (k = 0)) (h1 : (decide (x.2.2 ≠ 0) || (decide (0 < k) && decide (0 ≤ cmpE pr.1 x.1))) = false)
  (h2 : (bd && (decide (0 < cmpE x.1 hi) || (decide (cmpE x.1 hi = 0) && decide (0 < lv)))) = false) : roundOk lv hi bd k pr x = true := by
 unfold roundOk
 rw [Bool.or_eq_false_iff, decide_eq_false_iff_not, Decidable.not_not] at h1
 have a0 : (decide (lv = 0) || (decide (x.1 = leastE) == decide (k = 0))) = true := by
  by_cases hl : lv = 0
  ·rw [decide_eq_true hl]; rfl
  ·have : decide (x.1 = leastE) = decide (k = 0) := h0 hl
   rw [this]; simp
 have a1 : (decide (k = 0) || decide (cmpE pr.1 x.1 < 0)) = true := by
  by_cases hk : k = 0
  ·rw [decide_eq_true hk]; rfl
  ·have := h1.2
   rw [decide_eq_true (show 0 < k by omega), Bool.true_and, decide_eq_false_iff_not] at this
   rw [decide_eq_true (show cmpE pr.1 x.1 < 0 by omega)]; simp
 have a2 : (!bd || !(decide (0 < cmpE x.1 hi) || (decide (cmpE x.1 hi = 0) && decide (0 < lv)))) = true := by
  generalize (decide (0 < cmpE x.1 hi) || (decide (cmpE x.1 hi = 0) && decide (0 < lv))) = q at *
  cases bd <;> cases q <;> simp_all
 rw [a0, a1, a2, decide_eq_true h1.1]; rfl
structure Put (r t : Nat) (vs : List Value) (u v : World) : Prop where
 but : But r u v
 six : (∃ a0 a1 a2 a3 a4 a5, Blk u r t [a0, a1, a2, a3, a4, a5]) → ∃ a0 a1 a2 a3 a4 a5, Blk v r t [a0, a1, a2, a3, a4, a5]
 vs : Blk u r t vs → Blk v r t vs
theorem Put.refl {r t : Nat} {vs : List Value} (u : World) : Put r t vs u u := ⟨But.refl _ _, id, id⟩
theorem Put.trans {r t : Nat} {vs : List Value} {u v w : World} (h : Put r t vs u v) (k : Put r t vs v w) : Put r t vs u w := ⟨h.but.trans k.but, fun x => k.six (h.six x), fun x => k.vs (h.vs x)⟩
theorem Put.undrew {r t : Nat} {vs : List Value} {u v : World} (h : Put r t vs u.drew v) : Put r t vs u v := ⟨⟨h.but.os, h.but.tape, h.but.output, h.but.size, h.but.block⟩, h.six, h.vs⟩
theorem ens_cells {w : World} {v : Value} {l : List En} {t : Nat} (h : Row w t v l.length (eCells l)) (hl : 0 < l.length) :
  ∃ c off cap, v = .slice (some ⟨c, off, none⟩) l.length cap ∧ ∀ j (hj : j < l.length), w.cell? ⟨c, off + j * 3, none⟩ = some (.string (str l[j].1)) ∧ w.cell? ⟨c, off + j * 3 + 1, none⟩ = some (.int .i64 l[j].2.1) ∧ w.cell? ⟨c, off + j * 3 + 2, none⟩ = some (.int .i64 l[j].2.2) := by
 rcases h with ⟨h1, _⟩ | ⟨c, off, cap, h1, h3⟩
 ·omega
 ·refine ⟨c, off, cap, h1, fun j hj => ?_⟩
  have g : ∀ i (hi : i < 3), w.cell? ⟨c, off + j * 3 + i, none⟩ = (enC l[j])[i]? := by
   intro i hi
   have hb : 3 * j + i < (eCells l).length := by rw [eCells_length]; omega
   have := h3 (3 * j + i) hb
   rw [show off + j * 3 + i = off + (3 * j + i) by omega, this, ← List.getElem?_eq_getElem hb, eCells_at l j i hj hi]
  exact ⟨g 0 (by omega), g 1 (by omega), g 2 (by omega)⟩
set_option maxRecDepth 100000 in
set_option maxHeartbeats 10000000 in
theorem opened_in (P : Pg) (iv : Value) (w_ : World) (hi : Items w_ iv P.items) (hs : ∀ x ∈ P.items, (x.length : Int) ≤ 140737488355328) (hh : (P.high.length : Int) ≤ 140737488355328) (hl : (P.items.length : Int) ≤ 140737488355328) (hlsn : P.lsn ≤ 9223372036854775807)
  (hhead : headOk P = true) : Calls Tryz.prog 108 #[pgV P iv] w_ (OpenCap P w_) := by
 have hfine : encOk P = true ∧ P.kind = 3 ∧ inB P.right 0 65535 = true ∧ (P.high = [] ∨ (decN P.high).2 = 0) := by
  simpa [headOk, and_assoc] using hhead
 obtain ⟨he, hk, hr, hhi⟩ := hfine
 obtain ⟨hf1, hf2, hf3, hf4, hf5, hf6⟩ := encOk_fine he
 have HF := keep (And.intro hf1 (And.intro hf3 (And.intro hf4 hf5)))
 have HHead := keep hhead
 have HHi := keep hhi
 have hk2 : (P.kind != 3) = false := by simp [hk]
 have hwi := fun u => within_any P.right 0 65535 u
 rw [hr] at hwi
 have HWi := keep hwi
 clear hk hr hwi hhead hhi hf1 hf2 hf3 hf4 hf5 hf6
 obtain ⟨w1, hw1⟩ : ∃ w1, w1 = ((w_.alloc (.cells (pgCells P iv).toArray 24)).alloc (.cells #[.slice none 0 0, .slice none 0 0, .string ⟨#[]⟩, .int .i64 0, .int .i64 0, .bool false] 170)).alloc (.cells #[.slice none 0 0, .slice none 0 0, .string ⟨#[]⟩, .int .i64 0, .int .i64 0, .bool false] 170) := ⟨_, rfl⟩
 have hg1 : Grow w_ w1 := by subst hw1; exact (((Grow.refl w_).alloc _).alloc _).alloc _
 have hz1 : w1.heap.size = w_.heap.size + 3 := by subst hw1; simp
 have hP1 : Blk w1 w_.heap.size 24 (pgCells P iv) := by subst hw1; exact ((Blk.new w_ _ _).alloc _).alloc _
 have hR1 : Blk w1 (w_.heap.size + 1) 170 [.slice none 0 0, .slice none 0 0, .string ⟨#[]⟩, .int .i64 0, .int .i64 0, .bool false] := by
  have := (Blk.new (w_.alloc (.cells (pgCells P iv).toArray 24)) 170 [.slice none 0 0, .slice none 0 0, .string ⟨#[]⟩, .int .i64 0, .int .i64 0, .bool false]).alloc (.cells #[.slice none 0 0, .slice none 0 0, .string ⟨#[]⟩, .int .i64 0, .int .i64 0, .bool false] 170)
  have e : (w_.alloc (.cells (pgCells P iv).toArray 24)).heap.size = w_.heap.size + 1 := by simp
  rw [e] at this
  subst hw1; exact this
 have hO1 : OpAt w1 (w_.heap.size + 2) [] [] leastE false (.slice none 0 0) (.slice none 0 0) := by
  have := Blk.new ((w_.alloc (.cells (pgCells P iv).toArray 24)).alloc (.cells #[.slice none 0 0, .slice none 0 0, .string ⟨#[]⟩, .int .i64 0, .int .i64 0, .bool false] 170)) 170 [.slice none 0 0, .slice none 0 0, .string ⟨#[]⟩, .int .i64 0, .int .i64 0, .bool false]
  have e : ((w_.alloc (.cells (pgCells P iv).toArray 24)).alloc (.cells #[.slice none 0 0, .slice none 0 0, .string ⟨#[]⟩, .int .i64 0, .int .i64 0, .bool false] 170)).heap.size = w_.heap.size + 2 := by simp
  rw [e] at this
  subst hw1; exact ⟨this, World.ownsRow_nil _ _ _ _, World.ownsRow_nil _ _ _ _⟩
 have hI1 := Row.fits hi hg1
 have hen := pageEnc_any P iv w1 hI1 hs hh hl hlsn
 obtain ⟨ia, ic, rfl⟩ := items_form hi
 have HEn := keep hen
 have HI := keep hi
 have HS := keep hs
 have HP1 := keep hP1
 clear hen hi hI1 hs
 unfold pgCells at hw1 hP1
 have hw0 := w_.heap.size.zero_le
 have HEnc := keep he
 clear he
 unfold pgV
 have HLen := keep hl
 go_enter Tryz.func108, Tryz.ntmps108
 go_upto_region 2 with fail
 rw [← hw1]
 clear hw1
 have e1 : w_.heap.size + 1 + 1 = w_.heap.size + 2 := by omega
 rw [e1]
 obtain ⟨p0, p1, p2, p3, p4, p5, _⟩ := pgres hP1
 clear e1
 go_wp2_with fail
 refine HEn.out.mono ?_
 rintro e w2 ⟨es, c, rfl, hc, hb2⟩
 have hc0 : c = 0 := hc.2 HEnc.out
 subst hc0
 have hO2 := hO1.fits hb2
 have hG2 : Below (w_.heap.size + 2) w1 w2 := Below.mono hb2 (by omega)
 have hP2 := hP1.fits hb2
 clear p0 p1 p2 p3 p4 p5 hO1 hb2 hc
 obtain ⟨p0, p1, p2, p3, p4, p5, _⟩ := pgres hP2
 go_wp2_with fail
 refine (HWi.out w2).mono ?_
 rintro x w3 ⟨rfl, rfl⟩
 go_upto_if 36 with fail
 generalize hB : (str P.high).toList.isEmpty = B
 have HB := keep hB
 clear hB
 go_cut [] from 36 to 48 (fun wx => OpAt wx (w_.heap.size + 2) [] [] (hiN P) (bdN P) (.slice none 0 0) (.slice none 0 0) ∧ Below (w_.heap.size + 2) w1 wx)
 case first =>
  cases B with
  | true =>
   have hne : P.high = [] := by have := HB.out; rw [str_list] at this; simpa using this
   have hhi : hiN P = leastE := by unfold hiN; rw [if_pos hne]
   have hbd : bdN P = false := by unfold bdN; simp [hne]
   have HHB := keep (And.intro hhi hbd)
   clear hne hhi hbd
   go_wp2_with fail
   all_goals go_meet
   all_goals (case rel => rw [HHB.out.1, HHB.out.2]; exact ⟨hO2, hG2⟩)
  | false =>
   have hne : P.high ≠ [] := by have := HB.out; rw [str_list] at this; simpa using this
   have hhi : hiN P = (decN P.high).1 := by unfold hiN; rw [if_neg hne]
   have hbd : bdN P = true := by unfold bdN; simp [hne]
   have hde := fun u => decode_any P.high u (by have := hh; omega)
   have hz : (decN P.high).2 = 0 := HHi.out.resolve_left hne
   generalize decN P.high = D at *
   obtain ⟨de, dc⟩ := D
   dsimp only at hde hz hhi
   subst hz
   have HHB := keep (And.intro hhi hbd)
   have HDe := keep hde
   clear hne hhi hbd hde
   go_wp2_with fail
   refine (HDe.out w2).mono ?_
   rintro x w3 ⟨rfl, hb3⟩
   have hO3 := hO2.fits hb3
   have hG3 := Below.trans hG2 (Below.mono hb3 (Nat.le_of_lt hO2.blk.lt))
   clear p0 p1 p2 p3 p4 p5 hO2 hb3 hG2
   unfold enV
   go_upto_region 7 with fail
   obtain ⟨w4, hw4⟩ : ∃ w4, w4 = w3.alloc (.cells #[.string (str de.1), .int .i64 de.2.1, .int .i64 de.2.2] 102) := ⟨_, rfl⟩
   rw [← hw4]
   have hb4 : Grow w3 w4 := by subst hw4; exact (Grow.refl _).alloc _
   have hX4 : Blk w4 w3.heap.size 102 [.string (str de.1), .int .i64 de.2.1, .int .i64 de.2.2] := by subst hw4; exact Blk.new w3 _ [_, _, _]
   have hO4 := hO3.fits hb4
   have hG4 := Below.trans hG3 (Below.mono hb4 (Nat.le_of_lt hO3.blk.lt))
   clear hw4 hb4 hG3
   obtain ⟨c0, c1, c2, _⟩ := enres hX4
   obtain ⟨o0, o1, o2, o3, o4, o5, f0, f1, f2, f3, f4, f5⟩ := pgres hO4.blk
   have hlt4 := hO3.blk.lt
   have HO4 := keep hO4
   have HG4 := keep hG4
   clear hO4 hG4 hO3 hX4
   go_wp2_with fail
   all_goals go_meet
   all_goals (case rel =>
    rw [HHB.out.1, HHB.out.2]
    exact ⟨HO4.out.setHigh de, But.below HG4.out (((((But.refl (w_.heap.size + 2) w4).setCell 2 _).setCell 3 _).setCell 4 _).setCell 5 _) (Nat.le_refl _) (Nat.le_of_lt HO4.out.blk.lt)⟩)
 case rest =>
  obtain ⟨hO3, hG3⟩ := hcut
  clear p0 p1 p2 p3 p4 p5 hP2 hO2 hG2
  have hP3 := HP1.out.below hG3 (by omega)
  unfold pgCells at hP3
  obtain ⟨p0, p1, p2, p3, p4, p5, _⟩ := pgres hP3
  obtain ⟨iI, hiI, hzI0, hzI1, hzI2⟩ := info_parts infoIntO
  obtain ⟨iE, hiE, hzE0, hzE1, hzE2⟩ := info_parts infoEntryO
  have hzO := hO3.blk.lt
  go_wp2_with fail
  go_loopw [52] (fun i wr => ∃ n : Nat, n ≤ P.items.length ∧ i = .int .i64 n ∧ okTo P.level (hiN P) (bdN P) P.items n = true ∧ (∃ ev cv, OpAt wr (w_.heap.size + 2) (ensTo P.level P.items n) (kidsTo P.level P.items n) (hiN P) (bdN P) ev cv) ∧ Below (w_.heap.size + 2) w1 wr) (fun i _ => P.items.length - (intOf i).toNat)
  case atStart => exact ⟨0, Nat.zero_le _, rfl, rfl, ⟨_, _, by simpa [ensTo, kidsTo] using hO3⟩, hG3⟩
  case round =>
   clear p0 p1 p2 p3 p4 p5 hP3 hO3 hG3 hzO
   obtain ⟨n, hn, rfl, hok, ⟨ev, cv, hO0⟩, hG0⟩ := hrel
   have hP0 := HP1.out.below hG0 (by omega)
   unfold pgCells at hP0
   obtain ⟨p0, p1, p2, p3, p4, p5, _⟩ := pgres hP0
   have HOk := keep hok
   clear hok
   by_cases hlt : n < P.items.length
   ·obtain ⟨cI, off, cap, e, hcc⟩ := items_cells (Row.fits HI.out (Below.trans hg1 (Below.mono hG0 (by omega)))) (by omega)
    simp only [Value.slice.injEq] at e
    obtain ⟨rfl, _, rfl⟩ := e
    have hcell := hcc n hlt
    have hll := HS.out _ (List.getElem_mem hlt)
    have hstep : okTo P.level (hiN P) (bdN P) P.items (n + 1) = roundOk P.level (hiN P) (bdN P) n (itemN P.level (P.items.getD (n - 1) [])) (itemN P.level P.items[n]) := by rw [okTo, HOk.out, Bool.true_and]; simp [hlt]
    have hens := ensTo_succ P.level P.items n hlt
    have hkid : P.level ≠ 0 → kidsTo P.level P.items (n + 1) = kidsTo P.level P.items n ++ [(itemN P.level P.items[n]).2.1] := kidsTo_succ P.level P.items n hlt
    have hde := fun u => decode_any P.items[n] u (by omega)
    have hun := fun u => unsep_any P.items[n] u (by omega)
    have hprev : ∀ h : 0 < n, (ensTo P.level P.items n)[n - 1]? = some (itemN P.level (P.items.getD (n - 1) [])).1 := by
     intro h
     unfold ensTo
     rw [List.getElem?_map, List.getElem?_take, if_pos (by omega)]
     simp [show n - 1 < P.items.length by omega]
    have hR : itemN P.level P.items[n] = if P.level = 0 then ((decN P.items[n]).1, 0, (decN P.items[n]).2) else unsN P.items[n] := rfl
    generalize P.items[n] = l at *
    generalize decN l = D at *
    generalize unsN l = U at *
    generalize itemN P.level l = R at *
    generalize (itemN P.level (P.items.getD (n - 1) [])) = PR at *
    obtain ⟨⟨k, p, s⟩, c, e⟩ := R
    dsimp only at hens hkid
    obtain ⟨w4, hw4⟩ : ∃ w4, w4 = wr.alloc (.cells #[.string ⟨#[]⟩, .int .i64 0, .int .i64 0] 102) := ⟨_, rfl⟩
    have hgr : Grow wr w4 := by subst hw4; exact (Grow.refl _).alloc _
    have hX4 : Blk w4 wr.heap.size 102 [.string ⟨#[]⟩, .int .i64 0, .int .i64 0] := by subst hw4; exact Blk.new wr _ [_, _, _]
    have HYe := keep (own_young hO0.ens (Nat.le_refl wr.heap.size))
    have HYc := keep (own_young hO0.kids (Nat.le_refl wr.heap.size))
    have HKl := keep (show (kidsTo P.level P.items n).length < 1759218604441 by have := kidsTo_length P.level P.items n; have := HF.out.1; omega)
    have HEl := keep (show (ensTo P.level P.items n).length < 1759218604441 by have := ensTo_length P.level P.items n hn; have := HF.out.1; omega)
    have hO4 := hO0.fits hgr
    have hG4 := Below.trans hG0 (Below.mono hgr (Nat.le_of_lt hO0.blk.lt))
    have hlb := hO0.blk.lt
    have HStep := keep hstep
    have HEns := keep hens
    have HKid := keep hkid
    have HDe := keep hde
    have HUn := keep hun
    have HPrev := keep hprev
    have HR := keep hR
    have HHi2 := keep HHi
    clear hstep hens hkid hde hun hprev hR hcc hll hgr hG0 hO0
    go_upto_region 14 with fail
    rw [← hw4]
    clear hcell hw4 p0 p1 p2 p3 p4 p5 hP0
    have hP4 := HP1.out.below hG4 (by omega)
    unfold pgCells at hP4
    obtain ⟨p0, p1, p2, p3, p4, p5, _⟩ := pgres hP4
    go_upto_if 59 with fail
    generalize hB : (P.level == (0 : Int)) = B
    have HB := keep hB
    clear hB
    have HR1 := keep hR1
    go_cut [12] from 59 to 82 (fun s12 wx => s12 = .int .i64 e ∧ (∃ cv', OpAt wx (w_.heap.size + 2) (ensTo P.level P.items n) (kidsTo P.level P.items (n + 1)) (hiN P) (bdN P) ev cv') ∧ Blk wx wr.heap.size 102 [.string (str k), .int .i64 p, .int .i64 s] ∧ Below (w_.heap.size + 2) w1 wx ∧ (P.level ≠ 0 → isL (k, p, s) = decide (n = 0)))
    case first =>
     cases B with
     | true =>
      have hlv : P.level = 0 := by simpa using HB.out
      have hr := HR.out
      rw [if_pos hlv] at hr
      obtain ⟨⟨dk, dp, ds⟩, de⟩ := D
      simp only [Prod.mk.injEq] at hr
      obtain ⟨⟨rfl, rfl, rfl⟩, rfl, rfl⟩ := hr
      have hkk : kidsTo P.level P.items (n + 1) = kidsTo P.level P.items n := by rw [hlv]; rfl
      have HKK := keep hkk
      have HLv := keep hlv
      clear hkk hlv
      go_wp2_with fail
      refine (HDe.out w4).mono ?_
      rintro x w5 ⟨rfl, hb5⟩
      have hX5 := hX4.fits hb5
      have hO5 := hO4.fits hb5
      have hG5 := Below.trans hG4 (Below.mono hb5 (Nat.le_of_lt hO4.blk.lt))
      clear p0 p1 p2 p3 p4 p5 hX4 hO4 hb5 hG4
      unfold enV
      obtain ⟨c0, c1, c2, f0, f1, f2⟩ := enres hX5
      have Hset := keep (enset hX5 (.string (str k)) (.int .i64 p) (.int .i64 s))
      have Hbut := keep (enbut w5 wr.heap.size (.string (str k)) (.int .i64 p) (.int .i64 s))
      have HO5 := keep hO5
      have HG5 := keep hG5
      have HX5 := keep hX5
      clear hO5 hG5 hX5
      go_wp2_with fail
      all_goals go_meet
      all_goals (case rel =>
       refine ⟨rfl, ⟨cv, ?_⟩, Hset.out, But.below HG5.out Hbut.out (by omega) (Nat.le_of_lt HO5.out.blk.lt), fun h => absurd HLv.out h⟩
       rw [HKK.out]
       exact HO5.out.but Hbut.out HYe.out HYc.out (by omega))
     | false =>
      have hlv : P.level ≠ 0 := by simpa using HB.out
      have hr := HR.out
      rw [if_neg hlv] at hr
      subst hr
      have hkk := HKid.out hlv
      have HKK := keep hkk
      have HLv := keep hlv
      clear hkk hlv
      go_wp2_with fail
      refine (HUn.out w4).mono ?_
      rintro x w5 ⟨rfl, hb5⟩
      have hX5 := hX4.fits hb5
      have hO5 := hO4.fits hb5
      have hG5 := Below.trans hG4 (Below.mono hb5 (Nat.le_of_lt hO4.blk.lt))
      clear p0 p1 p2 p3 p4 p5 hX4 hO4 hb5 hG4
      unfold enV
      obtain ⟨c0, c1, c2, f0, f1, f2⟩ := enres hX5
      have hX6 := enset hX5 (.string (str k)) (.int .i64 p) (.int .i64 s)
      have hO6 := hO5.but (enbut w5 wr.heap.size (.string (str k)) (.int .i64 p) (.int .i64 s)) HYe.out HYc.out (by omega)
      have hG6 := But.below hG5 (enbut w5 wr.heap.size (.string (str k)) (.int .i64 p) (.int .i64 s)) (by omega) (Nat.le_of_lt hO5.blk.lt)
      have HX6 := keep hX6
      have HO6 := keep hO6
      have HG6 := keep hG6
      clear hX5 hO5 hG5 hX6 hO6 hG6
      go_upto_region 19 with fail
      have hX6 := HX6.out
      have hO6 := HO6.out
      have hG6 := HG6.out
      clear HX6 HO6 HG6
      generalize (((w5.setCell ⟨wr.heap.size, 0, none⟩ (.string (str k))).setCell ⟨wr.heap.size, 1, none⟩ (.int .i64 p)).setCell ⟨wr.heap.size, 2, none⟩ (.int .i64 s)) = w6 at *
      clear c0 c1 c2 f0 f1 f2
      obtain ⟨o0, o1, o2, o3, o4, o5, g0, g1, g2, g3, g4, g5⟩ := pgres hO6.blk
      go_wp2_with ((at_builtin; go_must (refine wpList_append_own_at _ rfl _ _ 28 rfl (w_.heap.size + 2 + 1) 3 iI (.int .i64 0) 1 8 Tryz.underlying28 hiI hzI0 hzI1 hzI2 rfl (by decide) _ _ _ rfl (hO6.kids.alloc _) ⟨w6.heap.size, 0, none⟩ 1 1 [.int .i64 c] rfl rfl (cell_one_new _ _ _) (ints_oneCell .i64 [c]) (by have := HKl.out; (try dsimp only at *); unfold maxLen; omega) (by have := HKl.out; (try dsimp only at *); omega) (by have := hO6.blk.lt; simp; omega) ?_); intro v' xa hown' hgrow _ hat; obtain ⟨a', cap', rfl⟩ := own_form hown'; have hSt := row_stands hO6.blk hO6.kids hgrow (fun e => by have := (hO6.kids.lt _ e).1; omega); obtain ⟨u0, u1, u2, u3, u4, u5, t0, t1, t2, t3, t4, t5⟩ := pgres hSt; have hXa : Blk xa wr.heap.size 102 [.string (str k), .int .i64 p, .int .i64 s] := row_stands hX6 hO6.kids hgrow HYc.out; have hOa := hO6.pushKids hgrow (x := c) hown'; have hGa := round_belowO (i := 1) (v' := .slice a' ((kidsTo P.level P.items n).length + 1) cap') hG6 (Nat.le_of_lt hO6.blk.lt) hgrow (fun g e => (hO6.kids.lt g e).1); have HOa := keep hOa; have HGa := keep hGa; have HXa := keep hXa; clear hOa hGa hXa hSt))
      have hO7 := HOa.out
      have hG7 := HGa.out
      have hX7 := HXa.out.set_other ⟨w_.heap.size + 2, 1, none⟩ (show wr.heap.size ≠ w_.heap.size + 2 by omega) (.slice a' ((kidsTo P.level P.items n).length + 1) cap')
      rw [← HKK.out] at hO7
      clear HOa HGa HXa hX6 hO6 hG6 o0 o1 o2 o3 o4 o5 g0 g1 g2 g3 g4 g5 u0 u1 u2 u3 u4 u5 t0 t1 t2 t3 t4 t5 hown' hgrow hat
      generalize xa.setCell ⟨w_.heap.size + 2, 1, none⟩ (.slice a' ((kidsTo P.level P.items n).length + 1) cap') = w7 at *
      have HX7 := keep (fun (u : World) (hu : Grow w7.drew u) => Blk.fits (w := w7.drew) hX7 hu)
      have HX7' := keep hX7
      have HO7 := keep hO7
      have HG7 := keep hG7
      clear hX7 hO7 hG7
      go_cut [82] from 77 to 82 (fun sv wx => sv = .bool (isL (k, p, s) != decide (n = 0)) ∧ Grow w7 wx)
      case first =>
       refine rgv 5 (by kernel_rfl) (by kernel_rfl) rfl rfl ?_
       intro a0 ha0
       have hsz : a0.tmps.size = 139 := (size_at ha0).trans rfl
       have s9 := slot_at ha0 9 rfl
       have s11 := slot_at ha0 11 rfl
       have HA0 := keep ha0
       clear ha0
       apply lxv hsz Grow.refl (by kernel_rfl) rfl
       ·intro xs w hw K hK
        obtain ⟨c0, c1, c2, _⟩ := enres (HX7.out w hw)
        go_simp
        exact hK
       apply lxe hsz [] (by kernel_rfl) rfl
       ·intro xs w hw hp K hK
        go_simp
        exact (least_any w).mono fun e w' h => ⟨_, h.1, hK _ h.2⟩
       apply lxv hsz Grow.refl (by kernel_rfl) rfl
       ·intro xs w hw K hK
        unfold enV
        go_simp
        exact hK
       iterate 2
        apply lxv hsz Grow.refl (by kernel_rfl) rfl
        ·intro xs w hw K hK
         go_simp
         exact hK
       refine rgd [] (by kernel_rfl) rfl ?_
       intro xs w hw hp
       have ha0 := HA0.out
       clear HA0 hsz s9 s11
       clear hp
       subst ha0
       simp only [putV]
       have hgw : Grow w7 w := hw.undrew
       clear hw
       go_wp2_with fail
       all_goals go_meet
       all_goals (case rel => exact ⟨congrArg Value.bool (by cases isL (k, p, s) <;> by_cases h : n = 0 <;> simp [h]), hgw⟩)
      case rest =>
       obtain ⟨rfl, hg8⟩ := hcut
       have hX8 := HX7'.out.fits hg8
       have hO8 := HO7.out.fits hg8
       have hG8 := Below.trans HG7.out (Below.mono hg8 (Nat.le_of_lt HO7.out.blk.lt))
       clear HX7 HX7' HO7 HG7 hg8
       generalize wc = w8 at *
       generalize hM : (isL (k, p, s) != decide (n = 0)) = M
       cases M with
       | false =>
        have hq : isL (k, p, s) = decide (n = 0) := by simpa using hM
        clear hM
        have HQ := keep hq
        have HX8 := keep hX8
        have HO8 := keep hO8
        have HG8 := keep hG8
        clear hq hX8 hO8 hG8
        go_wp2_with fail
        all_goals go_meet
        all_goals (case rel => exact ⟨rfl, ⟨_, HO8.out⟩, HX8.out, HG8.out, fun _ => HQ.out⟩)
       | true =>
        have hq : ¬ isL (k, p, s) = decide (n = 0) := by simpa using hM
        clear hM
        have hno := open_no (P := P) (k := n + 1) (by
         rw [HStep.out]
         have h1 : decide (P.level = 0) = false := decide_eq_false HLv.out
         have h2 : (decide ((k, p, s) = leastE) == decide (n = 0)) = false := by
          cases h3 : decide ((k, p, s) = leastE) <;> cases h4 : decide (n = 0) <;> simp_all [isL]
         unfold roundOk
         dsimp only
         rw [h1, h2]
         rfl) (by omega)
        have HNo := keep hno
        have hR8 := HR1.out.below hG8 (by omega)
        clear hno hq hX8
        have hGG8 : Below w_.heap.size w_ w8 := Below.trans hg1 (Below.mono hG8 (by omega))
        clear hG8
        obtain ⟨ea, ec, rfl⟩ := own_form hO8.ens
        have HOB : Kept (Blk w8 (w_.heap.size + 2) 170 [.slice ea (ensTo P.level P.items n).length ec, .slice a' ((kidsTo P.level P.items n).length + 1) cap', .string (str (hiN P).1), .int .i64 (hiN P).2.1, .int .i64 (hiN P).2.2, .bool (bdN P)]) := keep hO8.blk
        obtain ⟨o0, o1, o2, o3, o4, o5, _⟩ := pgres HOB.out
        obtain ⟨r0, r1, r2, r3, r4, r5, f0, f1, f2, f3, f4, f5⟩ := pgres hR8
        have Hset := keep (pgset hR8 (.slice ea (ensTo P.level P.items n).length ec) (.slice a' ((kidsTo P.level P.items n).length + 1) cap') (.string (str (hiN P).1)) (.int .i64 (hiN P).2.1) (.int .i64 (hiN P).2.2) (.bool (bdN P)))
        have Hlt := keep hR8.lt
        have HG9 := keep hGG8
        clear hO8 hR8 hGG8
        go_wp2_with fail
        refine bodyPost_ret (v := .tuple #[.agg #[.slice ea (ensTo P.level P.items n).length ec, .slice a' ((kidsTo P.level P.items n).length + 1) cap', .string (str (hiN P).1), .int .i64 (hiN P).2.1, .int .i64 (hiN P).2.2, .bool (bdN P)], .bool false]) ?_ rfl (openPost_no rfl HNo.out (But.below HG9.out (pgbut w8 _ _ _ _ _ _ _) (by omega) (Nat.le_of_lt (Nat.lt_of_le_of_lt (by omega) Hlt.out))))
        obtain ⟨s0, s1, s2, s3, s4, s5, _⟩ := pgres Hset.out
        simp [results, Tryz.results108, go_sem, s0, s1, s2, s3, s4, s5]
        try rfl
    case rest =>
     obtain ⟨rfl, ⟨cv', hO5⟩, hX5, hG5, hq⟩ := hcut
     clear p0 p1 p2 p3 p4 p5 hP4 hX4 hO4 hG4
     generalize wc = w5 at *
     have HQ := keep hq
     have HX5 := keep hX5
     have HO5 := keep hO5
     have HG5 := keep hG5
     have HX7 := keep (fun (u : World) (hu : Grow w5.drew u) => Blk.fits (w := w5.drew) hX5 hu)
     have HO7 := keep (fun (u : World) (hu : Grow w5.drew u) => Blk.fits (w := w5.drew) hO5.blk hu)
     have HC7 := keep (fun h : 0 < n => ens_cells (own_rowO hO5.ens).weak (by rw [ensTo_length _ _ _ hn]; exact h))
     have HLe := keep (ensTo_length P.level P.items n hn)
     clear hq hX5 hO5 hG5
     go_upto_region 22 with fail
     go_cut [100] from 84 to 100 (fun sv wx => sv = .bool (decide (e ≠ 0) || (decide (0 < n) && decide (0 ≤ cmpE PR.1 (k, p, s)))) ∧ Grow w5 wx)
     case first =>
      by_cases he : e = 0
      ·subst he
       rcases n with _ | m
       ·skip
        refine rgv 16 (by kernel_rfl) (by kernel_rfl) rfl rfl ?_
        intro a0 ha0
        have hsz : a0.tmps.size = 139 := (size_at ha0).trans rfl
        have s4 := slot_at ha0 4 rfl
        have s9 := slot_at ha0 9 rfl
        have s11 := slot_at ha0 11 rfl
        have s12 := slot_at ha0 12 rfl
        have HA0 := keep ha0
        clear ha0
        iterate 16
         apply lxv hsz Grow.refl (by kernel_rfl) rfl
         ·intro xs w hw K hK
          go_simp
          exact hK
        refine rgd [] (by kernel_rfl) rfl ?_
        intro xs w hw hp
        have ha0 := HA0.out
        clear HA0 hsz s4 s9 s11 s12
        clear hp
        subst ha0
        simp only [putV]
        have hgw : Grow w5 w := hw.undrew
        clear hw
        go_wp2_with fail
        all_goals go_meet
        all_goals (case rel => exact ⟨rfl, hgw⟩)
       ·obtain ⟨c2, off2, cap2, rfl, hcc⟩ := HC7.out (by omega)
        have hlen := HLe.out
        have hpr := HPrev.out (by omega)
        rw [show m + 1 - 1 = m by omega, List.getElem?_eq_getElem (by omega)] at hpr
        simp only [Option.some.injEq] at hpr
        have hcm := hcc m (by omega)
        rw [hpr] at hcm
        generalize PR.1 = pr at *
        have HCm := keep (fun (u : World) (hu : Grow w5.drew u) => (And.intro ((Below.cell hu (World.block_lt_of_cell? w5 _ hcm.1)).trans hcm.1) (And.intro ((Below.cell hu (World.block_lt_of_cell? w5 _ hcm.2.1)).trans hcm.2.1) ((Below.cell hu (World.block_lt_of_cell? w5 _ hcm.2.2)).trans hcm.2.2))))
        have hcp := fun u => compare_any pr (k, p, s) u
        generalize hcv : cmpE pr (k, p, s) = CV at *
        obtain ⟨pk, pp, ps⟩ := pr
        have HCp := keep hcp
        clear hpr hcm hcc hcp hlen HC7 HPrev
        unfold enV at *
        refine rgv 16 (by kernel_rfl) (by kernel_rfl) rfl rfl ?_
        intro a0 ha0
        have hsz : a0.tmps.size = 139 := (size_at ha0).trans rfl
        have s4 := slot_at ha0 4 rfl
        have s9 := slot_at ha0 9 rfl
        have s11 := slot_at ha0 11 rfl
        have s12 := slot_at ha0 12 rfl
        have HA0 := keep ha0
        clear ha0
        iterate 4
         apply lxv hsz Grow.refl (by kernel_rfl) rfl
         ·intro xs w hw K hK
          go_simp
          exact hK
        apply lxv hsz Grow.refl (by kernel_rfl) rfl
        ·intro xs w hw K hK
         have q0 : (0 : Int) < (m : Int) + 1 := by omega
         go_simp
         exact hK
        iterate 2
         apply lxv hsz Grow.refl (by kernel_rfl) rfl
         ·intro xs w hw K hK
          go_simp
          exact hK
        apply lxv hsz Grow.refl (by kernel_rfl) rfl
        ·intro xs w hw K hK
         obtain ⟨c0, c1, c2, c3, c4, c5, _⟩ := pgres (HO7.out w hw)
         go_simp
         exact hK
        apply lxv hsz Grow.refl (by kernel_rfl) rfl
        ·intro xs w hw K hK
         go_simp
         exact hK
        apply lxv hsz Grow.refl (by kernel_rfl) rfl
        ·intro xs w hw K hK
         have hwm : IntKind.i64.wrap (m : Int) = m := wraps_i64 m (by omega) (by have := HF.out.1; omega)
         go_simp
         exact hK
        apply lxv hsz Grow.refl (by kernel_rfl) rfl
        ·intro xs w hw K hK
         have q1 : m < (ensTo P.level P.items (m + 1)).length := by rw [HLe.out]; omega
         go_simp
         exact hK
        apply lxv hsz Grow.refl (by kernel_rfl) rfl
        ·intro xs w hw K hK
         obtain ⟨c0, c1, c2⟩ := HCm.out w hw
         go_simp
         exact hK
        apply lxv hsz Grow.refl (by kernel_rfl) rfl
        ·intro xs w hw K hK
         obtain ⟨c0, c1, c2, _⟩ := enres (HX7.out w hw)
         go_simp
         exact hK
        apply lxe hsz [] (by kernel_rfl) rfl
        ·intro xs w hw hp K hK
         go_simp
         exact (HCp.out w).mono fun e w' h => ⟨_, h.1, hK _ h.2⟩
        iterate 2
         apply lxv hsz Grow.refl (by kernel_rfl) rfl
         ·intro xs w hw K hK
          go_simp
          exact hK
        refine rgd [] (by kernel_rfl) rfl ?_
        intro xs w hw hp
        have ha0 := HA0.out
        clear HA0 hsz s4 s9 s11 s12
        clear hp
        subst ha0
        simp only [putV]
        have hgw : Grow w5 w := hw.undrew
        clear hw
        go_wp2_with fail
        all_goals go_meet
        all_goals (case rel => exact ⟨by simp, hgw⟩)
      ·have he2 : (e != 0) = true := by simp [he]
       have HE2 := keep he
       clear he
       refine rgv 16 (by kernel_rfl) (by kernel_rfl) rfl rfl ?_
       intro a0 ha0
       have hsz : a0.tmps.size = 139 := (size_at ha0).trans rfl
       have s4 := slot_at ha0 4 rfl
       have s9 := slot_at ha0 9 rfl
       have s11 := slot_at ha0 11 rfl
       have s12 := slot_at ha0 12 rfl
       have HA0 := keep ha0
       clear ha0
       iterate 16
        apply lxv hsz Grow.refl (by kernel_rfl) rfl
        ·intro xs w hw K hK
         go_simp
         exact hK
       refine rgd [] (by kernel_rfl) rfl ?_
       intro xs w hw hp
       have ha0 := HA0.out
       clear HA0 hsz s4 s9 s11 s12
       clear hp
       subst ha0
       simp only [putV]
       have hgw : Grow w5 w := hw.undrew
       clear hw
       go_wp2_with fail
       all_goals go_meet
       all_goals (case rel => exact ⟨by simp [HE2.out], hgw⟩)
     case rest =>
      obtain ⟨rfl, hg6⟩ := hcut
      have hX6 := HX5.out.fits hg6
      have hO6 := HO5.out.fits hg6
      have hG6 := Below.trans HG5.out (Below.mono hg6 (Nat.le_of_lt HO5.out.blk.lt))
      clear hg6 HX7 HO7 HC7 HX5 HO5 HG5
      generalize wc = w6 at *
      generalize hM : (decide (e ≠ 0) || (decide (0 < n) && decide (0 ≤ cmpE PR.1 (k, p, s)))) = M
      cases M with
      | true =>
       have hno := open_no (P := P) (k := n + 1) (by rw [HStep.out]; exact round_no1 hM) (by omega)
       have HNo := keep hno
       have hR6 := HR1.out.below hG6 (by omega)
       have hGG6 : Below w_.heap.size w_ w6 := Below.trans hg1 (Below.mono hG6 (by omega))
       clear hno hM hX6 hG6
       obtain ⟨ea, ec, rfl⟩ := own_form hO6.ens
       obtain ⟨ka, kc, rfl⟩ := own_form hO6.kids
       have HOB : Kept (Blk w6 (w_.heap.size + 2) 170 [.slice ea (ensTo P.level P.items n).length ec, .slice ka (kidsTo P.level P.items (n + 1)).length kc, .string (str (hiN P).1), .int .i64 (hiN P).2.1, .int .i64 (hiN P).2.2, .bool (bdN P)]) := keep hO6.blk
       obtain ⟨o0, o1, o2, o3, o4, o5, _⟩ := pgres HOB.out
       obtain ⟨r0, r1, r2, r3, r4, r5, f0, f1, f2, f3, f4, f5⟩ := pgres hR6
       have Hset := keep (pgset hR6 (.slice ea (ensTo P.level P.items n).length ec) (.slice ka (kidsTo P.level P.items (n + 1)).length kc) (.string (str (hiN P).1)) (.int .i64 (hiN P).2.1) (.int .i64 (hiN P).2.2) (.bool (bdN P)))
       have Hlt := keep hR6.lt
       have HG9 := keep hGG6
       clear hO6 hR6 hGG6
       go_wp2_with fail
       refine bodyPost_ret (v := .tuple #[.agg #[.slice ea (ensTo P.level P.items n).length ec, .slice ka (kidsTo P.level P.items (n + 1)).length kc, .string (str (hiN P).1), .int .i64 (hiN P).2.1, .int .i64 (hiN P).2.2, .bool (bdN P)], .bool false]) ?_ rfl (openPost_no rfl HNo.out (But.below HG9.out (pgbut w6 _ _ _ _ _ _ _) (by omega) (Nat.le_of_lt (Nat.lt_of_le_of_lt (by omega) Hlt.out))))
       obtain ⟨s0, s1, s2, s3, s4, s5, _⟩ := pgres Hset.out
       simp [results, Tryz.results108, go_sem, s0, s1, s2, s3, s4, s5]
       try rfl
      | false =>
       have HM := keep hM
       have hcp := fun u => compare_any (k, p, s) (hiN P) u
       unfold enV at hcp
       dsimp only at hcp
       generalize hF : cmpE (k, p, s) (hiN P) = F at hcp
       have HCp := keep hcp
       obtain ⟨c0, c1, c2, _⟩ := enres hX6
       obtain ⟨o0, o1, o2, o3, o4, o5, _⟩ := pgres hO6.blk
       have HF7 := keep hF
       clear hM hcp hF
       go_wp2_with fail
       refine (HCp.out w6).mono ?_
       rintro x w7 ⟨rfl, hb7⟩
       have hX7 := hX6.fits hb7
       have hO7 := hO6.fits hb7
       have hG7 := Below.trans hG6 (Below.mono hb7 (Nat.le_of_lt hO6.blk.lt))
       clear c0 c1 c2 o0 o1 o2 o3 o4 o5 hX6 hO6 hG6 hb7
       obtain ⟨o0, o1, o2, o3, o4, o5, _⟩ := pgres hO7.blk
       have hP7 := HP1.out.below hG7 (by omega)
       unfold pgCells at hP7
       obtain ⟨p0, p1, p2, p3, p4, p5, _⟩ := pgres hP7
       go_upto_region 25 with fail
       generalize hbd : bdN P = bd at *
       have HBd := keep hbd
       clear hbd
       go_cut [120] from 106 to 120 (fun sv wx => sv = .bool (bd && (decide (0 < F) || (decide (F = 0) && decide (0 < P.level)))) ∧ wx = w7)
       case first =>
        cases bd with
        | false =>
         go_wp2_with fail
         all_goals go_meet
         all_goals (case rel => exact ⟨rfl, rfl⟩)
        | true =>
         by_cases h1 : 0 < F
         ·go_wp2_with fail
          all_goals go_meet
          all_goals (case rel => exact ⟨by simp [h1], rfl⟩)
         ·by_cases h2 : F = 0
          ·subst h2
           by_cases h3 : 0 < P.level
           ·go_wp2_with fail
            all_goals go_meet
            all_goals (case rel => exact ⟨by simp [h3], rfl⟩)
           ·go_wp2_with fail
            all_goals go_meet
            all_goals (case rel => exact ⟨by simp [h3], rfl⟩)
          ·have h2b : (F == 0) = false := by simp [h2]
           go_wp2_with fail
           all_goals go_meet
           all_goals (case rel => exact ⟨by simp [h1, h2], rfl⟩)
       case rest =>
        obtain ⟨rfl, rfl⟩ := hcut
        generalize hM2 : (bd && (decide (0 < F) || (decide (F = 0) && decide (0 < P.level)))) = M2
        cases M2 with
        | true =>
         have hno := open_no (P := P) (k := n + 1) (by rw [HBd.out, HStep.out]; exact round_no2 (by rw [HF7.out]; exact hM2)) (by omega)
         have HNo := keep hno
         have hR7 := HR1.out.below hG7 (by omega)
         have hGG7 : Below w_.heap.size w_ wc := Below.trans hg1 (Below.mono hG7 (by omega))
         clear hno hM2 hX7 hG7 o0 o1 o2 o3 o4 o5 p0 p1 p2 p3 p4 p5 hP7
         obtain ⟨ea, ec, rfl⟩ := own_form hO7.ens
         obtain ⟨ka, kc, rfl⟩ := own_form hO7.kids
         have HOB : Kept (Blk wc (w_.heap.size + 2) 170 [.slice ea (ensTo P.level P.items n).length ec, .slice ka (kidsTo P.level P.items (n + 1)).length kc, .string (str (hiN P).1), .int .i64 (hiN P).2.1, .int .i64 (hiN P).2.2, .bool bd]) := keep hO7.blk
         obtain ⟨o0, o1, o2, o3, o4, o5, _⟩ := pgres HOB.out
         obtain ⟨r0, r1, r2, r3, r4, r5, f0, f1, f2, f3, f4, f5⟩ := pgres hR7
         have Hset := keep (pgset hR7 (.slice ea (ensTo P.level P.items n).length ec) (.slice ka (kidsTo P.level P.items (n + 1)).length kc) (.string (str (hiN P).1)) (.int .i64 (hiN P).2.1) (.int .i64 (hiN P).2.2) (.bool bd))
         have Hlt := keep hR7.lt
         have HG9 := keep hGG7
         clear hO7 hR7 hGG7
         go_wp2_with fail
         refine bodyPost_ret (v := .tuple #[.agg #[.slice ea (ensTo P.level P.items n).length ec, .slice ka (kidsTo P.level P.items (n + 1)).length kc, .string (str (hiN P).1), .int .i64 (hiN P).2.1, .int .i64 (hiN P).2.2, .bool bd], .bool false]) ?_ rfl (openPost_no rfl HNo.out (But.below HG9.out (pgbut wc _ _ _ _ _ _ _) (by omega) (Nat.le_of_lt (Nat.lt_of_le_of_lt (by omega) Hlt.out))))
         obtain ⟨s0, s1, s2, s3, s4, s5, _⟩ := pgres Hset.out
         simp [results, Tryz.results108, go_sem, s0, s1, s2, s3, s4, s5]
         try rfl
        | false =>
         have hyes : okTo P.level (hiN P) bd P.items (n + 1) = true := by
          rw [HStep.out]
          exact round_yes HQ.out HM.out (by rw [HF7.out]; exact hM2)
         have HYes := keep hyes
         clear hyes hM2 p0 p1 p2 p3 p4 p5 hP7
         obtain ⟨f0, f1, f2, f3, f4, f5⟩ := (pgres hO7.blk).2.2.2.2.2.2
         obtain ⟨c0, c1, c2, _⟩ := enres hX7
         clear hX7
         generalize wc = w9 at *
         have hO9 := hO7
         have hG9 := hG7
         clear hO7 hG7
         go_wp2_with ((at_builtin; go_must (refine wpList_append_own_at _ rfl _ _ 70 rfl (w_.heap.size + 2 + 1) 102 iE (.agg #[.string ⟨#[]⟩, .int .i64 0, .int .i64 0]) 3 32 Tryz.underlying70 hiE hzE0 hzE1 hzE2 rfl (by decide) _ _ _ rfl (hO9.ens.alloc _) ⟨w9.heap.size, 0, none⟩ 1 1 [.string (str k), .int .i64 p, .int .i64 s] rfl rfl (cell_three_newO _ _ _ _ _) (by intro u hu; simp at hu; rcases hu with rfl | rfl | rfl <;> rfl) (by have := HEl.out; (try dsimp only at *); unfold maxLen; omega) (by have := HEl.out; (try dsimp only at *); omega) (by have := hO9.blk.lt; simp; omega) ?_); intro v' xa hown' hgrow _ hat; obtain ⟨a', cap', rfl⟩ := own_form hown'; have hSt := row_stands hO9.blk hO9.ens hgrow (fun e => by have := (hO9.ens.lt _ e).1; omega); obtain ⟨u0, u1, u2, u3, u4, u5, t0, t1, t2, t3, t4, t5⟩ := pgres hSt; have hOa := hO9.pushEns hgrow (x := (k, p, s)) hown'; have hGa := round_belowO (i := 0) (v' := .slice a' ((ensTo P.level P.items n).length + 1) cap') hG9 (Nat.le_of_lt hO9.blk.lt) hgrow (fun g e => (hO9.ens.lt g e).1); have HOa := keep hOa; have HGa := keep hGa; clear hOa hGa hSt))
         go_roundw
         case rel =>
          have hOb := HOa.out
          rw [← HEns.out] at hOb
          rw [HBd.out]
          exact ⟨n + 1, by omega, by go_num, HYes.out, ⟨_, _, hOb⟩, HGa.out⟩
         case measure => simp [intOf]; omega
   ·have e : n = P.items.length := by omega
    subst e
    have hR0 := hR1.below hG0 (by omega)
    obtain ⟨ea, ec, rfl⟩ := own_form hO0.ens
    obtain ⟨ka, kc, rfl⟩ := own_form hO0.kids
    have hcape := own_cap hO0.ens
    generalize hEL : ensTo P.level P.items P.items.length = EL at *
    generalize hKL : kidsTo P.level P.items P.items.length = KL at *
    have hokv : openOk P = (decide (P.level = 0) || decide (0 < P.items.length)) := by
     unfold openOk
     rw [HHead.out, HOk.out]
     rfl
    generalize hhv : hiN P = HV at *
    generalize hbv : bdN P = bdV at *
    obtain ⟨hh1, hh2, hh3⟩ := HV
    have HCapE := keep hcape
    clear hcape
    have HEL := keep hEL
    have HKL := keep hKL
    have HHV := keep hhv
    have HBV := keep hbv
    clear hEL hKL hhv hbv
    have hnR : ∀ t, t ≠ 170 → ∀ (blk : Array Value) (f : Nat × Nat), wr.heap[w_.heap.size + 1]? ≠ some (.cells blk t f) := by
     intro t ht blk f e
     have := hR0
     unfold Blk at this
     rw [this] at e
     simp at e
     exact ht e.2.1.symm
    have HE7 := keep (fun (u : World) (hu : Put (w_.heap.size + 1) 170 [.slice ea EL.length ec, .slice ka KL.length kc, .string (str hh1), .int .i64 hh2, .int .i64 hh3, .bool bdV] wr u) => RowS.but (own_rowO hO0.ens) hu.but (hnR 102 (by decide)))
    have HK7 := keep (fun (u : World) (hu : Put (w_.heap.size + 1) 170 [.slice ea EL.length ec, .slice ka KL.length kc, .string (str hh1), .int .i64 hh2, .int .i64 hh3, .bool bdV] wr u) => RowS.but (own_rowO hO0.kids) hu.but (hnR 3 (by decide)))
    have HO7 := keep (fun (u : World) (hu : Put (w_.heap.size + 1) 170 [.slice ea EL.length ec, .slice ka KL.length kc, .string (str hh1), .int .i64 hh2, .int .i64 hh3, .bool bdV] wr.drew u) => Blk.but (w := wr.drew) hO0.blk hu.but (by omega))
    have HP7 := keep (fun (u : World) (hu : Put (w_.heap.size + 1) 170 [.slice ea EL.length ec, .slice ka KL.length kc, .string (str hh1), .int .i64 hh2, .int .i64 hh3, .bool bdV] wr.drew u) => Blk.but (w := wr.drew) hP0 hu.but (by omega))
    have HR7 : Kept (Blk wr.drew (w_.heap.size + 1) 170 _) := keep hR0
    have HG7 : Kept (Below w_.heap.size w_ wr) := keep (Below.trans hg1 (Below.mono hG0 (by omega)))
    have HLt := keep (Nat.le_of_lt (Nat.lt_of_le_of_lt (Nat.le_add_right w_.heap.size 1) hR0.lt))
    have hlen : P.items.length ≤ 9223372036854775807 := by have := HF.out.1; omega
    clear hR0 hO0 hG0 hP0 hnR
    by_cases hlv : P.level = 0
    ·have hokv2 : true = openOk P := by rw [hokv, decide_eq_true hlv]; rfl
     have HOkv := keep hokv2
     clear hokv hokv2
     go_upto_region 29 with fail
     clear p0 p1 p2 p3 p4 p5
     refine rgx (N := 11) (by kernel_rfl) (Put (w_.heap.size + 1) 170 [.slice ea EL.length ec, .slice ka KL.length kc, .string (str hh1), .int .i64 hh2, .int .i64 hh3, .bool bdV]) (Put.refl _) (fun _ _ _ => Put.trans) (by kernel_rfl) rfl rfl ?_
     intro a0 ha0
     have hsz : a0.tmps.size = 139 := (size_at ha0).trans rfl
     have s1 := slot_at ha0 1 rfl
     have s2 := slot_at ha0 2 rfl
     have s4 := slot_at ha0 4 rfl
     have HA0 := keep ha0
     clear ha0
     apply lxv hsz Put.refl (by kernel_rfl) rfl
     ·intro xs w hw K hK
      obtain ⟨o0, o1, o2, o3, o4, o5, _⟩ := pgres (HO7.out w hw)
      go_simp
      exact hK
     apply lxv hsz Put.refl (by kernel_rfl) rfl
     ·intro xs w hw K hK
      go_simp
      exact hK
     apply lxv hsz Put.refl (by kernel_rfl) rfl
     ·intro xs w hw K hK
      obtain ⟨p0, p1, p2, p3, p4, p5, _⟩ := pgres (HP7.out w hw)
      go_simp
      exact hK
     iterate 7
      apply lxv hsz Put.refl (by kernel_rfl) rfl
      ·intro xs w hw K hK
       go_simp
       exact hK
     refine lxn hsz (fun u => Blk u (w_.heap.size + 1) 170 [.slice ea EL.length ec, .slice ka KL.length kc, .string (str hh1), .int .i64 hh2, .int .i64 hh3, .bool bdV]) (fun u v hu h => hu.vs h) [] (by kernel_rfl) rfl ?_ ?_
     ·intro xs w hw hp K hK
      obtain ⟨a0_, a1_, a2_, a3_, a4_, a5_, hR7⟩ := hw.six ⟨_, _, _, _, _, _, HR7.out⟩
      obtain ⟨r0, r1, r2, r3, r4, r5, f0, f1, f2, f3, f4, f5⟩ := pgres hR7
      have Hset := keep (pgset hR7 (.slice ea EL.length ec) (.slice ka KL.length kc) (.string (str hh1)) (.int .i64 hh2) (.int .i64 hh3) (.bool bdV))
      have Hbut := keep (pgbut w (w_.heap.size + 1) (.slice ea EL.length ec) (.slice ka KL.length kc) (.string (str hh1)) (.int .i64 hh2) (.int .i64 hh3) (.bool bdV))
      clear hR7
      go_simp
      exact hK _ _ Hset.out ⟨Hbut.out, fun _ => ⟨_, _, _, _, _, _, Hset.out⟩, fun _ => Hset.out⟩
     refine rgd [(10, false)] (by kernel_rfl) rfl ?_
     intro xs w hw hp
     have ha0 := HA0.out
     clear HA0 hsz s1 s2 s4
     simp only [hzv] at hp
     have h10 := hp
     clear hp
     subst ha0
     simp only [putV]
     have hput := hw.undrew
     clear hw
     have HSet := keep h10
     have HPut := keep hput
     clear h10 hput
     go_wp2_with fail
     refine bodyPost_ret (v := .tuple #[.agg #[.slice ea EL.length ec, .slice ka KL.length kc, .string (str hh1), .int .i64 hh2, .int .i64 hh3, .bool bdV], .bool true]) ?_ rfl ⟨_, _, _, _, _, _, (hh1, hh2, hh3), bdV, true, rfl, HOkv.out, fun _ => ⟨by unfold ensN; rw [HEL.out]; exact HE7.out w HPut.out, by unfold kidsN; rw [HKL.out]; exact HK7.out w HPut.out, HHV.out.symm, HBV.out.symm, HCapE.out⟩, But.below HG7.out HPut.out.but (by omega) HLt.out⟩
     obtain ⟨s0, s1, s2, s3, s4, s5, _⟩ := pgres HSet.out
     simp [results, Tryz.results108, go_sem, s0, s1, s2, s3, s4, s5]
    ·have hokv2 : decide (0 < P.items.length) = openOk P := by rw [hokv, decide_eq_false hlv]; rfl
     have HOkv := keep hokv2
     have hlv2 : (P.level == (0 : Int)) = false := by simp [hlv]
     clear hokv hokv2 hlv
     go_upto_region 29 with fail
     clear p0 p1 p2 p3 p4 p5
     refine rgx (N := 11) (by kernel_rfl) (Put (w_.heap.size + 1) 170 [.slice ea EL.length ec, .slice ka KL.length kc, .string (str hh1), .int .i64 hh2, .int .i64 hh3, .bool bdV]) (Put.refl _) (fun _ _ _ => Put.trans) (by kernel_rfl) rfl rfl ?_
     intro a0 ha0
     have hsz : a0.tmps.size = 139 := (size_at ha0).trans rfl
     have s1 := slot_at ha0 1 rfl
     have s2 := slot_at ha0 2 rfl
     have s4 := slot_at ha0 4 rfl
     have HA0 := keep ha0
     clear ha0
     apply lxv hsz Put.refl (by kernel_rfl) rfl
     ·intro xs w hw K hK
      obtain ⟨o0, o1, o2, o3, o4, o5, _⟩ := pgres (HO7.out w hw)
      go_simp
      exact hK
     apply lxv hsz Put.refl (by kernel_rfl) rfl
     ·intro xs w hw K hK
      go_simp
      exact hK
     apply lxv hsz Put.refl (by kernel_rfl) rfl
     ·intro xs w hw K hK
      obtain ⟨p0, p1, p2, p3, p4, p5, _⟩ := pgres (HP7.out w hw)
      go_simp
      exact hK
     iterate 3
      apply lxv hsz Put.refl (by kernel_rfl) rfl
      ·intro xs w hw K hK
       go_simp
       exact hK
     apply lxv hsz Put.refl (by kernel_rfl) rfl
     ·intro xs w hw K hK
      obtain ⟨p0, p1, p2, p3, p4, p5, _⟩ := pgres (HP7.out w hw)
      go_simp
      exact hK
     iterate 3
      apply lxv hsz Put.refl (by kernel_rfl) rfl
      ·intro xs w hw K hK
       go_simp
       exact hK
     refine lxn hsz (fun u => Blk u (w_.heap.size + 1) 170 [.slice ea EL.length ec, .slice ka KL.length kc, .string (str hh1), .int .i64 hh2, .int .i64 hh3, .bool bdV]) (fun u v hu h => hu.vs h) [] (by kernel_rfl) rfl ?_ ?_
     ·intro xs w hw hp K hK
      obtain ⟨a0_, a1_, a2_, a3_, a4_, a5_, hR7⟩ := hw.six ⟨_, _, _, _, _, _, HR7.out⟩
      obtain ⟨r0, r1, r2, r3, r4, r5, f0, f1, f2, f3, f4, f5⟩ := pgres hR7
      have Hset := keep (pgset hR7 (.slice ea EL.length ec) (.slice ka KL.length kc) (.string (str hh1)) (.int .i64 hh2) (.int .i64 hh3) (.bool bdV))
      have Hbut := keep (pgbut w (w_.heap.size + 1) (.slice ea EL.length ec) (.slice ka KL.length kc) (.string (str hh1)) (.int .i64 hh2) (.int .i64 hh3) (.bool bdV))
      clear hR7
      go_simp
      exact hK _ _ Hset.out ⟨Hbut.out, fun _ => ⟨_, _, _, _, _, _, Hset.out⟩, fun _ => Hset.out⟩
     refine rgd [(10, false)] (by kernel_rfl) rfl ?_
     intro xs w hw hp
     have ha0 := HA0.out
     clear HA0 hsz s1 s2 s4
     simp only [hzv] at hp
     have h10 := hp
     clear hp
     subst ha0
     simp only [putV]
     have hput := hw.undrew
     clear hw
     have HSet := keep h10
     have HPut := keep hput
     clear h10 hput
     go_wp2_with fail
     refine bodyPost_ret (v := .tuple #[.agg #[.slice ea EL.length ec, .slice ka KL.length kc, .string (str hh1), .int .i64 hh2, .int .i64 hh3, .bool bdV], .bool (decide (0 < P.items.length))]) ?_ rfl ⟨_, _, _, _, _, _, (hh1, hh2, hh3), bdV, (decide (0 < P.items.length)), rfl, HOkv.out, fun _ => ⟨by unfold ensN; rw [HEL.out]; exact HE7.out w HPut.out, by unfold kidsN; rw [HKL.out]; exact HK7.out w HPut.out, HHV.out.symm, HBV.out.symm, HCapE.out⟩, But.below HG7.out HPut.out.but (by omega) HLt.out⟩
     obtain ⟨s0, s1, s2, s3, s4, s5, _⟩ := pgres HSet.out
     simp [results, Tryz.results108, go_sem, s0, s1, s2, s3, s4, s5]
end Go.Proofs.YtmhepfehcakmjaaGreat
namespace Go.Proofs.YtmhepfehcakmjaaGreat
open Go.RowKit
theorem opened_cap (P : Pg) (iv : Value) (w_ : World) (hi : Items w_ iv P.items) (hs : ∀ x ∈ P.items, (x.length : Int) ≤ 140737488355328) (hh : (P.high.length : Int) ≤ 140737488355328) (hl : (P.items.length : Int) ≤ 140737488355328) (hlsn : P.lsn ≤ 9223372036854775807) :
  Calls Tryz.prog 108 #[pgV P iv] w_ (OpenCap P w_) := by
 by_cases hhead : headOk P = true
 ·exact opened_in P iv w_ hi hs hh hl hlsn hhead
 ·by_cases he : encOk P = true
  ·by_cases hk : (decide (P.kind = 3) && inB P.right 0 65535) = true
   ·have hk' := hk
    rw [Bool.and_eq_true, decide_eq_true_eq] at hk'
    have hbad : (decide (P.high = []) || decide ((decN P.high).2 = 0)) = false := by
     unfold headOk at hhead
     rw [he, hk] at hhead
     simpa using hhead
    rw [Bool.or_eq_false_iff, decide_eq_false_iff_not, decide_eq_false_iff_not] at hbad
    exact opened_high P iv w_ hi hs hh hl hlsn he hk'.1 hk'.2 hbad.1 hbad.2
   ·exact opened_kind P iv w_ hi hs hh hl hlsn he (by simpa using hk)
  ·exact opened_enc P iv w_ hi hs hh hl hlsn (by simpa using he)
theorem opened_any (P : Pg) (iv : Value) (w_ : World) (hi : Items w_ iv P.items) (hs : ∀ x ∈ P.items, (x.length : Int) ≤ 140737488355328) (hh : (P.high.length : Int) ≤ 140737488355328) (hl : (P.items.length : Int) ≤ 140737488355328) (hlsn : P.lsn ≤ 9223372036854775807) :
  Calls Tryz.prog 108 #[pgV P iv] w_ (OpenPost P w_) := (opened_cap P iv w_ hi hs hh hl hlsn).mono fun _ _ h => h.post
end Go.Proofs.YtmhepfehcakmjaaGreat
