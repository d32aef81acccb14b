import Derived.Test.YtaninphcgeaepaaGreatKRt1
import Derived.Deep.CutRange
/- node.Beyond, node.Entries. -/
namespace Go.Proofs.YtaninphcgeaepaaGreat
open Go.RowKit
attribute [local go_sem] givesF_none givesF_some evalF_tmp evalF_const evalF_global evalF_func lookL isB_bool isB_undef givesUpon_value givesUpon_skip givesUpon_enter

/-- Whether an entry lies beyond a node, and what is wrong. -/
def beyondN (P : Pg) (e : En) : Bool × Int := if openOk P && enOk e then (beyN (bdN P) (hiN P) e, 0) else (false, 140)
/-- A leaf's entries, and what is wrong. -/
def entriesOk (P : Pg) : Bool := openOk P && decide (P.level = 0)
def EntPost (P : Pg) (w : World) (x : Ending) (w' : World) : Prop :=
  (if entriesOk P then ∃ a c, x = .returned (.tuple #[.slice a (ensN P).length c, .int .i64 0]) ∧ EnsS w' (.slice a (ensN P).length c) (ensN P) else x = .returned (.tuple #[.slice none 0 0, .int .i64 140])) ∧ Below w.heap.size w w'

set_option maxRecDepth 100000 in
set_option maxHeartbeats 4000000 in
theorem beyond_node (P : Pg) (iv : Value) (e : En) (w_ : World) (hin : PgIn w_ iv P) :
    Calls Tryz.prog 24 #[pgV P iv, enV e] w_ fun x w' => x = .returned (.tuple #[.bool (beyondN P e).1, .int .i64 (beyondN P e).2]) ∧ Below w_.heap.size w_ w' := by
  have hie := fun u => isEntry_any e u
  have hbe := fun (a1 a2 : Option Addr) (n1 c1 n2 c2 : Nat) (hi : En) (bd : Bool) (u : World) => beyond_any a1 a2 n1 c1 n2 c2 hi e bd u
  have hd : beyondN P e = if openOk P && enOk e then (beyN (bdN P) (hiN P) e, 0) else (false, 140) := rfl
  unfold enV at hie hbe
  have HIe := keep hie
  have HBe := keep hbe
  have HD := keep hd
  clear hie hbe hd
  obtain ⟨k, p, s⟩ := e
  obtain ⟨w0, hw0⟩ : ∃ w0, w0 = ((w_.alloc (.cells (pgCells P iv).toArray 24)).alloc (.cells #[.string (str k), .int .i64 p, .int .i64 s] 41)) := ⟨_, rfl⟩
  have hg0 : Grow w_ w0 := by subst hw0; exact ((Grow.refl w_).alloc _).alloc _
  have hP0 : Blk w0 w_.heap.size 24 (pgCells P iv) := by
    have := (Blk.new w_ 24 (pgCells P iv)).alloc (.cells #[.string (str k), .int .i64 p, .int .i64 s] 41)
    subst hw0; exact this
  have hE0 : Blk w0 (w_.heap.size + 1) 41 [.string (str k), .int .i64 p, .int .i64 s] := by
    have := Blk.new (w_.alloc (.cells (pgCells P iv).toArray 24)) 41 [.string (str k), .int .i64 p, .int .i64 s]
    have e : (w_.alloc (.cells (pgCells P iv).toArray 24)).heap.size = w_.heap.size + 1 := by simp
    rw [e] at this
    subst hw0; exact this
  have hop := opened_pg (hin.fits hg0)
  obtain ⟨ia, ic, rfl⟩ := items_form hin.1
  have HOp := keep hop
  have HIn := keep hin
  have HP0 := keep hP0
  have HE0 := keep hE0
  clear hop hin hE0
  unfold pgCells at hw0 hP0
  obtain ⟨p0, p1, p2, p3, p4, p5, _⟩ := pgres hP0
  unfold pgV enV
  go_enter Tryz.func24, Tryz.ntmps24
  go_upto_region 1 with fail
  rw [← hw0]
  clear hw0
  go_wp2_with fail
  refine HOp.out.mono ?_
  rintro x w1 ⟨a1, n1, c1, a2, n2, c2, hi, bd, ok, rfl, hok, hyes, hb1⟩
  clear p0 p1 p2 p3 p4 p5 hP0
  obtain ⟨w2, hw2⟩ : ∃ w2, w2 = w1.alloc (.cells #[.slice a1 n1 c1, .slice a2 n2 c2, .string (str hi.1), .int .i64 hi.2.1, .int .i64 hi.2.2, .bool bd] 97) := ⟨_, rfl⟩
  have hg2 : Grow w0 w2 := by subst hw2; exact Grow.alloc hb1 _
  have hO2 : Blk w2 w1.heap.size 97 [.slice a1 n1 c1, .slice a2 n2 c2, .string (str hi.1), .int .i64 hi.2.1, .int .i64 hi.2.2, .bool bd] := by subst hw2; exact Blk.new w1 _ [_, _, _, _, _, _]
  have hyes2 : ok = true → EnsS w2 (.slice a1 n1 c1) (ensN P) ∧ IntsS w2 (.slice a2 n2 c2) (kidsN P) ∧ hi = hiN P ∧ bd = bdN P := fun h => ⟨by subst hw2; exact RowS.fits (hyes h).1 ((Grow.refl _).alloc _), by subst hw2; exact RowS.fits (hyes h).2.1 ((Grow.refl _).alloc _), (hyes h).2.2⟩
  have HYes := keep hyes2
  have HOk := keep hok
  have HO2 := keep hO2
  have HG2 := keep hg2
  have HGW := keep (Grow.trans hg0 hg2)
  clear hyes hyes2 hok hb1 hO2 hg2
  go_upto_region 2 with fail
  rw [← hw2]
  clear hw2
  have hP2 := HP0.out.fits HG2.out
  unfold pgCells at hP2
  obtain ⟨p0, p1, p2, p3, p4, p5, _⟩ := pgres hP2
  obtain ⟨o0, o1, o2, o3, o4, o5, _⟩ := pgres HO2.out
  have hE2 := HE0.out.fits HG2.out
  obtain ⟨e0, e1, e2, _⟩ := enres hE2
  have hd := HD.out
  rw [← HOk.out] at hd
  have HD2 := keep hd
  clear hd
  cases ok with
  | false =>
    have hno : beyondN P (k, p, s) = (false, 140) := HD2.out
    go_wp2_with fail
    go_ret2
    rw [hno]
    exact ⟨rfl, HGW.out⟩
  | true =>
    obtain ⟨_, _, h2, h3⟩ := HYes.out rfl
    subst h2 h3
    have hd := HD2.out
    have hie := HIe.out w2
    try dsimp only at hie
    generalize enOk (k, p, s) = A at *
    have HIe2 := keep hie
    have HD3 := keep hd
    clear hie hd
    go_wp2_with fail
    refine HIe2.out.mono ?_
    rintro x w3 ⟨rfl, hb3⟩
    cases A with
    | false =>
      have hno : beyondN P (k, p, s) = (false, 140) := HD3.out
      go_wp2_with fail
      go_ret2
      rw [hno]
      exact ⟨rfl, Grow.trans HGW.out hb3⟩
    | true =>
      have hyes : beyondN P (k, p, s) = (beyN (bdN P) (hiN P) (k, p, s), 0) := HD3.out
      have hE3 := hE2.fits hb3
      have hO3 := HO2.out.fits hb3
      clear p0 p1 p2 p3 p4 p5 e0 e1 e2 o0 o1 o2 o3 o4 o5
      obtain ⟨e0, e1, e2, _⟩ := enres hE3
      obtain ⟨o0, o1, o2, o3, o4, o5, _⟩ := pgres hO3
      have hbe := HBe.out a1 a2 n1 c1 n2 c2 (hiN P) (bdN P) w3
      try dsimp only at hbe
      have HBe2 := keep hbe
      have HYs := keep hyes
      clear hE3 hO3 hbe hyes hE2 hP2
      go_wp2_with fail
      refine HBe2.out.mono ?_
      rintro x w4 ⟨rfl, hb4⟩
      go_wp2_with fail
      go_ret2
      rw [HYs.out]
      exact ⟨rfl, Grow.trans (Grow.trans HGW.out hb3) hb4⟩

set_option maxRecDepth 100000 in
set_option maxHeartbeats 4000000 in
theorem entries_node (P : Pg) (iv : Value) (w_ : World) (hin : PgIn w_ iv P) :
    Calls Tryz.prog 42 #[pgV P iv] w_ (EntPost P w_) := by
  have hd : entriesOk P = (openOk P && decide (P.level = 0)) := rfl
  have HD := keep hd
  clear hd
  obtain ⟨w0, hw0⟩ : ∃ w0, w0 = (w_.alloc (.cells (pgCells P iv).toArray 24)) := ⟨_, rfl⟩
  have hg0 : Grow w_ w0 := by subst hw0; exact (Grow.refl w_).alloc _
  have hP0 : Blk w0 w_.heap.size 24 (pgCells P iv) := by
    have := Blk.new w_ 24 (pgCells P iv)
    subst hw0; exact this
  have hop := opened_pg (hin.fits hg0)
  obtain ⟨ia, ic, rfl⟩ := items_form hin.1
  have HOp := keep hop
  have HIn := keep hin
  have HP0 := keep hP0
  clear hop hin 
  unfold pgCells at hw0 hP0
  obtain ⟨p0, p1, p2, p3, p4, p5, _⟩ := pgres hP0
  unfold pgV
  go_enter Tryz.func42, Tryz.ntmps42
  go_upto_region 1 with fail
  rw [← hw0]
  clear hw0
  go_wp2_with fail
  refine HOp.out.mono ?_
  rintro x w1 ⟨a1, n1, c1, a2, n2, c2, hi, bd, ok, rfl, hok, hyes, hb1⟩
  clear p0 p1 p2 p3 p4 p5 hP0
  obtain ⟨w2, hw2⟩ : ∃ w2, w2 = w1.alloc (.cells #[.slice a1 n1 c1, .slice a2 n2 c2, .string (str hi.1), .int .i64 hi.2.1, .int .i64 hi.2.2, .bool bd] 97) := ⟨_, rfl⟩
  have hg2 : Grow w0 w2 := by subst hw2; exact Grow.alloc hb1 _
  have hO2 : Blk w2 w1.heap.size 97 [.slice a1 n1 c1, .slice a2 n2 c2, .string (str hi.1), .int .i64 hi.2.1, .int .i64 hi.2.2, .bool bd] := by subst hw2; exact Blk.new w1 _ [_, _, _, _, _, _]
  have hyes2 : ok = true → EnsS w2 (.slice a1 n1 c1) (ensN P) ∧ IntsS w2 (.slice a2 n2 c2) (kidsN P) ∧ hi = hiN P ∧ bd = bdN P := fun h => ⟨by subst hw2; exact RowS.fits (hyes h).1 ((Grow.refl _).alloc _), by subst hw2; exact RowS.fits (hyes h).2.1 ((Grow.refl _).alloc _), (hyes h).2.2⟩
  have HYes := keep hyes2
  have HOk := keep hok
  have HO2 := keep hO2
  have HG2 := keep hg2
  have HGW := keep (Grow.trans hg0 hg2)
  clear hyes hyes2 hok hb1 hO2 hg2
  go_upto_region 2 with fail
  rw [← hw2]
  clear hw2
  have hP2 := HP0.out.fits HG2.out
  unfold pgCells at hP2
  obtain ⟨p0, p1, p2, p3, p4, p5, _⟩ := pgres hP2
  obtain ⟨o0, o1, o2, o3, o4, o5, _⟩ := pgres HO2.out
  have hd := HD.out
  rw [← HOk.out] at hd
  have HD2 := keep hd
  clear hd
  cases ok with
  | false =>
    have hno : entriesOk P = false := HD2.out
    go_wp2_with fail
    go_ret2
    unfold EntPost
    rw [hno, if_neg (by decide)]
    exact ⟨rfl, HGW.out⟩
  | true =>
    obtain ⟨hes, _, _, _⟩ := HYes.out rfl
    by_cases hlv : P.level = 0
    · have hyes : entriesOk P = true := by rw [HD2.out, decide_eq_true hlv]; rfl
      have hlv2 : (P.level != 0) = false := by simp [hlv]
      have hform : n1 = (ensN P).length := by
        rcases hes with ⟨h0, _, a, cap, h⟩ | ⟨c, off, cap, blk, f, h, _⟩
        · simp only [Value.slice.injEq] at h; omega
        · simp only [Value.slice.injEq] at h; exact h.2.1
      subst hform
      have HEs := keep hes
      have HYs := keep hyes
      clear hlv hes hyes
      go_wp2_with fail
      go_ret2
      unfold EntPost
      rw [HYs.out, if_pos rfl]
      exact ⟨⟨a1, c1, rfl, HEs.out⟩, HGW.out⟩
    · have hno : entriesOk P = false := by rw [HD2.out, decide_eq_false hlv]; rfl
      have hlv2 : (P.level != 0) = true := by simp [hlv]
      have HNo := keep hno
      clear hlv hno
      go_wp2_with fail
      go_ret2
      unfold EntPost
      rw [HNo.out, if_neg (by decide)]
      exact ⟨rfl, HGW.out⟩

end Go.Proofs.YtaninphcgeaepaaGreat

/- node.Child. -/
namespace Go.Proofs.YtaninphcgeaepaaGreat
open Go.RowKit
attribute [local go_sem] givesF_none givesF_some evalF_tmp evalF_const evalF_global evalF_func lookL isB_bool isB_undef givesUpon_value givesUpon_skip givesUpon_enter

/-- The page below that leads to an entry, and what is wrong. -/
def childOk (P : Pg) (e : En) : Bool := openOk P && (!decide (P.level = 0) && (enOk e && !beyN (bdN P) (hiN P) e))
def childN (P : Pg) (e : En) : Int × Int := if childOk P e then ((kidsN P).getD (posE (ensN P) e - 1) 0, 0) else (0, 140)

theorem least_lt {e : En} (h : enOk e = true) : cmpE leastE e < 0 := by
  obtain ⟨k, p, s⟩ := e
  simp only [enOk, inB, Bool.and_eq_true, decide_eq_true_eq] at h
  cases k with
  | nil => simp at h
  | cons a k => unfold cmpE leastE or3; simp [Lib.compareBytes]
theorem first_least {P : Pg} (h : openOk P = true) (hlv : P.level ≠ 0) : 0 < P.items.length ∧ ∀ hl : 0 < (ensN P).length, (ensN P)[0] = leastE := by
  unfold openOk at h
  simp only [Bool.and_eq_true] at h
  have hl : 0 < P.items.length := by
    have := h.2.2
    rw [decide_eq_false hlv, Bool.false_or, decide_eq_true_eq] at this
    exact this
  refine ⟨hl, fun hl2 => ?_⟩
  have h1 := okTo_at h.2.1 0 hl
  simp only [roundOk, Bool.and_eq_true] at h1
  have h2 := h1.1
  rw [decide_eq_false hlv, Bool.false_or] at h2
  simp at h2
  have e1 : (ensN P)[0] = (itemN P.level (P.items.getD 0 [])).1 := by simp [ensN, ensTo, hl]
  rw [e1]
  simpa [hl] using h2
theorem pos_one {P : Pg} {e : En} (h : openOk P = true) (hlv : P.level ≠ 0) (he : enOk e = true) : 1 ≤ posE (ensN P) e := by
  obtain ⟨h1, h2⟩ := first_least h hlv
  have hl : 0 < (ensN P).length := by rw [ensN_length]; exact h1
  unfold posE
  refine List.countP_pos_iff.2 ⟨(ensN P)[0], List.getElem_mem hl, ?_⟩
  rw [h2 hl]
  exact decide_eq_true (least_lt he)
theorem kidsN_length {P : Pg} (hlv : P.level ≠ 0) : (kidsN P).length = P.items.length := by
  unfold kidsN kidsTo
  rw [if_neg hlv]
  simp

set_option maxRecDepth 100000 in
set_option maxHeartbeats 4000000 in
theorem child_node (P : Pg) (iv : Value) (e : En) (w_ : World) (hin : PgIn w_ iv P) :
    Calls Tryz.prog 39 #[pgV P iv, enV e] w_ fun x w' => x = .returned (.tuple #[.int .i64 (childN P e).1, .int .i64 (childN P e).2]) ∧ Below w_.heap.size w_ w' := by
  have hie := fun u => isEntry_any e u
  have hbe := fun (a1 a2 : Option Addr) (n1 c1 n2 c2 : Nat) (hi : En) (bd : Bool) (u : World) => beyond_any a1 a2 n1 c1 n2 c2 hi e bd u
  have hse := fun (l : List En) (v : Value) (u : World) (h : EnsS u v l) (hl : l.length ≤ 1759218604441) (hs : Sorted l) => search_any e l v u h hl hs
  have hd : childN P e = if openOk P && (!decide (P.level = 0) && (enOk e && !beyN (bdN P) (hiN P) e)) then ((kidsN P).getD (posE (ensN P) e - 1) 0, 0) else (0, 140) := rfl
  have hpo := fun h1 h2 h3 => pos_one (P := P) (e := e) h1 h2 h3
  unfold enV at hie hbe hse
  have HIe := keep hie
  have HBe := keep hbe
  have HSe := keep hse
  have HD := keep hd
  have HPo := keep hpo
  clear hie hbe hse hd hpo
  obtain ⟨k, p, s⟩ := e
  obtain ⟨w0, hw0⟩ : ∃ w0, w0 = ((w_.alloc (.cells (pgCells P iv).toArray 24)).alloc (.cells #[.string (str k), .int .i64 p, .int .i64 s] 41)) := ⟨_, rfl⟩
  have hg0 : Grow w_ w0 := by subst hw0; exact ((Grow.refl w_).alloc _).alloc _
  have hP0 : Blk w0 w_.heap.size 24 (pgCells P iv) := by
    have := (Blk.new w_ 24 (pgCells P iv)).alloc (.cells #[.string (str k), .int .i64 p, .int .i64 s] 41)
    subst hw0; exact this
  have hE0 : Blk w0 (w_.heap.size + 1) 41 [.string (str k), .int .i64 p, .int .i64 s] := by
    have := Blk.new (w_.alloc (.cells (pgCells P iv).toArray 24)) 41 [.string (str k), .int .i64 p, .int .i64 s]
    have e : (w_.alloc (.cells (pgCells P iv).toArray 24)).heap.size = w_.heap.size + 1 := by simp
    rw [e] at this
    subst hw0; exact this
  have hop := opened_pg (hin.fits hg0)
  obtain ⟨ia, ic, rfl⟩ := items_form hin.1
  have HOp := keep hop
  have HIn := keep hin
  have HP0 := keep hP0
  have HE0 := keep hE0
  clear hop hin hE0
  unfold pgCells at hw0 hP0
  obtain ⟨p0, p1, p2, p3, p4, p5, _⟩ := pgres hP0
  unfold pgV enV
  go_enter Tryz.func39, Tryz.ntmps39
  go_upto_region 1 with fail
  rw [← hw0]
  clear hw0
  go_wp2_with fail
  refine HOp.out.mono ?_
  rintro x w1 ⟨a1, n1, c1, a2, n2, c2, hi, bd, ok, rfl, hok, hyes, hb1⟩
  clear p0 p1 p2 p3 p4 p5 hP0
  obtain ⟨w2, hw2⟩ : ∃ w2, w2 = w1.alloc (.cells #[.slice a1 n1 c1, .slice a2 n2 c2, .string (str hi.1), .int .i64 hi.2.1, .int .i64 hi.2.2, .bool bd] 97) := ⟨_, rfl⟩
  have hg2 : Grow w0 w2 := by subst hw2; exact Grow.alloc hb1 _
  have hO2 : Blk w2 w1.heap.size 97 [.slice a1 n1 c1, .slice a2 n2 c2, .string (str hi.1), .int .i64 hi.2.1, .int .i64 hi.2.2, .bool bd] := by subst hw2; exact Blk.new w1 _ [_, _, _, _, _, _]
  have hyes2 : ok = true → EnsS w2 (.slice a1 n1 c1) (ensN P) ∧ IntsS w2 (.slice a2 n2 c2) (kidsN P) ∧ hi = hiN P ∧ bd = bdN P := fun h => ⟨by subst hw2; exact RowS.fits (hyes h).1 ((Grow.refl _).alloc _), by subst hw2; exact RowS.fits (hyes h).2.1 ((Grow.refl _).alloc _), (hyes h).2.2⟩
  have HYes := keep hyes2
  have HOk := keep hok
  have HO2 := keep hO2
  have HG2 := keep hg2
  have HGW := keep (Grow.trans hg0 hg2)
  clear hyes hyes2 hok hb1 hO2 hg2
  go_upto_region 2 with fail
  rw [← hw2]
  clear hw2
  have hP2 := HP0.out.fits HG2.out
  unfold pgCells at hP2
  obtain ⟨p0, p1, p2, p3, p4, p5, _⟩ := pgres hP2
  obtain ⟨o0, o1, o2, o3, o4, o5, _⟩ := pgres HO2.out
  have hE2 := HE0.out.fits HG2.out
  obtain ⟨e0, e1, e2, _⟩ := enres hE2
  have hHIe := HIe.out
  have hHBe := HBe.out
  have hHSe := HSe.out
  have hHPo := HPo.out
  try dsimp only at hHIe
  try dsimp only at hHBe
  try dsimp only at hHSe
  have HIe := keep hHIe
  have HBe := keep hHBe
  have HSe := keep hHSe
  clear hHIe hHBe hHSe
  go_cut [31] from 15 to 31 (fun sv wx => sv = .bool (!(ok && (!decide (P.level = 0) && (enOk (k, p, s) && !beyN bd hi (k, p, s))))) ∧ Grow w2 wx)
  case first =>
    clear hHPo
    cases ok with
    | false =>
      go_wp2_with fail
      all_goals go_meet
      all_goals (case rel => exact ⟨rfl, Grow.refl _⟩)
    | true =>
      by_cases hlv : P.level = 0
      · have hlv2 : (P.level == 0) = true := by simp [hlv]
        have HLv := keep hlv
        clear hlv
        go_wp2_with fail
        all_goals go_meet
        all_goals (case rel => exact ⟨by simp [HLv.out], Grow.refl _⟩)
      · have hlv2 : (P.level == 0) = false := by simp [hlv]
        have HLv := keep hlv
        clear hlv
        generalize enOk (k, p, s) = A at *
        go_wp2_with fail
        refine (HIe.out w2).mono ?_
        rintro x w3 ⟨rfl, hb3⟩
        cases A with
        | false =>
          go_wp2_with fail
          all_goals go_meet
          all_goals (case rel => exact ⟨by simp, hb3⟩)
        | true =>
          have hE3 := hE2.fits hb3
          have hO3 := HO2.out.fits hb3
          clear e0 e1 e2 o0 o1 o2 o3 o4 o5
          obtain ⟨e0, e1, e2, _⟩ := enres hE3
          obtain ⟨o0, o1, o2, o3, o4, o5, _⟩ := pgres hO3
          have hbe := HBe.out a1 a2 n1 c1 n2 c2 hi bd w3
          generalize beyN bd hi (k, p, s) = B at *
          have HB := keep hbe
          clear hE3 hO3 hbe
          go_wp2_with fail
          refine HB.out.mono ?_
          rintro x w4 ⟨rfl, hb4⟩
          go_wp2_with fail
          all_goals go_meet
          all_goals (case rel => exact ⟨by simp [HLv.out], Grow.trans hb3 hb4⟩)
  case rest =>
    obtain ⟨rfl, hg3⟩ := hcut
    clear p0 p1 p2 p3 p4 p5 e0 e1 e2 o0 o1 o2 o3 o4 o5 hP2 hE2
    generalize wc = w3 at *
    have HG3 := keep (Grow.trans HG2.out hg3)
    have HGW3 := keep (Grow.trans HGW.out hg3)
    generalize hM : (ok && (!decide (P.level = 0) && (enOk (k, p, s) && !beyN bd hi (k, p, s)))) = M
    cases M with
    | false =>
      have hno : childN P (k, p, s) = (0, 140) := by
        rw [HD.out, ← HOk.out]
        cases ok with
        | false => rfl
        | true =>
          obtain ⟨_, _, h2, h3⟩ := HYes.out rfl
          rw [← h2, ← h3, hM]
          rfl
      have HNo := keep hno
      clear hM hno hg3 hHPo
      go_wp2_with fail
      go_ret2
      rw [HNo.out]
      exact ⟨rfl, HGW3.out⟩
    | true =>
      have hm : ok = true ∧ P.level ≠ 0 ∧ enOk (k, p, s) = true ∧ beyN bd hi (k, p, s) = false := by simpa [and_assoc] using hM
      obtain ⟨rfl, hlv, hen, hbe⟩ := hm
      obtain ⟨hes, hks, rfl, rfl⟩ := HYes.out rfl
      have hes3 : EnsS w3 (.slice a1 n1 c1) (ensN P) := RowS.fits hes hg3
      have hks3 : IntsS w3 (.slice a2 n2 c2) (kidsN P) := RowS.fits hks hg3
      have hopen : openOk P = true := HOk.out.symm
      have hd2 : childN P (k, p, s) = ((kidsN P).getD (posE (ensN P) (k, p, s) - 1) 0, 0) := by
        rw [HD.out, hopen, hM.symm.trans (by rfl)]
        simp [hlv, hen, hbe]
      have hp1 := HPo.out hopen hlv hen
      have hp2 := posE_le (ensN P) (k, p, s)
      rw [ensN_length] at hp2
      have hp3 := kidsN_length hlv
      have hp4 := (open_fine hopen).1
      have hsc := HSe.out (ensN P) (.slice a1 n1 c1) w3 hes3 (by rw [ensN_length]; omega) (open_sorted hopen)
      have hE3 := HE0.out.fits HG3.out
      have hO3 := HO2.out.fits hg3
      generalize posE (ensN P) (k, p, s) = J at *
      obtain ⟨e0, e1, e2, _⟩ := enres hE3
      obtain ⟨o0, o1, o2, o3, o4, o5, _⟩ := pgres hO3
      have HSc := keep hsc
      have HD2 := keep hd2
      have HKs := keep hks3
      have HO3 := keep hO3
      clear hM hlv hen hbe hes hes3 hopen hd2 hsc hg3 hE3 hO3 hHPo hks hks3
      go_wp2_with fail
      refine HSc.out.mono ?_
      rintro x w4 ⟨rfl, hb4⟩
      clear e0 e1 e2 o0 o1 o2 o3 o4 o5
      have hO4 := HO3.out.fits hb4
      obtain ⟨o0, o1, o2, o3, o4, o5, _⟩ := pgres hO4
      have hks4 : IntsS w4 (.slice a2 n2 c2) (kidsN P) := RowS.fits HKs.out hb4
      obtain ⟨a, cap, he, hcc⟩ := ints_form hks4.weak
      simp only [Value.slice.injEq] at he
      obtain ⟨rfl, rfl, rfl⟩ := he
      obtain ⟨cc, co, rfl, hcell⟩ := hcc (J - 1) (by omega)
      have HGW4 := keep (Grow.trans HGW3.out hb4)
      have hjm : wrap64 ((J : Int) - 1) = (J : Int) - 1 := by
        rw [show (J : Int) - 1 = ((J - 1 : Nat) : Int) by omega]
        exact wrap64_small _ (by omega)
      have hj0 : (0 : Int) ≤ (J : Int) - 1 := by omega
      have hjn : (J : Int) - 1 < ((kidsN P).length : Int) := by omega
      clear hO4 hks4 hcc hb4 hp1 hp2 hp3 hp4
      go_wp2_with fail
      go_ret2
      rw [HD2.out]
      exact ⟨rfl, HGW4.out⟩

end Go.Proofs.YtaninphcgeaepaaGreat

/- Leaves by their entries. -/
namespace Go.Proofs.YtaninphcgeaepaaGreat
open Go.RowKit

/-- The leaf of a list of entries. -/
def pgOf (l : List En) : Pg := ⟨0, 3, 0, 0, [], l.map fun e => enBytes e []⟩
structure GoodL (l : List En) : Prop where
  sorted : Sorted l
  ok : ∀ e ∈ l, enOk e = true
  fit : fitsP (pgOf l) = true
theorem good_nil : GoodL [] := ⟨List.Pairwise.nil, by simp, by decide⟩

theorem item_of {e : En} (h : enOk e = true) : itemN 0 (enBytes e []) = (e, 0, 0) := by
  unfold itemN
  rw [if_pos rfl, decN_of h]
theorem ens_of {l : List En} (h : ∀ e ∈ l, enOk e = true) : ensN (pgOf l) = l := by
  unfold ensN ensTo pgOf
  dsimp only
  rw [List.take_of_length_le (Nat.le_refl _), List.map_map]
  conv => rhs; rw [← List.map_id l]
  refine List.map_congr_left fun e he => ?_
  show (itemN 0 (enBytes e [])).1 = e
  rw [item_of (h e he)]
theorem okTo_of {l : List En} {hi : En} (hs : Sorted l) (h : ∀ e ∈ l, enOk e = true) : ∀ k, k ≤ l.length → okTo 0 hi false (pgOf l).items k = true := by
  have hat : ∀ j (hj : j < l.length), itemN 0 ((pgOf l).items.getD j []) = (l[j], 0, 0) := by
    intro j hj
    have e : (pgOf l).items.getD j [] = enBytes l[j] [] := by simp [pgOf, hj]
    rw [e]
    exact item_of (h _ (List.getElem_mem hj))
  intro k
  induction k with
  | zero => intro _; rfl
  | succ k ih =>
    intro hk
    rw [okTo, ih (by omega), Bool.true_and, hat k (by omega)]
    by_cases h0 : k = 0
    · subst h0; rfl
    · rw [hat (k - 1) (by omega)]
      have hc := hs.at (show k - 1 < l.length by omega) (show k < l.length by omega) (by omega)
      unfold roundOk
      dsimp only
      rw [hc]
      simp
theorem open_of {l : List En} (h : GoodL l) : openOk (pgOf l) = true := by
  have h1 : encOk (pgOf l) = true := by
    unfold encOk
    rw [h.fit]
    rfl
  have h2 : headOk (pgOf l) = true := by
    unfold headOk
    rw [h1]
    rfl
  have h3 : okTo (pgOf l).level (hiN (pgOf l)) (bdN (pgOf l)) (pgOf l).items (pgOf l).items.length = true := by
    have e : (pgOf l).items.length = l.length := by simp [pgOf]
    rw [e]
    exact okTo_of h.sorted h.ok l.length (Nat.le_refl _)
  unfold openOk
  rw [h2, h3]
  rfl
theorem good_length {l : List En} (h : GoodL l) : l.length ≤ 255 := by
  have := h.fit
  simp only [fitsP, Bool.and_eq_true, decide_eq_true_eq] at this
  have e : (pgOf l).items.length = l.length := by simp [pgOf]
  omega
theorem pgIn_good {l : List En} (h : GoodL l) {w : World} {iv : Value} (hi : ItemsC w iv (pgOf l).items) : PgIn w iv (pgOf l) := by
  have e : (pgOf l).items.length = l.length := by simp [pgOf]
  have hl := good_length h
  refine ⟨hi.1.weak, fun x hx => ?_, by simp [pgOf], by omega, by simp [pgOf]⟩
  simp only [pgOf, List.mem_map] at hx
  obtain ⟨a, ha, rfl⟩ := hx
  have := enBytes_length a (h.ok a ha)
  omega

/-- Where an entry comes in. -/
theorem pos_split {l : List En} (h : Sorted l) (t : En) : (∀ j (hj : j < l.length), j < posE l t → cmpE l[j] t < 0) ∧ (∀ j (hj : j < l.length), posE l t ≤ j → ¬ cmpE l[j] t < 0) ∧ (t ∈ l ↔ ∃ hk : posE l t < l.length, cmpE l[posE l t] t = 0) := by
  obtain ⟨k, hk, h1, h2⟩ : ∃ k, k ≤ l.length ∧ (∀ j (hj : j < l.length), j < k → cmpE l[j] t < 0) ∧ (∀ j (hj : j < l.length), k ≤ j → ¬ cmpE l[j] t < 0) := by
    by_cases hall : ∀ j (hj : j < l.length), cmpE l[j] t < 0
    · exact ⟨l.length, Nat.le_refl _, fun j hj _ => hall j hj, fun j hj hk => by omega⟩
    · have hex : ∃ k, ∃ hk : k < l.length, ¬ cmpE l[k] t < 0 := by
        simp only [Classical.not_forall] at hall
        exact hall
      have key : ∀ n, (∀ j, j < n → ∀ hj : j < l.length, cmpE l[j] t < 0) ∨ ∃ k, ∃ hk : k < l.length, k < n ∧ ¬ cmpE l[k] t < 0 ∧ ∀ j, j < k → ∀ hj : j < l.length, cmpE l[j] t < 0 := by
        intro n
        induction n with
        | zero => exact .inl fun j hj => by omega
        | succ n ih =>
          rcases ih with ih | ⟨k, hk, hkn, h3, h4⟩
          · by_cases hn : ∃ hn : n < l.length, ¬ cmpE l[n] t < 0
            · obtain ⟨hn, hc⟩ := hn
              exact .inr ⟨n, hn, by omega, hc, ih⟩
            · refine .inl fun j hj hjl => ?_
              by_cases e : j = n
              · subst e
                exact Classical.byContradiction fun hc => hn ⟨hjl, hc⟩
              · exact ih j (by omega) hjl
          · exact .inr ⟨k, hk, by omega, h3, h4⟩
      obtain ⟨k0, hk0, hc0⟩ := hex
      rcases key (k0 + 1) with h5 | ⟨k, hk, _, h3, h4⟩
      · exact absurd (h5 k0 (by omega) hk0) hc0
      · exact ⟨k, Nat.le_of_lt hk, fun j hj hjk => h4 j hjk hj, fun j hj hkj => search_high h hk h3 j hj hkj⟩
  obtain ⟨h3, h4⟩ := search_end h hk h1 h2
  rw [h3]
  exact ⟨h1, h2, h4⟩
def insL (l : List En) (e : En) : List En := l.take (posE l e) ++ e :: l.drop (posE l e)
theorem insL_sorted {l : List En} (h : Sorted l) {e : En} (hn : e ∉ l) : Sorted (insL l e) := by
  obtain ⟨h1, h2, h3⟩ := pos_split h e
  have hap : Sorted (l.take (posE l e) ++ l.drop (posE l e)) := by rw [List.take_append_drop]; exact h
  obtain ⟨ha, hb, hc⟩ := List.pairwise_append.1 hap
  refine List.pairwise_append.2 ⟨ha, List.pairwise_cons.2 ⟨fun x hx => ?_, hb⟩, fun x hx y hy => ?_⟩
  · obtain ⟨j, hj, rfl⟩ := List.mem_iff_getElem.1 hx
    rw [List.length_drop] at hj
    rw [List.getElem_drop]
    have h4 := h2 (posE l e + j) (by omega) (by omega)
    rw [cmpE_neg]
    rcases cmpE_three l[posE l e + j] e with h5 | h5 | h5
    · rw [h5] at h4; omega
    · exact absurd (by rw [← cmpE_eq.1 h5]; exact List.getElem_mem _) hn
    · rw [h5]
  · rcases List.mem_cons.1 hy with rfl | hy
    · obtain ⟨j, hj, rfl⟩ := List.mem_iff_getElem.1 hx
      rw [List.length_take] at hj
      rw [List.getElem_take]
      exact (cmp_neg_iff _ _).1 (h1 j (by omega) (by omega))
    · exact hc x hx y hy
theorem insL_mem {l : List En} {e x : En} : x ∈ insL l e ↔ x = e ∨ x ∈ l := by
  unfold insL
  rw [List.mem_append, List.mem_cons]
  constructor
  · rintro (h | h | h)
    · exact .inr (List.mem_of_mem_take h)
    · exact .inl h
    · exact .inr (List.mem_of_mem_drop h)
  · rintro (h | h)
    · exact .inr (.inl h)
    · rw [← List.take_append_drop (posE l e) l, List.mem_append] at h
      rcases h with h | h
      · exact .inl h
      · exact .inr (.inr h)
/-- Does an entry come in? -/
def insB (l : List En) (e : En) : Bool := enOk e && (!decide (e ∈ l) && fitsP (pgOf (insL l e)))
theorem insB_good {l : List En} {e : En} (h : GoodL l) (hb : insB l e = true) : GoodL (insL l e) := by
  simp only [insB, Bool.and_eq_true, Bool.not_eq_true', decide_eq_false_iff_not] at hb
  exact ⟨insL_sorted h.sorted hb.2.1, fun x hx => (insL_mem.1 hx).elim (fun h1 => h1 ▸ hb.1) (h.ok x), hb.2.2⟩
theorem insN_of {l : List En} (h : GoodL l) (e : En) : (insB l e = true ∧ insN (pgOf l) e = (pgOf (insL l e), 0)) ∨ (insB l e = false ∧ ∃ c, c ≠ 0 ∧ insN (pgOf l) e = (zeroP, c)) := by
  have h1 : insN (pgOf l) e = if enOk e then (if decide (e ∈ l) then (zeroP, 140) else turnedN (pgOf l) (insL l e |>.map fun x => enBytes x [])) else (zeroP, 140) := by
    unfold insN putN
    rw [open_of h, ens_of h.ok]
    have e2 : (insL l e).map (fun x => enBytes x []) = (pgOf l).items.take (posE l e) ++ enBytes e [] :: (pgOf l).items.drop (posE l e) := by
      simp [insL, pgOf]
    rw [e2]
    cases enOk e <;> rfl
  rw [h1]
  unfold insB turnedN
  cases h2 : enOk e with
  | false => exact .inr ⟨rfl, 140, by decide, rfl⟩
  | true =>
    by_cases h3 : e ∈ l
    · rw [decide_eq_true h3]
      exact .inr ⟨rfl, 140, by decide, rfl⟩
    · rw [decide_eq_false h3]
      have e3 : ({ pgOf l with items := (insL l e).map fun x => enBytes x [] } : Pg) = pgOf (insL l e) := rfl
      rw [e3]
      cases h4 : fitsP (pgOf (insL l e)) with
      | false => exact .inr ⟨rfl, 3, by decide, rfl⟩
      | true => exact .inl ⟨rfl, rfl⟩
def stepL (l : List En) (e : En) : List En := if insB l e then insL l e else l
/-- Entries, as far as they go in. -/
def growL (l : List En) : List En := l.foldl stepL []
theorem stepL_good {l : List En} (h : GoodL l) (e : En) : GoodL (stepL l e) := by
  unfold stepL
  split
  · exact insB_good h (by assumption)
  · exact h
theorem fold_good (l : List En) : ∀ g, GoodL g → GoodL (l.foldl stepL g) := by
  induction l with
  | nil => exact fun g h => h
  | cons e l ih => exact fun g h => ih _ (stepL_good h e)
theorem growL_good (l : List En) : GoodL (growL l) := fold_good l [] good_nil
theorem growL_succ (l : List En) (n : Nat) (h : n < l.length) : growL (l.take (n + 1)) = stepL (growL (l.take n)) l[n] := by
  unfold growL
  rw [List.take_add_one, List.getElem?_eq_getElem h, Option.toList_some, List.foldl_append]
  rfl
theorem entriesOk_of {l : List En} (h : GoodL l) : entriesOk (pgOf l) = true := by
  unfold entriesOk
  rw [open_of h]
  rfl

end Go.Proofs.YtaninphcgeaepaaGreat
