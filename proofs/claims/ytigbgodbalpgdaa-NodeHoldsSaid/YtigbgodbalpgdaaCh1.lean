/- node.Beyond, node.Entries. -/
import Derived.Test.YtigbgodbalpgdaaNf2
import Derived.Deep.CutRange
namespace Go.Proofs.Ytigbgodbalpgdaa
open Go.RowKit
attribute [local go_sem] givesF_none givesF_some evalF_tmp evalF_const evalF_global evalF_func lookL isB_bool isB_undef givesUpon_value givesUpon_skip givesUpon_enter

/-- Whether an entry lies beyond a node, and what is wrong. -/
def beyondN (P : Pg) (e : En) : Bool × Int := if openOk P && enOk e then (beyN (bdN P) (hiN P) e, 0) else (false, 140)
/-- A leaf's entries, and what is wrong. -/
def entriesOk (P : Pg) : Bool := openOk P && decide (P.level = 0)
def EntPost (P : Pg) (w : World) (x : Ending) (w' : World) : Prop :=
  (if entriesOk P then ∃ a c, x = .returned (.tuple #[.slice a (ensN P).length c, .int .i64 0]) ∧ EnsS w' (.slice a (ensN P).length c) (ensN P) else x = .returned (.tuple #[.slice none 0 0, .int .i64 140])) ∧ Below w.heap.size w w'

set_option maxRecDepth 100000 in
set_option maxHeartbeats 4000000 in
theorem beyond_node (P : Pg) (iv : Value) (e : En) (w_ : World) (hin : PgIn w_ iv P) :
    Calls Try.prog 25 #[pgV P iv, enV e] w_ fun x w' => x = .returned (.tuple #[.bool (beyondN P e).1, .int .i64 (beyondN P e).2]) ∧ Below w_.heap.size w_ w' := by
  have hie := fun u => isEntry_any e u
  have hbe := fun (a1 a2 : Option Addr) (n1 c1 n2 c2 : Nat) (hi : En) (bd : Bool) (u : World) => beyond_any a1 a2 n1 c1 n2 c2 hi e bd u
  have hd : beyondN P e = if openOk P && enOk e then (beyN (bdN P) (hiN P) e, 0) else (false, 140) := rfl
  unfold enV at hie hbe
  have HIe := keep hie
  have HBe := keep hbe
  have HD := keep hd
  clear hie hbe hd
  obtain ⟨k, p, s⟩ := e
  obtain ⟨w0, hw0⟩ : ∃ w0, w0 = ((w_.alloc (.cells (pgCells P iv).toArray 39)).alloc (.cells #[.string (str k), .int .i64 p, .int .i64 s] 23)) := ⟨_, rfl⟩
  have hg0 : Grow w_ w0 := by subst hw0; exact ((Grow.refl w_).alloc _).alloc _
  have hP0 : Blk w0 w_.heap.size 39 (pgCells P iv) := by
    have := (Blk.new w_ 39 (pgCells P iv)).alloc (.cells #[.string (str k), .int .i64 p, .int .i64 s] 23)
    subst hw0; exact this
  have hE0 : Blk w0 (w_.heap.size + 1) 23 [.string (str k), .int .i64 p, .int .i64 s] := by
    have := Blk.new (w_.alloc (.cells (pgCells P iv).toArray 39)) 23 [.string (str k), .int .i64 p, .int .i64 s]
    have e : (w_.alloc (.cells (pgCells P iv).toArray 39)).heap.size = w_.heap.size + 1 := by simp
    rw [e] at this
    subst hw0; exact this
  have hop := opened_pg (hin.fits hg0)
  obtain ⟨ia, ic, rfl⟩ := items_form hin.1
  have HOp := keep hop
  have HIn := keep hin
  have HP0 := keep hP0
  have HE0 := keep hE0
  clear hop hin hE0
  unfold pgCells at hw0 hP0
  obtain ⟨p0, p1, p2, p3, p4, p5, _⟩ := pgres hP0
  unfold pgV enV
  go_enter Try.func25, Try.ntmps25
  go_upto_region 1 with fail
  rw [← hw0]
  clear hw0
  go_wp2_with fail
  refine HOp.out.mono ?_
  rintro x w1 ⟨a1, n1, c1, a2, n2, c2, hi, bd, ok, rfl, hok, hyes, hb1⟩
  clear p0 p1 p2 p3 p4 p5 hP0
  obtain ⟨w2, hw2⟩ : ∃ w2, w2 = w1.alloc (.cells #[.slice a1 n1 c1, .slice a2 n2 c2, .string (str hi.1), .int .i64 hi.2.1, .int .i64 hi.2.2, .bool bd] 81) := ⟨_, rfl⟩
  have hg2 : Grow w0 w2 := by subst hw2; exact Grow.alloc hb1 _
  have hO2 : Blk w2 w1.heap.size 81 [.slice a1 n1 c1, .slice a2 n2 c2, .string (str hi.1), .int .i64 hi.2.1, .int .i64 hi.2.2, .bool bd] := by subst hw2; exact Blk.new w1 _ [_, _, _, _, _, _]
  have hyes2 : ok = true → EnsS w2 (.slice a1 n1 c1) (ensN P) ∧ IntsS w2 (.slice a2 n2 c2) (kidsN P) ∧ hi = hiN P ∧ bd = bdN P := fun h => ⟨by subst hw2; exact RowS.fits (hyes h).1 ((Grow.refl _).alloc _), by subst hw2; exact RowS.fits (hyes h).2.1 ((Grow.refl _).alloc _), (hyes h).2.2⟩
  have HYes := keep hyes2
  have HOk := keep hok
  have HO2 := keep hO2
  have HG2 := keep hg2
  have HGW := keep (Grow.trans hg0 hg2)
  clear hyes hyes2 hok hb1 hO2 hg2
  go_upto_region 2 with fail
  rw [← hw2]
  clear hw2
  have hP2 := HP0.out.fits HG2.out
  unfold pgCells at hP2
  obtain ⟨p0, p1, p2, p3, p4, p5, _⟩ := pgres hP2
  obtain ⟨o0, o1, o2, o3, o4, o5, _⟩ := pgres HO2.out
  have hE2 := HE0.out.fits HG2.out
  obtain ⟨e0, e1, e2, _⟩ := enres hE2
  have hd := HD.out
  rw [← HOk.out] at hd
  have HD2 := keep hd
  clear hd
  cases ok with
  | false =>
    have hno : beyondN P (k, p, s) = (false, 140) := HD2.out
    go_wp2_with fail
    go_ret2
    rw [hno]
    exact ⟨rfl, HGW.out⟩
  | true =>
    obtain ⟨_, _, h2, h3⟩ := HYes.out rfl
    subst h2 h3
    have hd := HD2.out
    have hie := HIe.out w2
    try dsimp only at hie
    generalize enOk (k, p, s) = A at *
    have HIe2 := keep hie
    have HD3 := keep hd
    clear hie hd
    go_wp2_with fail
    refine HIe2.out.mono ?_
    rintro x w3 ⟨rfl, hb3⟩
    cases A with
    | false =>
      have hno : beyondN P (k, p, s) = (false, 140) := HD3.out
      go_wp2_with fail
      go_ret2
      rw [hno]
      exact ⟨rfl, Grow.trans HGW.out hb3⟩
    | true =>
      have hyes : beyondN P (k, p, s) = (beyN (bdN P) (hiN P) (k, p, s), 0) := HD3.out
      have hE3 := hE2.fits hb3
      have hO3 := HO2.out.fits hb3
      clear p0 p1 p2 p3 p4 p5 e0 e1 e2 o0 o1 o2 o3 o4 o5
      obtain ⟨e0, e1, e2, _⟩ := enres hE3
      obtain ⟨o0, o1, o2, o3, o4, o5, _⟩ := pgres hO3
      have hbe := HBe.out a1 a2 n1 c1 n2 c2 (hiN P) (bdN P) w3
      try dsimp only at hbe
      have HBe2 := keep hbe
      have HYs := keep hyes
      clear hE3 hO3 hbe hyes hE2 hP2
      go_wp2_with fail
      refine HBe2.out.mono ?_
      rintro x w4 ⟨rfl, hb4⟩
      go_wp2_with fail
      go_ret2
      rw [HYs.out]
      exact ⟨rfl, Grow.trans (Grow.trans HGW.out hb3) hb4⟩

set_option maxRecDepth 100000 in
set_option maxHeartbeats 4000000 in
theorem entries_node (P : Pg) (iv : Value) (w_ : World) (hin : PgIn w_ iv P) :
    Calls Try.prog 21 #[pgV P iv] w_ (EntPost P w_) := by
  have hd : entriesOk P = (openOk P && decide (P.level = 0)) := rfl
  have HD := keep hd
  clear hd
  obtain ⟨w0, hw0⟩ : ∃ w0, w0 = (w_.alloc (.cells (pgCells P iv).toArray 39)) := ⟨_, rfl⟩
  have hg0 : Grow w_ w0 := by subst hw0; exact (Grow.refl w_).alloc _
  have hP0 : Blk w0 w_.heap.size 39 (pgCells P iv) := by
    have := Blk.new w_ 39 (pgCells P iv)
    subst hw0; exact this
  have hop := opened_pg (hin.fits hg0)
  obtain ⟨ia, ic, rfl⟩ := items_form hin.1
  have HOp := keep hop
  have HIn := keep hin
  have HP0 := keep hP0
  clear hop hin 
  unfold pgCells at hw0 hP0
  obtain ⟨p0, p1, p2, p3, p4, p5, _⟩ := pgres hP0
  unfold pgV
  go_enter Try.func21, Try.ntmps21
  go_upto_region 1 with fail
  rw [← hw0]
  clear hw0
  go_wp2_with fail
  refine HOp.out.mono ?_
  rintro x w1 ⟨a1, n1, c1, a2, n2, c2, hi, bd, ok, rfl, hok, hyes, hb1⟩
  clear p0 p1 p2 p3 p4 p5 hP0
  obtain ⟨w2, hw2⟩ : ∃ w2, w2 = w1.alloc (.cells #[.slice a1 n1 c1, .slice a2 n2 c2, .string (str hi.1), .int .i64 hi.2.1, .int .i64 hi.2.2, .bool bd] 81) := ⟨_, rfl⟩
  have hg2 : Grow w0 w2 := by subst hw2; exact Grow.alloc hb1 _
  have hO2 : Blk w2 w1.heap.size 81 [.slice a1 n1 c1, .slice a2 n2 c2, .string (str hi.1), .int .i64 hi.2.1, .int .i64 hi.2.2, .bool bd] := by subst hw2; exact Blk.new w1 _ [_, _, _, _, _, _]
  have hyes2 : ok = true → EnsS w2 (.slice a1 n1 c1) (ensN P) ∧ IntsS w2 (.slice a2 n2 c2) (kidsN P) ∧ hi = hiN P ∧ bd = bdN P := fun h => ⟨by subst hw2; exact RowS.fits (hyes h).1 ((Grow.refl _).alloc _), by subst hw2; exact RowS.fits (hyes h).2.1 ((Grow.refl _).alloc _), (hyes h).2.2⟩
  have HYes := keep hyes2
  have HOk := keep hok
  have HO2 := keep hO2
  have HG2 := keep hg2
  have HGW := keep (Grow.trans hg0 hg2)
  clear hyes hyes2 hok hb1 hO2 hg2
  go_upto_region 2 with fail
  rw [← hw2]
  clear hw2
  have hP2 := HP0.out.fits HG2.out
  unfold pgCells at hP2
  obtain ⟨p0, p1, p2, p3, p4, p5, _⟩ := pgres hP2
  obtain ⟨o0, o1, o2, o3, o4, o5, _⟩ := pgres HO2.out
  have hd := HD.out
  rw [← HOk.out] at hd
  have HD2 := keep hd
  clear hd
  cases ok with
  | false =>
    have hno : entriesOk P = false := HD2.out
    go_wp2_with fail
    go_ret2
    unfold EntPost
    rw [hno, if_neg (by decide)]
    exact ⟨rfl, HGW.out⟩
  | true =>
    obtain ⟨hes, _, _, _⟩ := HYes.out rfl
    by_cases hlv : P.level = 0
    · have hyes : entriesOk P = true := by rw [HD2.out, decide_eq_true hlv]; rfl
      have hlv2 : (P.level != 0) = false := by simp [hlv]
      have hform : n1 = (ensN P).length := by
        rcases hes with ⟨h0, _, a, cap, h⟩ | ⟨c, off, cap, blk, f, h, _⟩
        · simp only [Value.slice.injEq] at h; omega
        · simp only [Value.slice.injEq] at h; exact h.2.1
      subst hform
      have HEs := keep hes
      have HYs := keep hyes
      clear hlv hes hyes
      go_wp2_with fail
      go_ret2
      unfold EntPost
      rw [HYs.out, if_pos rfl]
      exact ⟨⟨a1, c1, rfl, HEs.out⟩, HGW.out⟩
    · have hno : entriesOk P = false := by rw [HD2.out, decide_eq_false hlv]; rfl
      have hlv2 : (P.level != 0) = true := by simp [hlv]
      have HNo := keep hno
      clear hlv hno
      go_wp2_with fail
      go_ret2
      unfold EntPost
      rw [HNo.out, if_neg (by decide)]
      exact ⟨rfl, HGW.out⟩

end Go.Proofs.Ytigbgodbalpgdaa
