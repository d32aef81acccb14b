import Derived.Test.YtigbgodbalpgdaaKOp1
import Derived.Deep.Cut
/- node.opened: what is no node by its head. -/
namespace Go.Proofs.Ytigbgodbalpgdaa
open Go.RowKit
attribute [local go_sem] gives givesUpon_value givesUpon_skip givesUpon_enter

theorem openPost_no {P : Pg} {w_ w' : World} {e : Ending} {a1 a2 : Option Addr} {n1 c1 n2 c2 : Nat} {k : List UInt8} {p s : Int} {bd : Bool} (he : e = .returned (.tuple #[.agg #[.slice a1 n1 c1, .slice a2 n2 c2, .string (str k), .int .i64 p, .int .i64 s, .bool bd], .bool false])) (hno : false = openOk P) (hg : Below w_.heap.size w_ w') : OpenPost P w_ e w' :=
  ⟨a1, n1, c1, a2, n2, c2, (k, p, s), bd, false, he, hno, fun h => absurd h (by decide), hg⟩

set_option maxRecDepth 100000 in
set_option maxHeartbeats 2000000 in
theorem opened_enc (P : Pg) (iv : Value) (w_ : World) (hi : Items w_ iv P.items) (hs : ∀ x ∈ P.items, (x.length : Int) ≤ 140737488355328) (hh : (P.high.length : Int) ≤ 140737488355328) (hl : (P.items.length : Int) ≤ 140737488355328) (hlsn : P.lsn ≤ 9223372036854775807)
    (hbad : encOk P = false) : Calls Try.prog 58 #[pgV P iv] w_ (OpenPost P w_) := by
  have hho : headOk P = false := by unfold headOk; rw [hbad]; rfl
  have hno : false = openOk P := by unfold openOk; rw [hho]; rfl
  have HNo := keep hno
  clear hno
  clear hho
  obtain ⟨w1, hw1⟩ : ∃ w1, w1 = ((w_.alloc (.cells (pgCells P iv).toArray 39)).alloc (.cells #[.slice none 0 0, .slice none 0 0, .string ⟨#[]⟩, .int .i64 0, .int .i64 0, .bool false] 81)).alloc (.cells #[.slice none 0 0, .slice none 0 0, .string ⟨#[]⟩, .int .i64 0, .int .i64 0, .bool false] 81) := ⟨_, rfl⟩
  have hg1 : Grow w_ w1 := by subst hw1; exact (((Grow.refl w_).alloc _).alloc _).alloc _
  have hz1 : w1.heap.size = w_.heap.size + 3 := by subst hw1; simp
  have hP1 : Blk w1 w_.heap.size 39 (pgCells P iv) := by subst hw1; exact ((Blk.new w_ _ _).alloc _).alloc _
  have hR1 : Blk w1 (w_.heap.size + 1) 81 [.slice none 0 0, .slice none 0 0, .string ⟨#[]⟩, .int .i64 0, .int .i64 0, .bool false] := by
    have := (Blk.new (w_.alloc (.cells (pgCells P iv).toArray 39)) 81 [.slice none 0 0, .slice none 0 0, .string ⟨#[]⟩, .int .i64 0, .int .i64 0, .bool false]).alloc (.cells #[.slice none 0 0, .slice none 0 0, .string ⟨#[]⟩, .int .i64 0, .int .i64 0, .bool false] 81)
    have e : (w_.alloc (.cells (pgCells P iv).toArray 39)).heap.size = w_.heap.size + 1 := by simp
    rw [e] at this
    subst hw1; exact this
  have hO1 : OpAt w1 (w_.heap.size + 2) [] [] leastE false (.slice none 0 0) (.slice none 0 0) := by
    have := Blk.new ((w_.alloc (.cells (pgCells P iv).toArray 39)).alloc (.cells #[.slice none 0 0, .slice none 0 0, .string ⟨#[]⟩, .int .i64 0, .int .i64 0, .bool false] 81)) 81 [.slice none 0 0, .slice none 0 0, .string ⟨#[]⟩, .int .i64 0, .int .i64 0, .bool false]
    have e : ((w_.alloc (.cells (pgCells P iv).toArray 39)).alloc (.cells #[.slice none 0 0, .slice none 0 0, .string ⟨#[]⟩, .int .i64 0, .int .i64 0, .bool false] 81)).heap.size = w_.heap.size + 2 := by simp
    rw [e] at this
    subst hw1; exact ⟨this, World.ownsRow_nil _ _ _ _, World.ownsRow_nil _ _ _ _⟩
  have hI1 := Row.fits hi hg1
  have hen := pageEnc_any P iv w1 hI1 hs hh hl hlsn
  obtain ⟨ia, ic, rfl⟩ := items_form hi
  have HEn := keep hen
  have HI := keep hi
  have HS := keep hs
  have HP1 := keep hP1
  clear hen hi hI1 hs
  unfold pgCells at hw1 hP1
  have hw0 := w_.heap.size.zero_le
  unfold pgV
  go_enter Try.func58, Try.ntmps58
  go_upto_region 2 with fail
  rw [← hw1]
  clear hw1
  have e1 : w_.heap.size + 1 + 1 = w_.heap.size + 2 := by omega
  rw [e1]
  obtain ⟨p0, p1, p2, p3, p4, p5, _⟩ := pgres hP1
  clear e1
  go_wp2_with fail
  refine HEn.out.mono ?_
  rintro e w2 ⟨es, c, rfl, hc, hb2⟩
  have hP2 := hP1.fits hb2
  have hR2 := hR1.fits hb2
  have hO2 := hO1.fits hb2
  have hG2 : Grow w_ w2 := Grow.trans hg1 hb2
  clear p0 p1 p2 p3 p4 p5 hP1 hR1 hO1 hb2 hg1
  obtain ⟨p0, p1, p2, p3, p4, p5, _⟩ := pgres hP2
  have hc0 : (c != 0) = true := by
    have : ¬ c = 0 := fun e => by rw [hbad] at hc; exact absurd (hc.1 e) (by decide)
    simp [this]
  clear hc hbad
  have HOB : Kept (Blk w2 (w_.heap.size + 2) 81 [.slice none 0 0, .slice none 0 0, .string (str []), .int .i64 0, .int .i64 0, .bool false]) := keep hO2.blk
  obtain ⟨o0, o1, o2, o3, o4, o5, _⟩ := pgres HOB.out
  obtain ⟨r0, r1, r2, r3, r4, r5, f0, f1, f2, f3, f4, f5⟩ := pgres hR2
  have Hset := keep (pgset hR2 (.slice none 0 0) (.slice none 0 0) (.string (str [])) (.int .i64 0) (.int .i64 0) (.bool false))
  have Hlt := keep hR2.lt
  have HG9 := keep hG2
  clear hO2 hR2 hG2
  go_wp2_with fail
  refine bodyPost_ret (v := .tuple #[.agg #[.slice none 0 0, .slice none 0 0, .string (str []), .int .i64 0, .int .i64 0, .bool false], .bool false]) ?_ rfl (openPost_no rfl HNo.out (But.below HG9.out (pgbut w2 _ _ _ _ _ _ _) (by omega) (Nat.le_of_lt (Nat.lt_of_le_of_lt (by omega) Hlt.out))))
  obtain ⟨s0, s1, s2, s3, s4, s5, _⟩ := pgres Hset.out
  simp [results, Try.results58, go_sem, s0, s1, s2, s3, s4, s5]
  try rfl

set_option maxRecDepth 100000 in
set_option maxHeartbeats 2000000 in
theorem opened_kind (P : Pg) (iv : Value) (w_ : World) (hi : Items w_ iv P.items) (hs : ∀ x ∈ P.items, (x.length : Int) ≤ 140737488355328) (hh : (P.high.length : Int) ≤ 140737488355328) (hl : (P.items.length : Int) ≤ 140737488355328) (hlsn : P.lsn ≤ 9223372036854775807)
    (he : encOk P = true) (hbad : (decide (P.kind = 3) && inB P.right 0 65535) = false) : Calls Try.prog 58 #[pgV P iv] w_ (OpenPost P w_) := by
  have hho : headOk P = false := by unfold headOk; rw [hbad, Bool.and_false]; rfl
  have hno : false = openOk P := by unfold openOk; rw [hho]; rfl
  have HNo := keep hno
  clear hno
  clear hho
  obtain ⟨w1, hw1⟩ : ∃ w1, w1 = ((w_.alloc (.cells (pgCells P iv).toArray 39)).alloc (.cells #[.slice none 0 0, .slice none 0 0, .string ⟨#[]⟩, .int .i64 0, .int .i64 0, .bool false] 81)).alloc (.cells #[.slice none 0 0, .slice none 0 0, .string ⟨#[]⟩, .int .i64 0, .int .i64 0, .bool false] 81) := ⟨_, rfl⟩
  have hg1 : Grow w_ w1 := by subst hw1; exact (((Grow.refl w_).alloc _).alloc _).alloc _
  have hz1 : w1.heap.size = w_.heap.size + 3 := by subst hw1; simp
  have hP1 : Blk w1 w_.heap.size 39 (pgCells P iv) := by subst hw1; exact ((Blk.new w_ _ _).alloc _).alloc _
  have hR1 : Blk w1 (w_.heap.size + 1) 81 [.slice none 0 0, .slice none 0 0, .string ⟨#[]⟩, .int .i64 0, .int .i64 0, .bool false] := by
    have := (Blk.new (w_.alloc (.cells (pgCells P iv).toArray 39)) 81 [.slice none 0 0, .slice none 0 0, .string ⟨#[]⟩, .int .i64 0, .int .i64 0, .bool false]).alloc (.cells #[.slice none 0 0, .slice none 0 0, .string ⟨#[]⟩, .int .i64 0, .int .i64 0, .bool false] 81)
    have e : (w_.alloc (.cells (pgCells P iv).toArray 39)).heap.size = w_.heap.size + 1 := by simp
    rw [e] at this
    subst hw1; exact this
  have hO1 : OpAt w1 (w_.heap.size + 2) [] [] leastE false (.slice none 0 0) (.slice none 0 0) := by
    have := Blk.new ((w_.alloc (.cells (pgCells P iv).toArray 39)).alloc (.cells #[.slice none 0 0, .slice none 0 0, .string ⟨#[]⟩, .int .i64 0, .int .i64 0, .bool false] 81)) 81 [.slice none 0 0, .slice none 0 0, .string ⟨#[]⟩, .int .i64 0, .int .i64 0, .bool false]
    have e : ((w_.alloc (.cells (pgCells P iv).toArray 39)).alloc (.cells #[.slice none 0 0, .slice none 0 0, .string ⟨#[]⟩, .int .i64 0, .int .i64 0, .bool false] 81)).heap.size = w_.heap.size + 2 := by simp
    rw [e] at this
    subst hw1; exact ⟨this, World.ownsRow_nil _ _ _ _, World.ownsRow_nil _ _ _ _⟩
  have hI1 := Row.fits hi hg1
  have hen := pageEnc_any P iv w1 hI1 hs hh hl hlsn
  obtain ⟨ia, ic, rfl⟩ := items_form hi
  have HEn := keep hen
  have HI := keep hi
  have HS := keep hs
  have HP1 := keep hP1
  clear hen hi hI1 hs
  unfold pgCells at hw1 hP1
  have hw0 := w_.heap.size.zero_le
  unfold pgV
  go_enter Try.func58, Try.ntmps58
  go_upto_region 2 with fail
  rw [← hw1]
  clear hw1
  have e1 : w_.heap.size + 1 + 1 = w_.heap.size + 2 := by omega
  rw [e1]
  obtain ⟨p0, p1, p2, p3, p4, p5, _⟩ := pgres hP1
  clear e1
  go_wp2_with fail
  refine HEn.out.mono ?_
  rintro e w2 ⟨es, c, rfl, hc, hb2⟩
  have hP2 := hP1.fits hb2
  have hR2 := hR1.fits hb2
  have hO2 := hO1.fits hb2
  have hG2 : Grow w_ w2 := Grow.trans hg1 hb2
  clear p0 p1 p2 p3 p4 p5 hP1 hR1 hO1 hb2 hg1
  obtain ⟨p0, p1, p2, p3, p4, p5, _⟩ := pgres hP2
  have hc0 : c = 0 := hc.2 he
  subst hc0
  clear hc he
  by_cases hk : P.kind = 3
  · have hk2 : (P.kind != 3) = false := by simp [hk]
    have hr : inB P.right 0 65535 = false := by rw [decide_eq_true hk, Bool.true_and] at hbad; exact hbad
    have hwi := fun u => within_any P.right 0 65535 u
    rw [hr] at hwi
    have HWi := keep hwi
    clear hk hbad hr hwi
    go_wp2_with fail
    refine (HWi.out w2).mono ?_
    rintro x w3 ⟨rfl, rfl⟩
    have HOB : Kept (Blk w2 (w_.heap.size + 2) 81 [.slice none 0 0, .slice none 0 0, .string (str []), .int .i64 0, .int .i64 0, .bool false]) := keep hO2.blk
    obtain ⟨o0, o1, o2, o3, o4, o5, _⟩ := pgres HOB.out
    obtain ⟨r0, r1, r2, r3, r4, r5, f0, f1, f2, f3, f4, f5⟩ := pgres hR2
    have Hset := keep (pgset hR2 (.slice none 0 0) (.slice none 0 0) (.string (str [])) (.int .i64 0) (.int .i64 0) (.bool false))
    have Hlt := keep hR2.lt
    have HG9 := keep hG2
    clear hO2 hR2 hG2
    go_wp2_with fail
    refine bodyPost_ret (v := .tuple #[.agg #[.slice none 0 0, .slice none 0 0, .string (str []), .int .i64 0, .int .i64 0, .bool false], .bool false]) ?_ rfl (openPost_no rfl HNo.out (But.below HG9.out (pgbut w2 _ _ _ _ _ _ _) (by omega) (Nat.le_of_lt (Nat.lt_of_le_of_lt (by omega) Hlt.out))))
    obtain ⟨s0, s1, s2, s3, s4, s5, _⟩ := pgres Hset.out
    simp [results, Try.results58, go_sem, s0, s1, s2, s3, s4, s5]
    try rfl
  · have hk2 : (P.kind != 3) = true := by simp [hk]
    clear hk hbad
    have HOB : Kept (Blk w2 (w_.heap.size + 2) 81 [.slice none 0 0, .slice none 0 0, .string (str []), .int .i64 0, .int .i64 0, .bool false]) := keep hO2.blk
    obtain ⟨o0, o1, o2, o3, o4, o5, _⟩ := pgres HOB.out
    obtain ⟨r0, r1, r2, r3, r4, r5, f0, f1, f2, f3, f4, f5⟩ := pgres hR2
    have Hset := keep (pgset hR2 (.slice none 0 0) (.slice none 0 0) (.string (str [])) (.int .i64 0) (.int .i64 0) (.bool false))
    have Hlt := keep hR2.lt
    have HG9 := keep hG2
    clear hO2 hR2 hG2
    go_wp2_with fail
    refine bodyPost_ret (v := .tuple #[.agg #[.slice none 0 0, .slice none 0 0, .string (str []), .int .i64 0, .int .i64 0, .bool false], .bool false]) ?_ rfl (openPost_no rfl HNo.out (But.below HG9.out (pgbut w2 _ _ _ _ _ _ _) (by omega) (Nat.le_of_lt (Nat.lt_of_le_of_lt (by omega) Hlt.out))))
    obtain ⟨s0, s1, s2, s3, s4, s5, _⟩ := pgres Hset.out
    simp [results, Try.results58, go_sem, s0, s1, s2, s3, s4, s5]
    try rfl

set_option maxRecDepth 100000 in
set_option maxHeartbeats 2000000 in
theorem opened_high (P : Pg) (iv : Value) (w_ : World) (hi : Items w_ iv P.items) (hs : ∀ x ∈ P.items, (x.length : Int) ≤ 140737488355328) (hh : (P.high.length : Int) ≤ 140737488355328) (hl : (P.items.length : Int) ≤ 140737488355328) (hlsn : P.lsn ≤ 9223372036854775807)
    (he : encOk P = true) (hk : P.kind = 3) (hr : inB P.right 0 65535 = true) (hne : P.high ≠ []) (hbad : (decN P.high).2 ≠ 0) : Calls Try.prog 58 #[pgV P iv] w_ (OpenPost P w_) := by
  have hho : headOk P = false := by unfold headOk; rw [decide_eq_false hne, decide_eq_false hbad]; simp
  have hno : false = openOk P := by unfold openOk; rw [hho]; rfl
  have HNo := keep hno
  clear hno
  clear hho
  have hde := fun u => decode_any P.high u (by have := hh; omega)
  have hne2 : (str P.high).toList.isEmpty = false := by rw [str_list]; simpa using hne
  have hk2 : (P.kind != 3) = false := by simp [hk]
  have hwi := fun u => within_any P.right 0 65535 u
  rw [hr] at hwi
  have HWi := keep hwi
  clear hk hr hwi hne
  generalize decN P.high = D at *
  obtain ⟨de, dc⟩ := D
  dsimp only at hde hbad
  have hbad2 : (dc != 0) = true := by simp [hbad]
  have HDe := keep hde
  have HNe := keep hne2
  clear hde hbad hne2
  obtain ⟨w1, hw1⟩ : ∃ w1, w1 = ((w_.alloc (.cells (pgCells P iv).toArray 39)).alloc (.cells #[.slice none 0 0, .slice none 0 0, .string ⟨#[]⟩, .int .i64 0, .int .i64 0, .bool false] 81)).alloc (.cells #[.slice none 0 0, .slice none 0 0, .string ⟨#[]⟩, .int .i64 0, .int .i64 0, .bool false] 81) := ⟨_, rfl⟩
  have hg1 : Grow w_ w1 := by subst hw1; exact (((Grow.refl w_).alloc _).alloc _).alloc _
  have hz1 : w1.heap.size = w_.heap.size + 3 := by subst hw1; simp
  have hP1 : Blk w1 w_.heap.size 39 (pgCells P iv) := by subst hw1; exact ((Blk.new w_ _ _).alloc _).alloc _
  have hR1 : Blk w1 (w_.heap.size + 1) 81 [.slice none 0 0, .slice none 0 0, .string ⟨#[]⟩, .int .i64 0, .int .i64 0, .bool false] := by
    have := (Blk.new (w_.alloc (.cells (pgCells P iv).toArray 39)) 81 [.slice none 0 0, .slice none 0 0, .string ⟨#[]⟩, .int .i64 0, .int .i64 0, .bool false]).alloc (.cells #[.slice none 0 0, .slice none 0 0, .string ⟨#[]⟩, .int .i64 0, .int .i64 0, .bool false] 81)
    have e : (w_.alloc (.cells (pgCells P iv).toArray 39)).heap.size = w_.heap.size + 1 := by simp
    rw [e] at this
    subst hw1; exact this
  have hO1 : OpAt w1 (w_.heap.size + 2) [] [] leastE false (.slice none 0 0) (.slice none 0 0) := by
    have := Blk.new ((w_.alloc (.cells (pgCells P iv).toArray 39)).alloc (.cells #[.slice none 0 0, .slice none 0 0, .string ⟨#[]⟩, .int .i64 0, .int .i64 0, .bool false] 81)) 81 [.slice none 0 0, .slice none 0 0, .string ⟨#[]⟩, .int .i64 0, .int .i64 0, .bool false]
    have e : ((w_.alloc (.cells (pgCells P iv).toArray 39)).alloc (.cells #[.slice none 0 0, .slice none 0 0, .string ⟨#[]⟩, .int .i64 0, .int .i64 0, .bool false] 81)).heap.size = w_.heap.size + 2 := by simp
    rw [e] at this
    subst hw1; exact ⟨this, World.ownsRow_nil _ _ _ _, World.ownsRow_nil _ _ _ _⟩
  have hI1 := Row.fits hi hg1
  have hen := pageEnc_any P iv w1 hI1 hs hh hl hlsn
  obtain ⟨ia, ic, rfl⟩ := items_form hi
  have HEn := keep hen
  have HI := keep hi
  have HS := keep hs
  have HP1 := keep hP1
  clear hen hi hI1 hs
  unfold pgCells at hw1 hP1
  have hw0 := w_.heap.size.zero_le
  unfold pgV
  go_enter Try.func58, Try.ntmps58
  go_upto_region 2 with fail
  rw [← hw1]
  clear hw1
  have e1 : w_.heap.size + 1 + 1 = w_.heap.size + 2 := by omega
  rw [e1]
  obtain ⟨p0, p1, p2, p3, p4, p5, _⟩ := pgres hP1
  clear e1
  go_wp2_with fail
  refine HEn.out.mono ?_
  rintro e w2 ⟨es, c, rfl, hc, hb2⟩
  have hP2 := hP1.fits hb2
  have hR2 := hR1.fits hb2
  have hO2 := hO1.fits hb2
  have hG2 : Grow w_ w2 := Grow.trans hg1 hb2
  clear p0 p1 p2 p3 p4 p5 hP1 hR1 hO1 hb2 hg1
  obtain ⟨p0, p1, p2, p3, p4, p5, _⟩ := pgres hP2
  have hc0 : c = 0 := hc.2 he
  subst hc0
  clear hc he
  have hne3 := HNe.out
  go_wp2_with fail
  refine (HWi.out w2).mono ?_
  rintro x w3 ⟨rfl, rfl⟩
  go_wp2_with fail
  refine (HDe.out w2).mono ?_
  rintro x w3 ⟨rfl, hb3⟩
  have hR3 := hR2.fits hb3
  have hO3 := hO2.fits hb3
  have hG3 : Grow w_ w3 := Grow.trans hG2 hb3
  clear p0 p1 p2 p3 p4 p5 hP2 hR2 hO2 hb3 hG2
  unfold enV
  go_upto_region 7 with fail
  obtain ⟨w4, hw4⟩ : ∃ w4, w4 = w3.alloc (.cells #[.string (str de.1), .int .i64 de.2.1, .int .i64 de.2.2] 23) := ⟨_, rfl⟩
  rw [← hw4]
  have hb4 : Grow w3 w4 := by subst hw4; exact (Grow.refl _).alloc _
  have hR4 := hR3.fits hb4
  have hO4 := hO3.fits hb4
  have hG4 : Grow w_ w4 := Grow.trans hG3 hb4
  clear hw4 hb4 hR3 hO3 hG3
  have HOB : Kept (Blk w4 (w_.heap.size + 2) 81 [.slice none 0 0, .slice none 0 0, .string (str []), .int .i64 0, .int .i64 0, .bool false]) := keep hO4.blk
  obtain ⟨o0, o1, o2, o3, o4, o5, _⟩ := pgres HOB.out
  obtain ⟨r0, r1, r2, r3, r4, r5, f0, f1, f2, f3, f4, f5⟩ := pgres hR4
  have Hset := keep (pgset hR4 (.slice none 0 0) (.slice none 0 0) (.string (str [])) (.int .i64 0) (.int .i64 0) (.bool false))
  have Hlt := keep hR4.lt
  have HG9 := keep hG4
  clear hO4 hR4 hG4
  go_wp2_with fail
  refine bodyPost_ret (v := .tuple #[.agg #[.slice none 0 0, .slice none 0 0, .string (str []), .int .i64 0, .int .i64 0, .bool false], .bool false]) ?_ rfl (openPost_no rfl HNo.out (But.below HG9.out (pgbut w4 _ _ _ _ _ _ _) (by omega) (Nat.le_of_lt (Nat.lt_of_le_of_lt (by omega) Hlt.out))))
  obtain ⟨s0, s1, s2, s3, s4, s5, _⟩ := pgres Hset.out
  simp [results, Try.results58, go_sem, s0, s1, s2, s3, s4, s5]
  try rfl

end Go.Proofs.Ytigbgodbalpgdaa
