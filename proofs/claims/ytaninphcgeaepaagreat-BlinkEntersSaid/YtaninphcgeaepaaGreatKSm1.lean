import Derived.Test.YtaninphcgeaepaaGreatKBs1
import Derived.Test.YtaninphcgeaepaaGreatKPt1
import Derived.Deep.CutRange
namespace Go.Proofs.YtaninphcgeaepaaGreat
open Go.RowKit
attribute [local go_sem] givesF_none givesF_some evalF_tmp evalF_const evalF_global evalF_func lookL isB_bool isB_undef givesUpon_value givesUpon_skip givesUpon_enter
def beyN (bd : Bool) (hi e : En) : Bool := bd && decide (0 < cmpE e hi)
theorem beyond_any (a1 a2 : Option Addr) (n1 c1 n2 c2 : Nat) (hi e : En) (bd : Bool) (w_ : World) :
  Calls Tryz.prog 64 #[.agg #[.slice a1 n1 c1, .slice a2 n2 c2, .string (str hi.1), .int .i64 hi.2.1, .int .i64 hi.2.2, .bool bd], enV e] w_ fun x w' => x = .returned (.bool (beyN bd hi e)) ∧ Below w_.heap.size w_ w' := by
 have hcp := fun u => compare_any e hi u
 have hd : beyN bd hi e = (bd && decide (0 < cmpE e hi)) := rfl
 rw [hd]
 clear hd
 generalize cmpE e hi = F at *
 obtain ⟨hk, hp, hs⟩ := hi
 obtain ⟨k, p, s⟩ := e
 unfold enV at *
 dsimp only at *
 obtain ⟨w0, hw0⟩ : ∃ w0, w0 = (w_.alloc (.cells #[.slice a1 n1 c1, .slice a2 n2 c2, .string (str hk), .int .i64 hp, .int .i64 hs, .bool bd] 97)).alloc (.cells #[.string (str k), .int .i64 p, .int .i64 s] 41) := ⟨_, rfl⟩
 have hg0 : Grow w_ w0 := by subst hw0; exact ((Grow.refl w_).alloc _).alloc _
 have hO0 : Blk w0 w_.heap.size 97 [.slice a1 n1 c1, .slice a2 n2 c2, .string (str hk), .int .i64 hp, .int .i64 hs, .bool bd] := by subst hw0; exact (Blk.new w_ _ [_, _, _, _, _, _]).alloc _
 have hE0 : Blk w0 (w_.heap.size + 1) 41 [.string (str k), .int .i64 p, .int .i64 s] := by
  have := Blk.new (w_.alloc (.cells #[.slice a1 n1 c1, .slice a2 n2 c2, .string (str hk), .int .i64 hp, .int .i64 hs, .bool bd] 97)) 41 [.string (str k), .int .i64 p, .int .i64 s]
  have e : (w_.alloc (.cells #[.slice a1 n1 c1, .slice a2 n2 c2, .string (str hk), .int .i64 hp, .int .i64 hs, .bool bd] 97)).heap.size = w_.heap.size + 1 := by simp
  rw [e] at this
  subst hw0; exact this
 obtain ⟨o0, o1, o2, o3, o4, o5, _⟩ := pgres hO0
 obtain ⟨e0, e1, e2, _⟩ := enres hE0
 have HCp := keep hcp
 clear hcp hO0 hE0
 go_enter Tryz.func64, Tryz.ntmps64
 go_upto_region 1 with fail
 rw [← hw0]
 clear hw0
 cases bd with
 | false =>
  go_wp2_with fail
  go_ret
  exact ⟨rfl, hg0⟩
 | true =>
  go_wp2_with fail
  refine (HCp.out w0).mono ?_
  rintro x w1 ⟨rfl, hb1⟩
  go_wp2_with fail
  go_ret
  exact ⟨rfl, Grow.trans hg0 hb1⟩
def leafP : Pg := ⟨0, 3, 0, 0, [], []⟩
set_option maxRecDepth 100000 in
set_option maxHeartbeats 1000000 in
theorem leaf_any (w_ : World) : Calls Tryz.prog 36 #[] w_ fun x w' => x = .returned (pgV leafP (.slice none 0 0)) ∧ Below w_.heap.size w_ w' := by
 obtain ⟨w0, hw0⟩ : ∃ w0, w0 = w_.alloc (.cells #[.int .i64 0, .int .i64 0, .int .i64 0, .int .i64 0, .string ⟨#[]⟩, .slice none 0 0] 24) := ⟨_, rfl⟩
 have hg0 : Grow w_ w0 := by subst hw0; exact (Grow.refl w_).alloc _
 have hR : Blk w0 w_.heap.size 24 [.int .i64 0, .int .i64 0, .int .i64 0, .int .i64 0, .string ⟨#[]⟩, .slice none 0 0] := by subst hw0; exact Blk.new w_ _ [_, _, _, _, _, _]
 have hlt := hR.lt
 obtain ⟨r0, r1, r2, r3, r4, r5, f0, f1, f2, f3, f4, f5⟩ := pgres hR
 have Hset := keep (pgset hR (.int .i64 0) (.int .i64 3) (.int .i64 0) (.int .i64 0) (.string ⟨#[]⟩) (.slice none 0 0))
 have Hbut := keep (pgbut w0 w_.heap.size (.int .i64 0) (.int .i64 3) (.int .i64 0) (.int .i64 0) (.string ⟨#[]⟩) (.slice none 0 0))
 clear hR
 go_enter Tryz.func36, Tryz.ntmps36
 go_upto_region 1 with fail
 rw [← hw0]
 clear hw0
 go_wp2_with fail
 refine bodyPost_ret (v := pgV leafP (.slice none 0 0)) ?_ rfl ⟨rfl, But.below hg0 Hbut.out (Nat.le_refl _) (Nat.le_of_lt hlt)⟩
 obtain ⟨s0, s1, s2, s3, s4, s5, _⟩ := pgres Hset.out
 simp [results, Tryz.results36, go_sem, s0, s1, s2, s3, s4, s5, pgV, leafP]
 try rfl
theorem okTo_at {lv : Int} {hi : En} {bd : Bool} {items : List (List UInt8)} {n : Nat} (h : okTo lv hi bd items n = true) : ∀ k, k < n → roundOk lv hi bd k (itemN lv (items.getD (k - 1) [])) (itemN lv (items.getD k [])) = true := by
 induction n with
 | zero => intro k hk; omega
 | succ n ih =>
  rw [okTo, Bool.and_eq_true] at h
  intro k hk
  by_cases e : k = n
  ·rw [e]; exact h.2
  ·exact ih h.1 k (by omega)
theorem round_lt {lv : Int} {hi : En} {bd : Bool} {k : Nat} {pr x : En × Int × Int} (h : roundOk lv hi bd k pr x = true) (hk : k ≠ 0) : cmpE pr.1 x.1 = -1 := by
 simp only [roundOk, Bool.and_eq_true] at h
 have := h.2.2.1
 rw [decide_eq_false hk, Bool.false_or, decide_eq_true_eq] at this
 exact (cmp_neg_iff _ _).1 this
theorem ens_sorted {P : Pg} (h : okTo P.level (hiN P) (bdN P) P.items P.items.length = true) : Sorted (ensN P) := by
 have hlen : (ensN P).length = P.items.length := ensTo_length _ _ _ (Nat.le_refl _)
 have hat : ∀ i (hi : i < (ensN P).length), (ensN P)[i] = (itemN P.level (P.items.getD i [])).1 := by
  intro i hi
  simp [ensN, ensTo, hlen ▸ hi]
 have step : ∀ i (hi : i + 1 < (ensN P).length), cmpE (ensN P)[i] (ensN P)[i + 1] = -1 := by
  intro i hi
  rw [hat, hat]
  have := round_lt (okTo_at h (i + 1) (by omega)) (by omega)
  rwa [show i + 1 - 1 = i by omega] at this
 unfold Sorted
 rw [List.pairwise_iff_getElem]
 intro i j hi hj hij
 obtain ⟨d, rfl⟩ : ∃ d, j = i + 1 + d := ⟨j - (i + 1), by omega⟩
 induction d with
 | zero => exact step i hj
 | succ d ih =>
  have h1 := ih (by omega) (by omega)
  exact cmpE_trans h1 (step (i + 1 + d) (by omega))
theorem open_sorted {P : Pg} (h : openOk P = true) : Sorted (ensN P) := by
 unfold openOk at h
 simp only [Bool.and_eq_true] at h
 exact ens_sorted h.2.1
theorem open_fine {P : Pg} (h : openOk P = true) : P.items.length ≤ 255 ∧ P.high.length ≤ 255 ∧ (∀ x ∈ P.items, x.length ≤ 512) ∧ 0 ≤ P.level ∧ P.level ≤ 255 ∧ 0 ≤ P.right := by
 unfold openOk headOk at h
 simp only [Bool.and_eq_true] at h
 exact encOk_fine h.1.1.1
theorem ensN_length (P : Pg) : (ensN P).length = P.items.length := ensTo_length _ _ _ (Nat.le_refl _)
theorem posE_le (l : List En) (t : En) : posE l t ≤ l.length := List.countP_le_length
end Go.Proofs.YtaninphcgeaepaaGreat
namespace Go.Proofs.YtaninphcgeaepaaGreat
open Go.RowKit
attribute [local go_sem] givesF_none givesF_some evalF_tmp evalF_const evalF_global evalF_func lookL isB_bool isB_undef givesUpon_value givesUpon_skip givesUpon_enter
def insN (P : Pg) (e : En) : Pg × Int :=
 if openOk P && (decide (P.level = 0) && (enOk e && !beyN (bdN P) (hiN P) e)) then (if decide (e ∈ ensN P) then (zeroP, 140) else putN P (posE (ensN P) e) (enBytes e [])) else (zeroP, 140)
def PgIn (w : World) (iv : Value) (P : Pg) : Prop :=
 Items w iv P.items ∧ (∀ x ∈ P.items, (x.length : Int) ≤ 140737488355328) ∧ (P.high.length : Int) ≤ 140737488355328 ∧ (P.items.length : Int) ≤ 140737488355328 ∧ P.lsn ≤ 9223372036854775807
theorem PgIn.fits {w w' : World} {iv : Value} {P : Pg} (h : PgIn w iv P) (g : Grow w w') : PgIn w' iv P := ⟨Row.fits h.1 g, h.2⟩
theorem opened_pg {w : World} {iv : Value} {P : Pg} (h : PgIn w iv P) : Calls Tryz.prog 58 #[pgV P iv] w (OpenPost P w) := opened_any P iv w h.1 h.2.1 h.2.2.1 h.2.2.2.1 h.2.2.2.2
theorem enBytes_length (e : En) (h : enOk e = true) : (enBytes e []).length ≤ 60 := by
 have := (enOk_fine h).1
 have h1 := sev_length e.1.length
 have h2 := sevs_length [e.2.1, e.2.2]
 simp [enBytes, txt, sevs] at *
 omega
set_option maxRecDepth 100000 in
set_option maxHeartbeats 4000000 in
theorem insert_any (P : Pg) (iv : Value) (e : En) (w_ : World) (hin : PgIn w_ iv P) :
  Calls Tryz.prog 47 #[pgV P iv, enV e] w_ (PgPost (insN P e).1 (insN P e).2 w_) := by
 obtain ⟨k, p, s⟩ := e
 obtain ⟨w0, hw0⟩ : ∃ w0, w0 = (((w_.alloc (.cells (pgCells P iv).toArray 24)).alloc (.cells #[.string (str k), .int .i64 p, .int .i64 s] 41)).alloc (.cells #[.int .i64 0, .int .i64 0, .int .i64 0, .int .i64 0, .string ⟨#[]⟩, .slice none 0 0] 24)) := ⟨_, rfl⟩
 have hg0 : Grow w_ w0 := by subst hw0; exact (((Grow.refl w_).alloc _).alloc _).alloc _
 have hP0 : Blk w0 w_.heap.size 24 (pgCells P iv) := by
  have := ((Blk.new w_ 24 (pgCells P iv)).alloc (.cells #[.string (str k), .int .i64 p, .int .i64 s] 41)).alloc (.cells #[.int .i64 0, .int .i64 0, .int .i64 0, .int .i64 0, .string ⟨#[]⟩, .slice none 0 0] 24)
  subst hw0; exact this
 have hE0 : Blk w0 (w_.heap.size + 1) 41 [.string (str k), .int .i64 p, .int .i64 s] := by
  have := (Blk.new (w_.alloc (.cells (pgCells P iv).toArray 24)) 41 [.string (str k), .int .i64 p, .int .i64 s]).alloc (.cells #[.int .i64 0, .int .i64 0, .int .i64 0, .int .i64 0, .string ⟨#[]⟩, .slice none 0 0] 24)
  have e : (w_.alloc (.cells (pgCells P iv).toArray 24)).heap.size = w_.heap.size + 1 := by simp
  rw [e] at this
  subst hw0; exact this
 have hR0 : Blk w0 (w_.heap.size + 2) 24 [.int .i64 0, .int .i64 0, .int .i64 0, .int .i64 0, .string ⟨#[]⟩, .slice none 0 0] := by
  have := Blk.new ((w_.alloc (.cells (pgCells P iv).toArray 24)).alloc (.cells #[.string (str k), .int .i64 p, .int .i64 s] 41)) 24 [.int .i64 0, .int .i64 0, .int .i64 0, .int .i64 0, .string ⟨#[]⟩, .slice none 0 0]
  have e : ((w_.alloc (.cells (pgCells P iv).toArray 24)).alloc (.cells #[.string (str k), .int .i64 p, .int .i64 s] 41)).heap.size = w_.heap.size + 2 := by simp
  rw [e] at this
  subst hw0; exact this
 have hzR := hR0.lt
 have hop := opened_pg (hin.fits hg0)
 obtain ⟨ia, ic, rfl⟩ := items_form hin.1
 have hie := fun u => isEntry_any (k, p, s) u
 have hbe := fun (a1 a2 : Option Addr) (n1 c1 n2 c2 : Nat) (hi : En) (bd : Bool) (u : World) => beyond_any a1 a2 n1 c1 n2 c2 hi (k, p, s) bd u
 have hse := fun (l : List En) (v : Value) (u : World) (h : EnsS u v l) (hl : l.length ≤ 1759218604441) (hs : Sorted l) => search_any (k, p, s) l v u h hl hs
 have hby := fun (u : World) (h : enOk (k, p, s) = true) => bytes_any (k, p, s) (.slice none 0 0) [] u (enOk_fine h) (none_ints u) (by simp) (by simp)
 have hd : insN P (k, p, s) = if openOk P && (decide (P.level = 0) && (enOk (k, p, s) && !beyN (bdN P) (hiN P) (k, p, s))) then (if decide ((k, p, s) ∈ ensN P) then (zeroP, 140) else putN P (posE (ensN P) (k, p, s)) (enBytes (k, p, s) [])) else (zeroP, 140) := rfl
 unfold enV at hie hbe hse hby
 dsimp only at hie hbe hse hby
 have HOp := keep hop
 have HIe := keep hie
 have HBe := keep hbe
 have HSe := keep hse
 have HBy := keep hby
 have HD := keep hd
 have HIn := keep hin
 have HP0 := keep hP0
 have HE0 := keep hE0
 have HR0 := keep hR0
 clear hop hie hbe hse hby hd hin hE0 hR0
 unfold pgCells at hw0 hP0
 obtain ⟨p0, p1, p2, p3, p4, p5, _⟩ := pgres hP0
 unfold pgV enV
 go_enter Tryz.func47, Tryz.ntmps47
 go_upto_region 1 with fail
 rw [← hw0]
 clear hw0
 go_wp2_with fail
 refine HOp.out.mono ?_
 rintro x w1 ⟨a1, n1, c1, a2, n2, c2, hi, bd, ok, rfl, hok, hyes, hb1⟩
 clear p0 p1 p2 p3 p4 p5 hP0
 obtain ⟨w2, hw2⟩ : ∃ w2, w2 = w1.alloc (.cells #[.slice a1 n1 c1, .slice a2 n2 c2, .string (str hi.1), .int .i64 hi.2.1, .int .i64 hi.2.2, .bool bd] 97) := ⟨_, rfl⟩
 have hg2 : Grow w0 w2 := by subst hw2; exact Grow.alloc hb1 _
 have hO2 : Blk w2 w1.heap.size 97 [.slice a1 n1 c1, .slice a2 n2 c2, .string (str hi.1), .int .i64 hi.2.1, .int .i64 hi.2.2, .bool bd] := by subst hw2; exact Blk.new w1 _ [_, _, _, _, _, _]
 have hyes2 : ok = true → EnsS w2 (.slice a1 n1 c1) (ensN P) ∧ hi = hiN P ∧ bd = bdN P := fun h => ⟨by subst hw2; exact RowS.fits (hyes h).1 ((Grow.refl _).alloc _), (hyes h).2.2⟩
 have HYes := keep hyes2
 have HOk := keep hok
 have HO2 := keep hO2
 have HG2 := keep hg2
 clear hyes hyes2 hok hb1 hO2 hg2
 go_upto_region 2 with fail
 rw [← hw2]
 clear hw2
 have hP2 := HP0.out.fits HG2.out
 have hE2 := HE0.out.fits HG2.out
 unfold pgCells at hP2
 obtain ⟨p0, p1, p2, p3, p4, p5, _⟩ := pgres hP2
 obtain ⟨e0, e1, e2, _⟩ := enres hE2
 obtain ⟨o0, o1, o2, o3, o4, o5, _⟩ := pgres HO2.out
 go_cut [31] from 15 to 31 (fun sv wx => sv = .bool (!(ok && (decide (P.level = 0) && (enOk (k, p, s) && !beyN bd hi (k, p, s))))) ∧ Grow w2 wx)
 case first =>
  cases ok with
  | false =>
   go_wp2_with fail
   all_goals go_meet
   all_goals (case rel => exact ⟨rfl, Grow.refl _⟩)
  | true =>
   by_cases hlv : P.level = 0
   ·have hlv2 : (P.level != 0) = false := by simp [hlv]
    have HLv := keep hlv
    clear hlv
    generalize enOk (k, p, s) = A at *
    go_wp2_with fail
    refine (HIe.out w2).mono ?_
    rintro x w3 ⟨rfl, hb3⟩
    cases A with
    | false =>
     go_wp2_with fail
     all_goals go_meet
     all_goals (case rel => exact ⟨by simp, hb3⟩)
    | true =>
     have hE3 := hE2.fits hb3
     have hO3 := HO2.out.fits hb3
     clear e0 e1 e2 o0 o1 o2 o3 o4 o5
     obtain ⟨e0, e1, e2, _⟩ := enres hE3
     obtain ⟨o0, o1, o2, o3, o4, o5, _⟩ := pgres hO3
     have hbe := HBe.out a1 a2 n1 c1 n2 c2 hi bd w3
     generalize beyN bd hi (k, p, s) = B at *
     have HB := keep hbe
     clear hE3 hO3 hbe
     go_wp2_with fail
     refine HB.out.mono ?_
     rintro x w4 ⟨rfl, hb4⟩
     go_wp2_with fail
     all_goals go_meet
     all_goals (case rel => exact ⟨by simp [HLv.out], Grow.trans hb3 hb4⟩)
   ·have hlv2 : (P.level != 0) = true := by simp [hlv]
    have HLv := keep hlv
    clear hlv
    go_wp2_with fail
    all_goals go_meet
    all_goals (case rel => exact ⟨by simp [HLv.out], Grow.refl _⟩)
 case rest =>
  obtain ⟨rfl, hg3⟩ := hcut
  clear p0 p1 p2 p3 p4 p5 e0 e1 e2 o0 o1 o2 o3 o4 o5 hP2 hE2
  generalize wc = w3 at *
  have HG3 := keep (Grow.trans HG2.out hg3)
  have HGW := keep (Grow.trans hg0 HG3.out)
  generalize hM : (ok && (decide (P.level = 0) && (enOk (k, p, s) && !beyN bd hi (k, p, s)))) = M
  cases M with
  | false =>
   have hno : insN P (k, p, s) = (zeroP, 140) := by
    rw [HD.out, ← HOk.out]
    cases ok with
    | false => rfl
    | true =>
     obtain ⟨_, h2, h3⟩ := HYes.out rfl
     rw [← h2, ← h3, hM]
     rfl
   have HNo := keep hno
   clear hM hno hg3
   have hR := HR0.out.fits HG3.out
   have Hset := keep (pgset hR (.int .i64 0) (.int .i64 0) (.int .i64 0) (.int .i64 0) (.string ⟨#[]⟩) (.slice none 0 0))
   have Hbut := keep (pgbut w3 (w_.heap.size + 2) (.int .i64 0) (.int .i64 0) (.int .i64 0) (.int .i64 0) (.string ⟨#[]⟩) (.slice none 0 0))
   have hlt2 := hR.lt
   obtain ⟨r0, r1, r2, r3, r4, r5, f0, f1, f2, f3, f4, f5⟩ := pgres hR
   clear hR
   go_wp2_with fail
   rw [HNo.out]
   refine bodyPost_ret (v := .tuple #[pgV zeroP (.slice none 0 0), .int .i64 140]) ?_ rfl ⟨_, rfl, ItemsC.nil _, But.below HGW.out Hbut.out (by omega) (by omega)⟩
   obtain ⟨s0, s1, s2, s3, s4, s5, _⟩ := pgres Hset.out
   simp [results, Tryz.results47, go_sem, s0, s1, s2, s3, s4, s5, pgV, zeroP]
   rfl
  | true =>
   have hm : ok = true ∧ P.level = 0 ∧ enOk (k, p, s) = true ∧ beyN bd hi (k, p, s) = false := by simpa [and_assoc] using hM
   obtain ⟨rfl, hlv, hen, hbe⟩ := hm
   obtain ⟨hes, rfl, rfl⟩ := HYes.out rfl
   have hes3 : EnsS w3 (.slice a1 n1 c1) (ensN P) := RowS.fits hes hg3
   have hopen : openOk P = true := HOk.out.symm
   have hd2 : insN P (k, p, s) = if decide ((k, p, s) ∈ ensN P) then (zeroP, 140) else putN P (posE (ensN P) (k, p, s)) (enBytes (k, p, s) []) := by
    rw [HD.out, hopen, hM.symm.trans (by rfl)]
    simp [hlv, hen, hbe]
   have hsc := HSe.out (ensN P) (.slice a1 n1 c1) w3 hes3 (by rw [ensN_length]; have := (open_fine hopen).1; omega) (open_sorted hopen)
   have hE3 := HE0.out.fits HG3.out
   have hO3 := HO2.out.fits hg3
   obtain ⟨e0, e1, e2, _⟩ := enres hE3
   obtain ⟨o0, o1, o2, o3, o4, o5, _⟩ := pgres hO3
   have HSc := keep hsc
   have HD2 := keep hd2
   have HEn := keep hen
   have HOpen := keep hopen
   clear hM hlv hen hbe hes hes3 hopen hd2 hsc hg3 hE3 hO3
   go_wp2_with fail
   refine HSc.out.mono ?_
   rintro x w4 ⟨rfl, hb4⟩
   clear e0 e1 e2 o0 o1 o2 o3 o4 o5
   have HG4 := keep (Grow.trans HG3.out hb4)
   have HGW4 := keep (Grow.trans HGW.out hb4)
   clear hb4
   have hd3 := HD2.out
   generalize decide ((k, p, s) ∈ ensN P) = F at *
   cases F with
   | true =>
    have hno : insN P (k, p, s) = (zeroP, 140) := hd3
    have HNo := keep hno
    clear hno hd3
    have hR := HR0.out.fits HG4.out
    have Hset := keep (pgset hR (.int .i64 0) (.int .i64 0) (.int .i64 0) (.int .i64 0) (.string ⟨#[]⟩) (.slice none 0 0))
    have Hbut := keep (pgbut w4 (w_.heap.size + 2) (.int .i64 0) (.int .i64 0) (.int .i64 0) (.int .i64 0) (.string ⟨#[]⟩) (.slice none 0 0))
    have hlt2 := hR.lt
    obtain ⟨r0, r1, r2, r3, r4, r5, f0, f1, f2, f3, f4, f5⟩ := pgres hR
    clear hR
    go_wp2_with fail
    rw [HNo.out]
    refine bodyPost_ret (v := .tuple #[pgV zeroP (.slice none 0 0), .int .i64 140]) ?_ rfl ⟨_, rfl, ItemsC.nil _, But.below HGW4.out Hbut.out (by omega) (by omega)⟩
    obtain ⟨s0, s1, s2, s3, s4, s5, _⟩ := pgres Hset.out
    simp [results, Tryz.results47, go_sem, s0, s1, s2, s3, s4, s5, pgV, zeroP]
    rfl
   | false =>
    have hd4 : insN P (k, p, s) = putN P (posE (ensN P) (k, p, s)) (enBytes (k, p, s) []) := hd3
    clear hd3 HD HD2
    have hpu := fun (u : World) (hi : Items u (.slice ia P.items.length ic) P.items) => put_any P (.slice ia P.items.length ic) (posE (ensN P) (k, p, s)) (enBytes (k, p, s) []) u hi (by rw [← ensN_length]; exact posE_le _ _) HIn.out.2.1 (by have := enBytes_length _ HEn.out; omega) HIn.out.2.2.1 (by have := (open_fine HOpen.out).1; omega)
    generalize putN P (posE (ensN P) (k, p, s)) (enBytes (k, p, s) []) = R at *
    obtain ⟨Q, cd⟩ := R
    dsimp only at hpu
    unfold PgPost at hpu
    have HPu := keep hpu
    have HD4 := keep hd4
    clear hd4
    have HBy2 := keep (fun u => HBy.out u HEn.out)
    have HP7 := keep (fun (u : World) (hu : Grow w4.drew u) => Blk.fits (Blk.drew (HP0.out.fits HG4.out)) hu)
    have HE7 := keep (fun (u : World) (hu : Grow w4.drew u) => Blk.fits (Blk.drew (HE0.out.fits HG4.out)) hu)
    have HI7 := keep (fun (u : World) (hu : Grow w4.drew u) => (Row.fits HIn.out.1 (Grow.trans HGW4.out (Grow.undrew hu)) : Items u _ P.items))
    have HR4 := keep (HR0.out.fits HG4.out)
    clear hpu
    go_upto_region 7 with fail
    refine wp_region_grow_named (by kernel_rfl) 7 (by kernel_rfl) [(42, 0), (43, 1), (44, 2), (45, 3), (46, 4), (47, 5), (48, 6)] (by kernel_rfl) [(0, true), (1, true), (2, true), (3, true), (4, true), (5, true), (6, true)] (by kernel_rfl) rfl rfl ?_
    intro a0 ha0
    have hsz : a0.tmps.size = 49 := (size_at ha0).trans rfl
    have s2 := slot_at ha0 2 rfl
    have s3 := slot_at ha0 3 rfl
    have s8 := slot_at ha0 8 rfl
    have HA0 := keep ha0
    clear ha0
    apply lq hsz [] [(43, 1), (44, 2), (45, 3), (47, 5), (48, 6)] none (by kernel_rfl) rfl
    ·intro xs w hw hp K hK
     obtain ⟨p0, p1, p2, p3, p4, p5, _⟩ := pgres (HP7.out w hw)
     go_simp
     exact hK _ (Grow.refl _)
    apply lq hsz [] [(42, 0), (44, 2), (45, 3), (47, 5), (48, 6)] none (by kernel_rfl) rfl
    ·intro xs w hw hp K hK
     go_simp
     exact hK _ (Grow.refl _)
    apply lq hsz [] [(42, 0), (43, 1), (46, 4), (47, 5), (48, 6)] none (by kernel_rfl) rfl
    ·intro xs w hw hp K hK
     obtain ⟨e0, e1, e2, _⟩ := enres (HE7.out w hw)
     go_simp
     exact hK _ (Grow.refl _)
    apply lq hsz [(2, true)] [(42, 0), (43, 1), (44, 2), (47, 5), (48, 6)] none (by kernel_rfl) rfl
    ·intro xs w hw hp K hK
     simp only [holdsL, List.nil_append, List.cons_append, List.getD_cons_succ, List.getD_cons_zero, if_true, and_true] at hp
     go_simp
     exact (HBy2.out w).mono fun e w' h => ⟨_, h.1, hK _ h.2⟩
    refine lexf_says hsz (fun v u => ∃ iv, v = .tuple #[pgV Q iv, .int .i64 cd] ∧ ItemsC u iv Q.items) (fun _ _ _ g h => h.elim fun iv h => ⟨iv, h.1, h.2.fits g⟩) [(0, true), (1, true), (3, true)] [(42, 0), (43, 1), (44, 2), (45, 3)] none (by kernel_rfl) (by kernel_rfl) (by kernel_rfl) (by kernel_rfl) rfl ?_ ?_
    ·intro xs w hw hp K hK
     simp only [holdsL, List.nil_append, List.cons_append, List.getD_cons_succ, List.getD_cons_zero, if_true, and_true] at hp
     go_simp
     exact (HPu.out w (HI7.out w hw)).mono fun e w' ⟨iv, h1, h2, h3⟩ => ⟨_, h1, hK _ _ ⟨iv, rfl, h2⟩ h3⟩
    refine lexf_says hsz (fun v u => ∃ iv, v = pgV Q iv ∧ ItemsC u iv Q.items) (fun _ _ _ g h => h.elim fun iv h => ⟨iv, h.1, h.2.fits g⟩) [(4, true)] [(42, 0), (43, 1), (44, 2), (45, 3), (46, 4), (48, 6)] none (by kernel_rfl) (by kernel_rfl) (by kernel_rfl) (by kernel_rfl) rfl ?_ ?_
    ·intro xs w hw hp K hK
     simp only [holdsL, List.nil_append, List.cons_append, List.getD_cons_succ, List.getD_cons_zero, if_true, and_true] at hp
     obtain ⟨iv8, h8, hit⟩ := hp
     go_simp
     exact hK _ _ ⟨iv8, rfl, hit⟩ (Grow.refl _)
    refine lexf_says hsz (fun v _ => v = .int .i64 cd) (fun _ _ _ _ h => h) [(4, true)] [(42, 0), (43, 1), (44, 2), (45, 3), (46, 4), (47, 5)] none (by kernel_rfl) (by kernel_rfl) (by kernel_rfl) (by kernel_rfl) rfl ?_ ?_
    ·intro xs w hw hp K hK
     simp only [holdsL, List.nil_append, List.cons_append, List.getD_cons_succ, List.getD_cons_zero, if_true, and_true] at hp
     obtain ⟨iv8, h8, hit⟩ := hp
     go_simp
     exact hK _ _ rfl (Grow.refl _)
    intro xs w hw hp
    have ha0 := HA0.out
    clear HA0 hsz s2 s3 s8
    simp only [holdsL, List.nil_append, List.cons_append, List.getD_cons_succ, List.getD_cons_zero, if_true, and_true] at hp
    have h9 := hp.2.2.2.2.2.1
    have h10 := hp.2.2.2.2.2.2
    clear hp
    subst ha0
    simp only [putAll, h10]
    obtain ⟨iv9, h9, hit⟩ := h9
    simp only [h9]
    obtain ⟨qa, qc, rfl⟩ := itemsS_form hit.1
    have hgw := hw.undrew
    have hR := HR4.out.fits hgw
    have hbb : Below w_.heap.size w_ w := Grow.trans HGW4.out hgw
    obtain ⟨r0, r1, r2, r3, r4, r5, f0, f1, f2, f3, f4, f5⟩ := pgres hR
    have Hset := keep (pgset hR (.int .i64 Q.lsn) (.int .i64 Q.kind) (.int .i64 Q.level) (.int .i64 Q.right) (.string (str Q.high)) (.slice qa Q.items.length qc))
    have Hbut := keep (pgbut w (w_.heap.size + 2) (.int .i64 Q.lsn) (.int .i64 Q.kind) (.int .i64 Q.level) (.int .i64 Q.right) (.string (str Q.high)) (.slice qa Q.items.length qc))
    have Hit := keep hit
    have HR := keep hR
    have Hbb := keep hbb
    have hlt2 := hR.lt
    clear hw h9 h10 hit hR hbb hgw
    unfold pgV
    go_wp2_with fail
    rw [HD4.out]
    refine bodyPost_ret (v := .tuple #[pgV Q (.slice qa Q.items.length qc), .int .i64 cd]) ?_ rfl ⟨_, rfl, itemsC_but Hit.out Hbut.out HR.out (by decide), But.below Hbb.out Hbut.out (by omega) (by omega)⟩
    obtain ⟨s0, s1, s2, s3, s4, s5, _⟩ := pgres Hset.out
    simp [results, Tryz.results47, go_sem, s0, s1, s2, s3, s4, s5, pgV]
end Go.Proofs.YtaninphcgeaepaaGreat
namespace Go.Proofs.YtaninphcgeaepaaGreat
open Go.RowKit
attribute [local go_sem] givesF_none givesF_some evalF_tmp evalF_const evalF_global evalF_func lookL isB_bool isB_undef givesUpon_value givesUpon_skip givesUpon_enter
def rootOk (lv left : Int) (e : En) (right : Int) : Bool := inB lv 1 255 && (enOk e && (inB left 1 65535 && inB right 1 65535))
def rootP (lv left : Int) (e : En) (right : Int) : Pg := ⟨0, 3, lv, 0, [], [enBytes leastE [left], enBytes e [right]]⟩
def rootN (lv left : Int) (e : En) (right : Int) : Pg × Int := if rootOk lv left e right then (rootP lv left e right, 0) else (zeroP, 140)
theorem two_items (w : World) (x y : List UInt8) : ItemsC (w.alloc (.cells #[.string (str x), .string (str y)] 9)) (.slice (some ⟨w.heap.size, 0, none⟩) 2 2) [x, y] :=
 ⟨RowS.blk (Blk.new w 9 [.string (str x), .string (str y)]) 2 2 _ 0 (by intro j hj; rw [Nat.zero_add]; rfl), Nat.le_refl 2⟩
set_option maxRecDepth 100000 in
set_option maxHeartbeats 4000000 in
theorem root_any (lv left : Int) (e : En) (right : Int) (w_ : World) :
  Calls Tryz.prog 26 #[.int .i64 lv, .int .i64 left, enV e, .int .i64 right] w_ (PgPost (rootN lv left e right).1 (rootN lv left e right).2 w_) := by
 obtain ⟨k, p, s⟩ := e
 obtain ⟨w0, hw0⟩ : ∃ w0, w0 = ((w_.alloc (.cells #[.string (str k), .int .i64 p, .int .i64 s] 41)).alloc (.cells #[.int .i64 0, .int .i64 0, .int .i64 0, .int .i64 0, .string ⟨#[]⟩, .slice none 0 0] 24)) := ⟨_, rfl⟩
 have hg0 : Grow w_ w0 := by subst hw0; exact ((Grow.refl w_).alloc _).alloc _
 have hE0 : Blk w0 w_.heap.size 41 [.string (str k), .int .i64 p, .int .i64 s] := by
  have := (Blk.new w_ 41 [.string (str k), .int .i64 p, .int .i64 s]).alloc (.cells #[.int .i64 0, .int .i64 0, .int .i64 0, .int .i64 0, .string ⟨#[]⟩, .slice none 0 0] 24)
  subst hw0; exact this
 have hR0 : Blk w0 (w_.heap.size + 1) 24 [.int .i64 0, .int .i64 0, .int .i64 0, .int .i64 0, .string ⟨#[]⟩, .slice none 0 0] := by
  have := Blk.new (w_.alloc (.cells #[.string (str k), .int .i64 p, .int .i64 s] 41)) 24 [.int .i64 0, .int .i64 0, .int .i64 0, .int .i64 0, .string ⟨#[]⟩, .slice none 0 0]
  have e : (w_.alloc (.cells #[.string (str k), .int .i64 p, .int .i64 s] 41)).heap.size = w_.heap.size + 1 := by simp
  rw [e] at this
  subst hw0; exact this
 have hzR := hR0.lt
 have hie := fun u => isEntry_any (k, p, s) u
 have hi1 := fun u => within_any lv 1 255 u
 have hi2 := fun u => isChild_any left u
 have hi3 := fun u => isChild_any right u
 have hd : rootN lv left (k, p, s) right = if inB lv 1 255 && (enOk (k, p, s) && (inB left 1 65535 && inB right 1 65535)) then (⟨0, 3, lv, 0, [], [enBytes leastE [left], enBytes (k, p, s) [right]]⟩, 0) else (zeroP, 140) := rfl
 have hb1 := fun (u : World) (mv : Value) (hm : IntsS u mv [left]) (hl : inB left 1 65535 = true) => bytes_any leastE mv [left] u (by simp [enFine, leastE]) hm (by simp [inB] at hl ⊢; omega) (by simp)
 have hb2 := fun (u : World) (mv : Value) (he : enOk (k, p, s) = true) (hm : IntsS u mv [right]) (hl : inB right 1 65535 = true) => bytes_any (k, p, s) mv [right] u (enOk_fine he) hm (by simp [inB] at hl ⊢; omega) (by simp)
 unfold enV leastE at hb1
 unfold leastE at hd
 unfold enV at hie hb2
 dsimp only at hie hb1 hb2
 generalize hA1 : inB lv 1 255 = A1 at *
 generalize hA2 : enOk (k, p, s) = A2 at *
 generalize hA3 : inB left 1 65535 = A3 at *
 generalize hA4 : inB right 1 65535 = A4 at *
 generalize enBytes ([], 0, 0) [left] = Y1 at *
 generalize enBytes (k, p, s) [right] = Y2 at *
 have HIe := keep hie
 have HI1 := keep hi1
 have HI2 := keep hi2
 have HI3 := keep hi3
 have HD := keep hd
 have HY1 := keep hb1
 have HY2 := keep hb2
 have HE0 := keep hE0
 have HR0 := keep hR0
 have HG0 := keep hg0
 obtain ⟨e0, e1, e2, _⟩ := enres hE0
 clear hie hi1 hi2 hi3 hd hb1 hb2 hE0 hR0 hg0 hA1 hA2 hA3 hA4
 unfold enV
 go_enter Tryz.func26, Tryz.ntmps26
 go_upto_region 1 with fail
 rw [← hw0]
 clear hw0
 go_cut [27] from 10 to 27 (fun sv wx => sv = .bool (!(A1 && (A2 && (A3 && A4)))) ∧ Grow w0 wx)
 case first =>
  cases A1 with
  | false =>
   go_wp2_with fail
   refine (HI1.out w0).mono ?_
   rintro x w1 ⟨rfl, rfl⟩
   go_wp2_with fail
   all_goals go_meet
   all_goals (case rel => exact ⟨rfl, Grow.refl _⟩)
  | true =>
   go_wp2_with fail
   refine (HI1.out w0).mono ?_
   rintro x w1 ⟨rfl, rfl⟩
   go_wp2_with fail
   refine (HIe.out w0).mono ?_
   rintro x w1 ⟨rfl, hb1⟩
   cases A2 with
   | false =>
    go_wp2_with fail
    all_goals go_meet
    all_goals (case rel => exact ⟨rfl, hb1⟩)
   | true =>
    go_wp2_with fail
    refine (HI2.out w1).mono ?_
    rintro x w2 ⟨rfl, rfl⟩
    cases A3 with
    | false =>
     go_wp2_with fail
     all_goals go_meet
     all_goals (case rel => exact ⟨rfl, hb1⟩)
    | true =>
     go_wp2_with fail
     refine (HI3.out w1).mono ?_
     rintro x w2 ⟨rfl, rfl⟩
     go_wp2_with fail
     all_goals go_meet
     all_goals (case rel => exact ⟨rfl, hb1⟩)
 case rest =>
  obtain ⟨rfl, hg3⟩ := hcut
  clear e0 e1 e2
  generalize wc = w3 at *
  have HG3 := keep hg3
  have HGW := keep (Grow.trans HG0.out hg3)
  clear hg3
  have hd := HD.out
  generalize hM : (A1 && (A2 && (A3 && A4))) = M at *
  cases M with
  | false =>
   have HNo := keep (show rootN lv left (k, p, s) right = (zeroP, 140) from hd)
   clear hd hM
   have hR := HR0.out.fits HG3.out
   have Hset := keep (pgset hR (.int .i64 0) (.int .i64 0) (.int .i64 0) (.int .i64 0) (.string ⟨#[]⟩) (.slice none 0 0))
   have Hbut := keep (pgbut w3 (w_.heap.size + 1) (.int .i64 0) (.int .i64 0) (.int .i64 0) (.int .i64 0) (.string ⟨#[]⟩) (.slice none 0 0))
   have hlt2 := hR.lt
   obtain ⟨r0, r1, r2, r3, r4, r5, f0, f1, f2, f3, f4, f5⟩ := pgres hR
   clear hR
   go_wp2_with fail
   rw [HNo.out]
   refine bodyPost_ret (v := .tuple #[pgV zeroP (.slice none 0 0), .int .i64 140]) ?_ rfl ⟨_, rfl, ItemsC.nil _, But.below HGW.out Hbut.out (by omega) (by omega)⟩
   obtain ⟨s0, s1, s2, s3, s4, s5, _⟩ := pgres Hset.out
   simp [results, Tryz.results26, go_sem, s0, s1, s2, s3, s4, s5, pgV, zeroP]
   rfl
  | true =>
   have HYes := keep (show rootN lv left (k, p, s) right = (⟨0, 3, lv, 0, [], [Y1, Y2]⟩, 0) from hd)
   have hm : A1 = true ∧ A2 = true ∧ A3 = true ∧ A4 = true := by simpa [and_assoc] using hM
   obtain ⟨rfl, rfl, rfl, rfl⟩ := hm
   have HE7 := keep (fun (u : World) (hu : Grow w3.drew u) => Blk.fits (Blk.drew (HE0.out.fits HG3.out)) hu)
   have HR3 := keep (HR0.out.fits HG3.out)
   clear hd hM HD
   go_upto_region 3 with fail
   refine wp_region_grow_named (by kernel_rfl) 11 (by kernel_rfl) [(29, 0), (30, 1), (31, 2), (32, 3), (33, 4), (34, 5), (35, 6), (36, 7), (37, 8), (38, 9), (39, 10)] (by kernel_rfl) [(0, true), (1, true), (2, true), (3, true), (4, true), (5, true), (6, true), (7, true), (8, true), (9, true), (10, true)] (by kernel_rfl) rfl rfl ?_
   intro a0 ha0
   have hsz : a0.tmps.size = 40 := (size_at ha0).trans rfl
   have s0 := slot_at ha0 0 rfl
   have s1 := slot_at ha0 1 rfl
   have s3 := slot_at ha0 3 rfl
   have s6 := slot_at ha0 6 rfl
   have HA0 := keep ha0
   clear ha0
   apply lq hsz [] [(30, 1), (31, 2), (32, 3), (33, 4), (34, 5), (35, 6), (36, 7), (37, 8), (38, 9)] none (by kernel_rfl) rfl
   ·intro xs w hw hp K hK
    go_simp
    exact hK _ (Grow.refl _)
   apply lq hsz [] [(29, 0), (31, 2), (32, 3), (34, 5), (35, 6), (36, 7), (37, 8), (38, 9), (39, 10)] none (by kernel_rfl) rfl
   ·intro xs w hw hp K hK
    go_simp
    exact (least_any w).mono fun e w' h => ⟨_, h.1, hK _ h.2⟩
   apply lq hsz [] [(29, 0), (30, 1), (33, 4), (34, 5), (35, 6), (36, 7), (37, 8), (38, 9), (39, 10)] none (by kernel_rfl) rfl
   ·intro xs w hw hp K hK
    go_simp
    exact hK _ (Grow.refl _)
   refine lexf_says hsz (fun v u => IntsS u v [left] ∧ ∃ a n c, v = .slice a n c) (fun _ _ _ g h => ⟨RowS.fits h.1 g, h.2⟩) [(2, true)] [(29, 0), (30, 1), (31, 2), (34, 5), (35, 6), (36, 7), (37, 8), (38, 9), (39, 10)] none (by kernel_rfl) (by kernel_rfl) (by kernel_rfl) (by kernel_rfl) rfl ?_ ?_
   ·intro xs w hw hp K hK
    simp only [holdsL, List.nil_append, List.cons_append, List.getD_cons_succ, List.getD_cons_zero, if_true, and_true] at hp
    go_simp
    exact hK _ _ ⟨one_ints w left, _, _, _, rfl⟩ ((Grow.refl _).alloc _)
   apply lq hsz [(1, true), (3, true)] [(29, 0), (30, 1), (31, 2), (32, 3), (34, 5), (35, 6), (36, 7), (39, 10)] none (by kernel_rfl) rfl
   ·intro xs w hw hp K hK
    simp only [holdsL, List.nil_append, List.cons_append, List.getD_cons_succ, List.getD_cons_zero, if_true, and_true] at hp
    obtain ⟨h1, h3, a3, n3, c3, h3e⟩ := hp
    rw [h3e] at h3
    unfold enV at h1
    go_simp
    exact (HY1.out w _ h3 rfl).mono fun e w' h => ⟨_, h.1, hK _ h.2⟩
   apply lq hsz [] [(29, 0), (30, 1), (31, 2), (32, 3), (33, 4), (35, 6), (36, 7), (38, 9), (39, 10)] none (by kernel_rfl) rfl
   ·intro xs w hw hp K hK
    obtain ⟨e0, e1, e2, _⟩ := enres (HE7.out w hw)
    go_simp
    exact hK _ (Grow.refl _)
   apply lq hsz [] [(29, 0), (30, 1), (31, 2), (32, 3), (33, 4), (34, 5), (37, 8), (38, 9), (39, 10)] none (by kernel_rfl) rfl
   ·intro xs w hw hp K hK
    go_simp
    exact hK _ (Grow.refl _)
   refine lexf_says hsz (fun v u => IntsS u v [right] ∧ ∃ a n c, v = .slice a n c) (fun _ _ _ g h => ⟨RowS.fits h.1 g, h.2⟩) [(6, true)] [(29, 0), (30, 1), (31, 2), (32, 3), (33, 4), (34, 5), (35, 6), (38, 9), (39, 10)] none (by kernel_rfl) (by kernel_rfl) (by kernel_rfl) (by kernel_rfl) rfl ?_ ?_
   ·intro xs w hw hp K hK
    simp only [holdsL, List.nil_append, List.cons_append, List.getD_cons_succ, List.getD_cons_zero, if_true, and_true] at hp
    go_simp
    exact hK _ _ ⟨one_ints w right, _, _, _, rfl⟩ ((Grow.refl _).alloc _)
   apply lq hsz [(5, true), (7, true)] [(29, 0), (30, 1), (31, 2), (32, 3), (33, 4), (34, 5), (35, 6), (36, 7), (39, 10)] none (by kernel_rfl) rfl
   ·intro xs w hw hp K hK
    simp only [holdsL, List.nil_append, List.cons_append, List.getD_cons_succ, List.getD_cons_zero, if_true, and_true] at hp
    obtain ⟨h5, h7, a3, n3, c3, h3e⟩ := hp
    rw [h3e] at h7
    go_simp
    exact (HY2.out w _ rfl h7 rfl).mono fun e w' h => ⟨_, h.1, hK _ h.2⟩
   refine lexf_says hsz (fun v u => ItemsC u v [Y1, Y2] ∧ ∃ a n c, v = .slice a n c) (fun _ _ _ g h => ⟨h.1.fits g, h.2⟩) [(4, true), (8, true)] [(29, 0), (30, 1), (31, 2), (32, 3), (33, 4), (34, 5), (35, 6), (36, 7), (37, 8)] none (by kernel_rfl) (by kernel_rfl) (by kernel_rfl) (by kernel_rfl) rfl ?_ ?_
   ·intro xs w hw hp K hK
    simp only [holdsL, List.nil_append, List.cons_append, List.getD_cons_succ, List.getD_cons_zero, if_true, and_true] at hp
    go_simp
    exact hK _ _ ⟨two_items w Y1 Y2, _, _, _, rfl⟩ ((Grow.refl _).alloc _)
   refine lexf_says hsz (fun v u => ∃ a n c, v = .agg #[.int .i64 0, .int .i64 3, .int .i64 lv, .int .i64 0, .string ⟨#[]⟩, .slice a n c] ∧ ItemsC u (.slice a n c) [Y1, Y2]) (fun _ _ _ g ⟨a, n, c, h1, h2⟩ => ⟨a, n, c, h1, h2.fits g⟩) [(0, true), (9, true)] [(29, 0), (30, 1), (31, 2), (32, 3), (33, 4), (34, 5), (35, 6), (36, 7), (37, 8), (38, 9)] none (by kernel_rfl) (by kernel_rfl) (by kernel_rfl) (by kernel_rfl) rfl ?_ ?_
   ·intro xs w hw hp K hK
    simp only [holdsL, List.nil_append, List.cons_append, List.getD_cons_succ, List.getD_cons_zero, if_true, and_true] at hp
    obtain ⟨h0, h9, a3, n3, c3, h3e⟩ := hp
    rw [h3e] at h9
    go_simp
    exact hK _ _ ⟨_, _, _, rfl, h9⟩ (Grow.refl _)
   intro xs w hw hp
   have ha0 := HA0.out
   clear HA0 hsz s0 s1 s3 s6
   simp only [holdsL, List.nil_append, List.cons_append, List.getD_cons_succ, List.getD_cons_zero, if_true, and_true] at hp
   have h9 := hp.2.2.2.2.2.2.2.2.2.2
   clear hp
   subst ha0
   simp only [putAll]
   obtain ⟨qa, qn, qc, h9, hit⟩ := h9
   simp only [h9]
   have hgw := hw.undrew
   have hR := HR3.out.fits hgw
   have hbb : Below w_.heap.size w_ w := Grow.trans HGW.out hgw
   obtain ⟨r0, r1, r2, r3, r4, r5, f0, f1, f2, f3, f4, f5⟩ := pgres hR
   have Hset := keep (pgset hR (.int .i64 0) (.int .i64 3) (.int .i64 lv) (.int .i64 0) (.string ⟨#[]⟩) (.slice qa qn qc))
   have Hbut := keep (pgbut w (w_.heap.size + 1) (.int .i64 0) (.int .i64 3) (.int .i64 lv) (.int .i64 0) (.string ⟨#[]⟩) (.slice qa qn qc))
   have Hit := keep hit
   have HR := keep hR
   have Hbb := keep hbb
   have hlt2 := hR.lt
   clear hw h9 hit hR hbb hgw
   go_wp2_with fail
   rw [HYes.out]
   refine bodyPost_ret (v := .tuple #[pgV ⟨0, 3, lv, 0, [], [Y1, Y2]⟩ (.slice qa qn qc), .int .i64 0]) ?_ rfl ⟨_, rfl, itemsC_but Hit.out Hbut.out HR.out (by decide), But.below Hbb.out Hbut.out (by omega) (by omega)⟩
   obtain ⟨s0, s1, s2, s3, s4, s5, _⟩ := pgres Hset.out
   simp [results, Tryz.results26, go_sem, s0, s1, s2, s3, s4, s5, pgV]
   rfl
end Go.Proofs.YtaninphcgeaepaaGreat
namespace Go.Proofs.YtaninphcgeaepaaGreat
open Go.RowKit
attribute [local go_sem] givesF_none givesF_some evalF_tmp evalF_const evalF_global evalF_func lookL isB_bool isB_undef givesUpon_value givesUpon_skip givesUpon_enter
theorem item_at {w : World} {v : Value} {l : List (List UInt8)} (h : Items w v l) {m : Nat} (hm : m < l.length) : ∃ c off cap, v = .slice (some ⟨c, off, none⟩) l.length cap ∧ ∀ u, Grow w u → u.cell? ⟨c, off + m, none⟩ = some (.string (str l[m])) := by
 obtain ⟨c, off, cap, e, hc⟩ := items_cells h (by omega)
 refine ⟨c, off, cap, e, fun u hu => ?_⟩
 have := hc m hm
 exact (Below.cell hu (World.block_lt_of_cell? w _ this)).trans this
set_option maxRecDepth 100000 in
set_option maxHeartbeats 4000000 in
theorem same_self (P : Pg) (iv jv : Value) (w_ : World) (hi : Items w_ iv P.items) (hj : Items w_ jv P.items) (hl : (P.items.length : Int) ≤ 140737488355328) :
  Calls Tryz.prog 34 #[pgV P iv, pgV P jv] w_ fun x w' => x = .returned (.bool true) ∧ Below w_.heap.size w_ w' := by
 obtain ⟨w0, hw0⟩ : ∃ w0, w0 = ((w_.alloc (.cells (pgCells P iv).toArray 24)).alloc (.cells (pgCells P jv).toArray 24)) := ⟨_, rfl⟩
 have hg0 : Grow w_ w0 := by subst hw0; exact ((Grow.refl w_).alloc _).alloc _
 have hP0 : Blk w0 w_.heap.size 24 (pgCells P iv) := by
  have := (Blk.new w_ 24 (pgCells P iv)).alloc (.cells (pgCells P jv).toArray 24)
  subst hw0; exact this
 have hQ0 : Blk w0 (w_.heap.size + 1) 24 (pgCells P jv) := by
  have := Blk.new (w_.alloc (.cells (pgCells P iv).toArray 24)) 24 (pgCells P jv)
  have e : (w_.alloc (.cells (pgCells P iv).toArray 24)).heap.size = w_.heap.size + 1 := by simp
  rw [e] at this
  subst hw0; exact this
 obtain ⟨ia, ic, rfl⟩ := items_form hi
 obtain ⟨ja, jc, rfl⟩ := items_form hj
 have HP0 := keep hP0
 have HQ0 := keep hQ0
 have HI0 := keep (Row.fits hi hg0 : Items w0 (.slice ia P.items.length ic) P.items)
 have HJ0 := keep (Row.fits hj hg0 : Items w0 (.slice ja P.items.length jc) P.items)
 unfold pgCells at hw0 hP0 hQ0
 obtain ⟨p0, p1, p2, p3, p4, p5, _⟩ := pgres hP0
 obtain ⟨q0, q1, q2, q3, q4, q5, _⟩ := pgres hQ0
 clear hi hj hP0 hQ0
 unfold pgV
 go_enter Tryz.func34, Tryz.ntmps34
 go_upto_region 1 with fail
 rw [← hw0]
 clear hw0
 go_wp2_with fail
 clear p0 p1 p2 p3 p4 p5 q0 q1 q2 q3 q4 q5
 go_loopw [5] (fun i wr => ∃ n : Nat, n ≤ P.items.length ∧ i = .int .i64 n ∧ Kept (Grow w0 wr)) (fun i _ => P.items.length - (intOf i).toNat)
 case atStart => exact ⟨0, Nat.zero_le _, rfl, keep (Grow.refl _)⟩
 case round =>
  obtain ⟨n, hn, rfl, HG⟩ := hrel
  have hP1 := HP0.out.fits HG.out
  unfold pgCells at hP1
  obtain ⟨p0, p1, p2, p3, p4, p5, _⟩ := pgres hP1
  by_cases hlt : n < P.items.length
  ·obtain ⟨c1, off1, cap1, e1, hc1⟩ := item_at HI0.out hlt
   obtain ⟨c2, off2, cap2, e2, hc2⟩ := item_at HJ0.out hlt
   simp only [Value.slice.injEq] at e1 e2
   obtain ⟨rfl, x1, x2⟩ := e1
   obtain ⟨rfl, x3, x4⟩ := e2
   generalize P.items[n] = e at *
   have HI7 := keep (fun (u : World) (hu : Grow wr.drew u) => hc1 u (Grow.trans HG.out (Grow.undrew hu)))
   have HJ7 := keep (fun (u : World) (hu : Grow wr.drew u) => hc2 u (Grow.trans HG.out (Grow.undrew hu)))
   have HA7 := keep (fun (u : World) (hu : Grow wr.drew u) => HP0.out.fits (Grow.trans HG.out (Grow.undrew hu)))
   have HB7 := keep (fun (u : World) (hu : Grow wr.drew u) => HQ0.out.fits (Grow.trans HG.out (Grow.undrew hu)))
   unfold pgCells at HA7 HB7
   clear hc1 hc2 x1 x2 x3 x4 hP1
   go_upto_region 6 with fail
   refine wp_region_grow_named (by kernel_rfl) 10 (by kernel_rfl) [(55, 0), (56, 1), (57, 2), (58, 3), (59, 4), (60, 5), (61, 6), (62, 7), (63, 8), (64, 9)] (by kernel_rfl) [(0, true), (1, true), (2, true), (3, true), (4, true), (5, true), (6, true), (7, true), (8, true), (9, true)] (by kernel_rfl) rfl rfl ?_
   intro a0 ha0
   have hsz : a0.tmps.size = 66 := (size_at ha0).trans rfl
   have s2 := slot_at ha0 2 rfl
   have s3 := slot_at ha0 3 rfl
   have s5 := slot_at ha0 5 rfl
   have HA0 := keep ha0
   clear ha0
   apply lq hsz [] [(57, 2), (58, 3), (59, 4), (60, 5), (61, 6), (62, 7), (63, 8), (64, 9), (65, 10)] none (by kernel_rfl) rfl
   ·intro xs w hw hp K hK
    obtain ⟨p0, p1, p2, p3, p4, p5, _⟩ := pgres (HA7.out w hw)
    go_simp
    exact hK _ (Grow.refl _)
   apply lq hsz [(0, true)] [(55, 0), (57, 2), (59, 4), (60, 5), (61, 6), (62, 7), (63, 8), (64, 9), (65, 10)] none (by kernel_rfl) rfl
   ·intro xs w hw hp K hK
    simp only [holdsL, List.nil_append, List.getD_cons_zero, if_true, and_true] at hp
    obtain ⟨p0, p1, p2, p3, p4, p5, _⟩ := pgres (HA7.out w hw)
    go_simp
    exact hK _ (Grow.refl _)
   apply lq hsz [] [(55, 0), (56, 1), (59, 4), (60, 5), (61, 6), (62, 7), (63, 8), (64, 9), (65, 10)] none (by kernel_rfl) rfl
   ·intro xs w hw hp K hK
    go_simp
    exact hK _ (Grow.refl _)
   apply lq hsz [(1, true), (2, true)] [(55, 0), (56, 1), (57, 2), (60, 5), (61, 6), (62, 7), (63, 8), (64, 9), (65, 10)] none (by kernel_rfl) rfl
   ·intro xs w hw hp K hK
    simp only [holdsL, List.nil_append, List.cons_append, List.getD_cons_succ, List.getD_cons_zero, if_true, and_true] at hp
    have q1 : n < P.items.length := hlt
    go_simp
    exact hK _ (Grow.refl _)
   apply lq hsz [(3, true)] [(55, 0), (56, 1), (57, 2), (58, 3), (60, 5), (61, 6), (62, 7), (63, 8), (64, 9)] none (by kernel_rfl) rfl
   ·intro xs w hw hp K hK
    simp only [holdsL, List.nil_append, List.cons_append, List.getD_cons_succ, List.getD_cons_zero, if_true, and_true] at hp
    have c0 := HI7.out w hw
    go_simp
    exact hK _ (Grow.refl _)
   apply lq hsz [] [(55, 0), (56, 1), (57, 2), (58, 3), (59, 4), (62, 7), (63, 8), (64, 9), (65, 10)] none (by kernel_rfl) rfl
   ·intro xs w hw hp K hK
    obtain ⟨p0, p1, p2, p3, p4, p5, _⟩ := pgres (HB7.out w hw)
    go_simp
    exact hK _ (Grow.refl _)
   apply lq hsz [(5, true)] [(55, 0), (56, 1), (57, 2), (58, 3), (59, 4), (60, 5), (62, 7), (64, 9), (65, 10)] none (by kernel_rfl) rfl
   ·intro xs w hw hp K hK
    simp only [holdsL, List.nil_append, List.cons_append, List.getD_cons_succ, List.getD_cons_zero, if_true, and_true] at hp
    obtain ⟨p0, p1, p2, p3, p4, p5, _⟩ := pgres (HB7.out w hw)
    go_simp
    exact hK _ (Grow.refl _)
   apply lq hsz [] [(55, 0), (56, 1), (57, 2), (58, 3), (59, 4), (60, 5), (61, 6), (64, 9), (65, 10)] none (by kernel_rfl) rfl
   ·intro xs w hw hp K hK
    go_simp
    exact hK _ (Grow.refl _)
   apply lq hsz [(6, true), (7, true)] [(55, 0), (56, 1), (57, 2), (58, 3), (59, 4), (60, 5), (61, 6), (62, 7), (65, 10)] none (by kernel_rfl) rfl
   ·intro xs w hw hp K hK
    simp only [holdsL, List.nil_append, List.cons_append, List.getD_cons_succ, List.getD_cons_zero, if_true, and_true] at hp
    have q1 : n < P.items.length := hlt
    go_simp
    exact hK _ (Grow.refl _)
   apply lq hsz [(8, true)] [(55, 0), (56, 1), (57, 2), (58, 3), (59, 4), (60, 5), (61, 6), (62, 7), (63, 8)] none (by kernel_rfl) rfl
   ·intro xs w hw hp K hK
    simp only [holdsL, List.nil_append, List.cons_append, List.getD_cons_succ, List.getD_cons_zero, if_true, and_true] at hp
    have c0 := HJ7.out w hw
    go_simp
    exact hK _ (Grow.refl _)
   intro xs w hw hp
   have ha0 := HA0.out
   clear HA0 hsz s2 s3 s5
   simp only [holdsL, List.nil_append, List.cons_append, List.getD_cons_succ, List.getD_cons_zero, if_true, and_true] at hp
   have h4 := hp.2.2.2.2.1
   have h9 := hp.2.2.2.2.2.2.2.2.2
   clear hp
   subst ha0
   simp only [putAll, h4, h9]
   have hG := Grow.trans HG.out hw.undrew
   clear hw h4 h9 HI7 HJ7 HA7 HB7
   have HG2 := keep hG
   clear hG
   go_wp2_with fail
   go_roundw
   case rel => exact ⟨n + 1, by omega, by go_num, HG2⟩
   case measure => simp [intOf]; omega
  ·have e : n = P.items.length := by omega
   subst e
   go_wp2_with fail
   go_ret
   exact ⟨rfl, Grow.trans hg0 HG.out⟩
end Go.Proofs.YtaninphcgeaepaaGreat
