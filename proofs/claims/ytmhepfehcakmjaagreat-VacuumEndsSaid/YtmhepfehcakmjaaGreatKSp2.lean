import Derived.Test.YtmhepfehcakmjaaGreatKBs1
import Derived.Test.YtmhepfehcakmjaaGreatKPt1
import Derived.Test.YtmhepfehcakmjaaGreatKLexm
import Derived.Deep.CutRange
import Derived.Test.YtmhepfehcakmjaaGreatKOwn2
import Derived.BigQuiet
namespace Go.Proofs.YtmhepfehcakmjaaGreat
open Go.RowKit
attribute [local go_sem] givesF_none givesF_some evalF_tmp evalF_const evalF_global evalF_func lookL isB_bool isB_undef givesUpon_value givesUpon_skip givesUpon_enter
def beyN (bd : Bool) (hi e : En) : Bool := bd && decide (0 < cmpE e hi)
theorem beyond_any (a1 a2 : Option Addr) (n1 c1 n2 c2 : Nat) (hi e : En) (bd : Bool) (w_ : World) :
  Calls Tryz.prog 112 #[.agg #[.slice a1 n1 c1, .slice a2 n2 c2, .string (str hi.1), .int .i64 hi.2.1, .int .i64 hi.2.2, .bool bd], enV e] w_ fun x w' => x = .returned (.bool (beyN bd hi e)) ∧ Below w_.heap.size w_ w' := by
 have hcp := fun u => compare_any e hi u
 have hd : beyN bd hi e = (bd && decide (0 < cmpE e hi)) := rfl
 rw [hd]
 clear hd
 generalize cmpE e hi = F at *
 obtain ⟨hk, hp, hs⟩ := hi
 obtain ⟨k, p, s⟩ := e
 unfold enV at *
 dsimp only at *
 obtain ⟨w0, hw0⟩ : ∃ w0, w0 = (w_.alloc (.cells #[.slice a1 n1 c1, .slice a2 n2 c2, .string (str hk), .int .i64 hp, .int .i64 hs, .bool bd] 170)).alloc (.cells #[.string (str k), .int .i64 p, .int .i64 s] 102) := ⟨_, rfl⟩
 have hg0 : Grow w_ w0 := by subst hw0; exact ((Grow.refl w_).alloc _).alloc _
 have hO0 : Blk w0 w_.heap.size 170 [.slice a1 n1 c1, .slice a2 n2 c2, .string (str hk), .int .i64 hp, .int .i64 hs, .bool bd] := by subst hw0; exact (Blk.new w_ _ [_, _, _, _, _, _]).alloc _
 have hE0 : Blk w0 (w_.heap.size + 1) 102 [.string (str k), .int .i64 p, .int .i64 s] := by
  have := Blk.new (w_.alloc (.cells #[.slice a1 n1 c1, .slice a2 n2 c2, .string (str hk), .int .i64 hp, .int .i64 hs, .bool bd] 170)) 102 [.string (str k), .int .i64 p, .int .i64 s]
  have e : (w_.alloc (.cells #[.slice a1 n1 c1, .slice a2 n2 c2, .string (str hk), .int .i64 hp, .int .i64 hs, .bool bd] 170)).heap.size = w_.heap.size + 1 := by simp
  rw [e] at this
  subst hw0; exact this
 obtain ⟨o0, o1, o2, o3, o4, o5, _⟩ := pgres hO0
 obtain ⟨e0, e1, e2, _⟩ := enres hE0
 have HCp := keep hcp
 clear hcp hO0 hE0
 go_enter Tryz.func112, Tryz.ntmps112
 go_upto_region 1 with fail
 rw [← hw0]
 clear hw0
 cases bd with
 | false =>
  go_wp2_with fail
  go_ret
  exact ⟨rfl, hg0⟩
 | true =>
  go_wp2_with fail
  refine (HCp.out w0).mono ?_
  rintro x w1 ⟨rfl, hb1⟩
  go_wp2_with fail
  go_ret
  exact ⟨rfl, Grow.trans hg0 hb1⟩
theorem okTo_at {lv : Int} {hi : En} {bd : Bool} {items : List (List UInt8)} {n : Nat} (h : okTo lv hi bd items n = true) : ∀ k, k < n → roundOk lv hi bd k (itemN lv (items.getD (k - 1) [])) (itemN lv (items.getD k [])) = true := by
 induction n with
 | zero => intro k hk; omega
 | succ n ih =>
  rw [okTo, Bool.and_eq_true] at h
  intro k hk
  by_cases e : k = n
  ·rw [e]; exact h.2
  ·exact ih h.1 k (by omega)
theorem round_lt {lv : Int} {hi : En} {bd : Bool} {k : Nat} {pr x : En × Int × Int} (h : roundOk lv hi bd k pr x = true) (hk : k ≠ 0) : cmpE pr.1 x.1 = -1 := by
 simp only [roundOk, Bool.and_eq_true] at h
 have := h.2.2.1
 rw [decide_eq_false hk, Bool.false_or, decide_eq_true_eq] at this
 exact (cmp_neg_iff _ _).1 this
theorem ens_sorted {P : Pg} (h : okTo P.level (hiN P) (bdN P) P.items P.items.length = true) : Sorted (ensN P) := by
 have hlen : (ensN P).length = P.items.length := ensTo_length _ _ _ (Nat.le_refl _)
 have hat : ∀ i (hi : i < (ensN P).length), (ensN P)[i] = (itemN P.level (P.items.getD i [])).1 := by
  intro i hi
  simp [ensN, ensTo, hlen ▸ hi]
 have step : ∀ i (hi : i + 1 < (ensN P).length), cmpE (ensN P)[i] (ensN P)[i + 1] = -1 := by
  intro i hi
  rw [hat, hat]
  have := round_lt (okTo_at h (i + 1) (by omega)) (by omega)
  rwa [show i + 1 - 1 = i by omega] at this
 unfold Sorted
 rw [List.pairwise_iff_getElem]
 intro i j hi hj hij
 obtain ⟨d, rfl⟩ : ∃ d, j = i + 1 + d := ⟨j - (i + 1), by omega⟩
 induction d with
 | zero => exact step i hj
 | succ d ih =>
  have h1 := ih (by omega) (by omega)
  exact cmpE_trans h1 (step (i + 1 + d) (by omega))
theorem open_sorted {P : Pg} (h : openOk P = true) : Sorted (ensN P) := by
 unfold openOk at h
 simp only [Bool.and_eq_true] at h
 exact ens_sorted h.2.1
theorem open_fine {P : Pg} (h : openOk P = true) : P.items.length ≤ 255 ∧ P.high.length ≤ 255 ∧ (∀ x ∈ P.items, x.length ≤ 512) ∧ 0 ≤ P.level ∧ P.level ≤ 255 ∧ 0 ≤ P.right := by
 unfold openOk headOk at h
 simp only [Bool.and_eq_true] at h
 exact encOk_fine h.1.1.1
theorem ensN_length (P : Pg) : (ensN P).length = P.items.length := ensTo_length _ _ _ (Nat.le_refl _)
theorem posE_le (l : List En) (t : En) : posE l t ≤ l.length := List.countP_le_length
end Go.Proofs.YtmhepfehcakmjaaGreat
namespace Go.Proofs.YtmhepfehcakmjaaGreat
open Go.RowKit
attribute [local go_sem] givesV lookV knAt givesF_none givesF_some evalF_tmp evalF_const evalF_global evalF_func lookL isB_bool isB_undef givesUpon_value givesUpon_skip givesUpon_enter
def insN (P : Pg) (e : En) : Pg × Int :=
 if openOk P && (decide (P.level = 0) && (enOk e && !beyN (bdN P) (hiN P) e)) then (if decide (e ∈ ensN P) then (zeroP, 140) else putN P (posE (ensN P) e) (enBytes e [])) else (zeroP, 140)
def PgIn (w : World) (iv : Value) (P : Pg) : Prop :=
 Items w iv P.items ∧ (∀ x ∈ P.items, (x.length : Int) ≤ 140737488355328) ∧ (P.high.length : Int) ≤ 140737488355328 ∧ (P.items.length : Int) ≤ 140737488355328 ∧ P.lsn ≤ 9223372036854775807
theorem PgIn.fits {w w' : World} {iv : Value} {P : Pg} (h : PgIn w iv P) (g : Grow w w') : PgIn w' iv P := ⟨Row.fits h.1 g, h.2⟩
theorem opened_pg {w : World} {iv : Value} {P : Pg} (h : PgIn w iv P) : Calls Tryz.prog 108 #[pgV P iv] w (OpenPost P w) := opened_any P iv w h.1 h.2.1 h.2.2.1 h.2.2.2.1 h.2.2.2.2
theorem enBytes_length (e : En) (h : enOk e = true) : (enBytes e []).length ≤ 60 := by
 have := (enOk_fine h).1
 have h1 := sev_length e.1.length
 have h2 := sevs_length [e.2.1, e.2.2]
 simp [enBytes, txt, sevs] at *
 omega
set_option maxRecDepth 100000 in
set_option maxHeartbeats 4000000 in
theorem insert_any (P : Pg) (iv : Value) (e : En) (w_ : World) (hin : PgIn w_ iv P) :
  Calls Tryz.prog 82 #[pgV P iv, enV e] w_ (PgPost (insN P e).1 (insN P e).2 w_) := by
 obtain ⟨k, p, s⟩ := e
 obtain ⟨w0, hw0⟩ : ∃ w0, w0 = (((w_.alloc (.cells (pgCells P iv).toArray 24)).alloc (.cells #[.string (str k), .int .i64 p, .int .i64 s] 102)).alloc (.cells #[.int .i64 0, .int .i64 0, .int .i64 0, .int .i64 0, .string ⟨#[]⟩, .slice none 0 0] 24)) := ⟨_, rfl⟩
 have hg0 : Grow w_ w0 := by subst hw0; exact (((Grow.refl w_).alloc _).alloc _).alloc _
 have hP0 : Blk w0 w_.heap.size 24 (pgCells P iv) := by
  have := ((Blk.new w_ 24 (pgCells P iv)).alloc (.cells #[.string (str k), .int .i64 p, .int .i64 s] 102)).alloc (.cells #[.int .i64 0, .int .i64 0, .int .i64 0, .int .i64 0, .string ⟨#[]⟩, .slice none 0 0] 24)
  subst hw0; exact this
 have hE0 : Blk w0 (w_.heap.size + 1) 102 [.string (str k), .int .i64 p, .int .i64 s] := by
  have := (Blk.new (w_.alloc (.cells (pgCells P iv).toArray 24)) 102 [.string (str k), .int .i64 p, .int .i64 s]).alloc (.cells #[.int .i64 0, .int .i64 0, .int .i64 0, .int .i64 0, .string ⟨#[]⟩, .slice none 0 0] 24)
  have e : (w_.alloc (.cells (pgCells P iv).toArray 24)).heap.size = w_.heap.size + 1 := by simp
  rw [e] at this
  subst hw0; exact this
 have hR0 : Blk w0 (w_.heap.size + 2) 24 [.int .i64 0, .int .i64 0, .int .i64 0, .int .i64 0, .string ⟨#[]⟩, .slice none 0 0] := by
  have := Blk.new ((w_.alloc (.cells (pgCells P iv).toArray 24)).alloc (.cells #[.string (str k), .int .i64 p, .int .i64 s] 102)) 24 [.int .i64 0, .int .i64 0, .int .i64 0, .int .i64 0, .string ⟨#[]⟩, .slice none 0 0]
  have e : ((w_.alloc (.cells (pgCells P iv).toArray 24)).alloc (.cells #[.string (str k), .int .i64 p, .int .i64 s] 102)).heap.size = w_.heap.size + 2 := by simp
  rw [e] at this
  subst hw0; exact this
 have hzR := hR0.lt
 have hop := opened_pg (hin.fits hg0)
 obtain ⟨ia, ic, rfl⟩ := items_form hin.1
 have hie := fun u => isEntry_any (k, p, s) u
 have hbe := fun (a1 a2 : Option Addr) (n1 c1 n2 c2 : Nat) (hi : En) (bd : Bool) (u : World) => beyond_any a1 a2 n1 c1 n2 c2 hi (k, p, s) bd u
 have hse := fun (l : List En) (v : Value) (u : World) (h : EnsS u v l) (hl : l.length ≤ 1759218604441) (hs : Sorted l) => search_any (k, p, s) l v u h hl hs
 have hby := fun (u : World) (h : enOk (k, p, s) = true) => bytes_any (k, p, s) (.slice none 0 0) [] u (enOk_fine h) (none_ints u) (by simp) (by simp)
 have hd : insN P (k, p, s) = if openOk P && (decide (P.level = 0) && (enOk (k, p, s) && !beyN (bdN P) (hiN P) (k, p, s))) then (if decide ((k, p, s) ∈ ensN P) then (zeroP, 140) else putN P (posE (ensN P) (k, p, s)) (enBytes (k, p, s) [])) else (zeroP, 140) := rfl
 unfold enV at hie hbe hse hby
 dsimp only at hie hbe hse hby
 have HOp := keep hop
 have HIe := keep hie
 have HBe := keep hbe
 have HSe := keep hse
 have HBy := keep hby
 have HD := keep hd
 have HIn := keep hin
 have HP0 := keep hP0
 have HE0 := keep hE0
 have HR0 := keep hR0
 clear hop hie hbe hse hby hd hin hE0 hR0
 unfold pgCells at hw0 hP0
 obtain ⟨p0, p1, p2, p3, p4, p5, _⟩ := pgres hP0
 unfold pgV enV
 go_enter Tryz.func82, Tryz.ntmps82
 go_upto_region 1 with fail
 rw [← hw0]
 clear hw0
 go_wp2_with fail
 refine HOp.out.mono ?_
 rintro x w1 ⟨a1, n1, c1, a2, n2, c2, hi, bd, ok, rfl, hok, hyes, hb1⟩
 clear p0 p1 p2 p3 p4 p5 hP0
 obtain ⟨w2, hw2⟩ : ∃ w2, w2 = w1.alloc (.cells #[.slice a1 n1 c1, .slice a2 n2 c2, .string (str hi.1), .int .i64 hi.2.1, .int .i64 hi.2.2, .bool bd] 170) := ⟨_, rfl⟩
 have hg2 : Grow w0 w2 := by subst hw2; exact Grow.alloc hb1 _
 have hO2 : Blk w2 w1.heap.size 170 [.slice a1 n1 c1, .slice a2 n2 c2, .string (str hi.1), .int .i64 hi.2.1, .int .i64 hi.2.2, .bool bd] := by subst hw2; exact Blk.new w1 _ [_, _, _, _, _, _]
 have hyes2 : ok = true → EnsS w2 (.slice a1 n1 c1) (ensN P) ∧ hi = hiN P ∧ bd = bdN P := fun h => ⟨by subst hw2; exact RowS.fits (hyes h).1 ((Grow.refl _).alloc _), (hyes h).2.2⟩
 have HYes := keep hyes2
 have HOk := keep hok
 have HO2 := keep hO2
 have HG2 := keep hg2
 clear hyes hyes2 hok hb1 hO2 hg2
 go_upto_region 2 with fail
 rw [← hw2]
 clear hw2
 have hP2 := HP0.out.fits HG2.out
 have hE2 := HE0.out.fits HG2.out
 unfold pgCells at hP2
 obtain ⟨p0, p1, p2, p3, p4, p5, _⟩ := pgres hP2
 obtain ⟨e0, e1, e2, _⟩ := enres hE2
 obtain ⟨o0, o1, o2, o3, o4, o5, _⟩ := pgres HO2.out
 go_cut [31] from 15 to 31 (fun sv wx => sv = .bool (!(ok && (decide (P.level = 0) && (enOk (k, p, s) && !beyN bd hi (k, p, s))))) ∧ Grow w2 wx)
 case first =>
  cases ok with
  | false =>
   go_wp2_with fail
   all_goals go_meet
   all_goals (case rel => exact ⟨rfl, Grow.refl _⟩)
  | true =>
   by_cases hlv : P.level = 0
   ·have hlv2 : (P.level != 0) = false := by simp [hlv]
    have HLv := keep hlv
    clear hlv
    generalize enOk (k, p, s) = A at *
    go_wp2_with fail
    refine (HIe.out w2).mono ?_
    rintro x w3 ⟨rfl, hb3⟩
    cases A with
    | false =>
     go_wp2_with fail
     all_goals go_meet
     all_goals (case rel => exact ⟨by simp, hb3⟩)
    | true =>
     have hE3 := hE2.fits hb3
     have hO3 := HO2.out.fits hb3
     clear e0 e1 e2 o0 o1 o2 o3 o4 o5
     obtain ⟨e0, e1, e2, _⟩ := enres hE3
     obtain ⟨o0, o1, o2, o3, o4, o5, _⟩ := pgres hO3
     have hbe := HBe.out a1 a2 n1 c1 n2 c2 hi bd w3
     generalize beyN bd hi (k, p, s) = B at *
     have HB := keep hbe
     clear hE3 hO3 hbe
     go_wp2_with fail
     refine HB.out.mono ?_
     rintro x w4 ⟨rfl, hb4⟩
     go_wp2_with fail
     all_goals go_meet
     all_goals (case rel => exact ⟨by simp [HLv.out], Grow.trans hb3 hb4⟩)
   ·have hlv2 : (P.level != 0) = true := by simp [hlv]
    have HLv := keep hlv
    clear hlv
    go_wp2_with fail
    all_goals go_meet
    all_goals (case rel => exact ⟨by simp [HLv.out], Grow.refl _⟩)
 case rest =>
  obtain ⟨rfl, hg3⟩ := hcut
  clear p0 p1 p2 p3 p4 p5 e0 e1 e2 o0 o1 o2 o3 o4 o5 hP2 hE2
  generalize wc = w3 at *
  have HG3 := keep (Grow.trans HG2.out hg3)
  have HGW := keep (Grow.trans hg0 HG3.out)
  generalize hM : (ok && (decide (P.level = 0) && (enOk (k, p, s) && !beyN bd hi (k, p, s)))) = M
  cases M with
  | false =>
   have hno : insN P (k, p, s) = (zeroP, 140) := by
    rw [HD.out, ← HOk.out]
    cases ok with
    | false => rfl
    | true =>
     obtain ⟨_, h2, h3⟩ := HYes.out rfl
     rw [← h2, ← h3, hM]
     rfl
   have HNo := keep hno
   clear hM hno hg3
   have hR := HR0.out.fits HG3.out
   have Hset := keep (pgset hR (.int .i64 0) (.int .i64 0) (.int .i64 0) (.int .i64 0) (.string ⟨#[]⟩) (.slice none 0 0))
   have Hbut := keep (pgbut w3 (w_.heap.size + 2) (.int .i64 0) (.int .i64 0) (.int .i64 0) (.int .i64 0) (.string ⟨#[]⟩) (.slice none 0 0))
   have hlt2 := hR.lt
   obtain ⟨r0, r1, r2, r3, r4, r5, f0, f1, f2, f3, f4, f5⟩ := pgres hR
   clear hR
   go_wp2_with fail
   rw [HNo.out]
   refine bodyPost_ret (v := .tuple #[pgV zeroP (.slice none 0 0), .int .i64 140]) ?_ rfl ⟨_, rfl, ItemsC.nil _, But.below HGW.out Hbut.out (by omega) (by omega)⟩
   obtain ⟨s0, s1, s2, s3, s4, s5, _⟩ := pgres Hset.out
   simp [results, Tryz.results82, go_sem, s0, s1, s2, s3, s4, s5, pgV, zeroP]
   rfl
  | true =>
   have hm : ok = true ∧ P.level = 0 ∧ enOk (k, p, s) = true ∧ beyN bd hi (k, p, s) = false := by simpa [and_assoc] using hM
   obtain ⟨rfl, hlv, hen, hbe⟩ := hm
   obtain ⟨hes, rfl, rfl⟩ := HYes.out rfl
   have hes3 : EnsS w3 (.slice a1 n1 c1) (ensN P) := RowS.fits hes hg3
   have hopen : openOk P = true := HOk.out.symm
   have hd2 : insN P (k, p, s) = if decide ((k, p, s) ∈ ensN P) then (zeroP, 140) else putN P (posE (ensN P) (k, p, s)) (enBytes (k, p, s) []) := by
    rw [HD.out, hopen, hM.symm.trans (by rfl)]
    simp [hlv, hen, hbe]
   have hsc := HSe.out (ensN P) (.slice a1 n1 c1) w3 hes3 (by rw [ensN_length]; have := (open_fine hopen).1; omega) (open_sorted hopen)
   have hE3 := HE0.out.fits HG3.out
   have hO3 := HO2.out.fits hg3
   obtain ⟨e0, e1, e2, _⟩ := enres hE3
   obtain ⟨o0, o1, o2, o3, o4, o5, _⟩ := pgres hO3
   have HSc := keep hsc
   have HD2 := keep hd2
   have HEn := keep hen
   have HOpen := keep hopen
   clear hM hlv hen hbe hes hes3 hopen hd2 hsc hg3 hE3 hO3
   go_wp2_with fail
   refine HSc.out.mono ?_
   rintro x w4 ⟨rfl, hb4⟩
   clear e0 e1 e2 o0 o1 o2 o3 o4 o5
   have HG4 := keep (Grow.trans HG3.out hb4)
   have HGW4 := keep (Grow.trans HGW.out hb4)
   clear hb4
   have hd3 := HD2.out
   generalize decide ((k, p, s) ∈ ensN P) = F at *
   cases F with
   | true =>
    have hno : insN P (k, p, s) = (zeroP, 140) := hd3
    have HNo := keep hno
    clear hno hd3
    have hR := HR0.out.fits HG4.out
    have Hset := keep (pgset hR (.int .i64 0) (.int .i64 0) (.int .i64 0) (.int .i64 0) (.string ⟨#[]⟩) (.slice none 0 0))
    have Hbut := keep (pgbut w4 (w_.heap.size + 2) (.int .i64 0) (.int .i64 0) (.int .i64 0) (.int .i64 0) (.string ⟨#[]⟩) (.slice none 0 0))
    have hlt2 := hR.lt
    obtain ⟨r0, r1, r2, r3, r4, r5, f0, f1, f2, f3, f4, f5⟩ := pgres hR
    clear hR
    go_wp2_with fail
    rw [HNo.out]
    refine bodyPost_ret (v := .tuple #[pgV zeroP (.slice none 0 0), .int .i64 140]) ?_ rfl ⟨_, rfl, ItemsC.nil _, But.below HGW4.out Hbut.out (by omega) (by omega)⟩
    obtain ⟨s0, s1, s2, s3, s4, s5, _⟩ := pgres Hset.out
    simp [results, Tryz.results82, go_sem, s0, s1, s2, s3, s4, s5, pgV, zeroP]
    rfl
   | false =>
    have hd4 : insN P (k, p, s) = putN P (posE (ensN P) (k, p, s)) (enBytes (k, p, s) []) := hd3
    clear hd3 HD HD2
    have hpu := fun (u : World) (hi : Items u (.slice ia P.items.length ic) P.items) => put_any P (.slice ia P.items.length ic) (posE (ensN P) (k, p, s)) (enBytes (k, p, s) []) u hi (by rw [← ensN_length]; exact posE_le _ _) HIn.out.2.1 (by have := enBytes_length _ HEn.out; omega) HIn.out.2.2.1 (by have := (open_fine HOpen.out).1; omega)
    generalize putN P (posE (ensN P) (k, p, s)) (enBytes (k, p, s) []) = R at *
    obtain ⟨Q, cd⟩ := R
    dsimp only at hpu
    unfold PgPost at hpu
    have HPu := keep hpu
    have HD4 := keep hd4
    clear hd4
    have HBy2 := keep (fun u => HBy.out u HEn.out)
    have HP7 := keep (fun (u : World) (hu : Grow w4.drew u) => Blk.fits (Blk.drew (HP0.out.fits HG4.out)) hu)
    have HE7 := keep (fun (u : World) (hu : Grow w4.drew u) => Blk.fits (Blk.drew (HE0.out.fits HG4.out)) hu)
    have HI7 := keep (fun (u : World) (hu : Grow w4.drew u) => (Row.fits HIn.out.1 (Grow.trans HGW4.out (Grow.undrew hu)) : Items u _ P.items))
    have HR4 := keep (HR0.out.fits HG4.out)
    clear hpu
    go_upto_region 7 with fail
    refine rgv 7 (by kernel_rfl) (by kernel_rfl) rfl rfl ?_
    intro a0 ha0
    have hsz : a0.tmps.size = 49 := (size_at ha0).trans rfl
    have s2 := slot_at ha0 2 rfl
    have s3 := slot_at ha0 3 rfl
    have s8 := slot_at ha0 8 rfl
    have HA0 := keep ha0
    clear ha0
    apply lxv hsz Grow.refl (by kernel_rfl) rfl
    ·intro xs w hw K hK
     obtain ⟨p0, p1, p2, p3, p4, p5, _⟩ := pgres (HP7.out w hw)
     go_simp
     exact hK
    apply lxv hsz Grow.refl (by kernel_rfl) rfl
    ·intro xs w hw K hK
     go_simp
     exact hK
    apply lxv hsz Grow.refl (by kernel_rfl) rfl
    ·intro xs w hw K hK
     obtain ⟨e0, e1, e2, _⟩ := enres (HE7.out w hw)
     go_simp
     exact hK
    apply lxe hsz [] (by kernel_rfl) rfl
    ·intro xs w hw hp K hK
     go_simp
     exact (HBy2.out w).mono fun e w' h => ⟨_, h.1, hK _ h.2⟩
    refine lxs hsz (fun v u => ∃ iv, v = .tuple #[pgV Q iv, .int .i64 cd] ∧ ItemsC u iv Q.items) (fun _ _ _ g h => h.elim fun iv h => ⟨iv, h.1, h.2.fits g⟩) [] (by kernel_rfl) rfl ?_ ?_
    ·intro xs w hw hp K hK
     go_simp
     exact (HPu.out w (HI7.out w hw)).mono fun e w' ⟨iv, h1, h2, h3⟩ => ⟨_, h1, hK _ _ ⟨iv, rfl, h2⟩ h3⟩
    refine lxs hsz (fun v u => ∃ iv, v = pgV Q iv ∧ ItemsC u iv Q.items) (fun _ _ _ g h => h.elim fun iv h => ⟨iv, h.1, h.2.fits g⟩) [(4, true)] (by kernel_rfl) rfl ?_ ?_
    ·intro xs w hw hp K hK
     simp only [hzv] at hp
     obtain ⟨iv8, h8, hit⟩ := hp
     go_simp
     exact hK _ _ ⟨iv8, rfl, hit⟩ (Grow.refl _)
    refine lxs hsz (fun v _ => v = .int .i64 cd) (fun _ _ _ _ h => h) [(4, true)] (by kernel_rfl) rfl ?_ ?_
    ·intro xs w hw hp K hK
     simp only [hzv] at hp
     obtain ⟨iv8, h8, hit⟩ := hp
     go_simp
     exact hK _ _ rfl (Grow.refl _)
    refine rgd [(5, true), (6, true)] (by kernel_rfl) rfl ?_
    intro xs w hw hp
    have ha0 := HA0.out
    clear HA0 hsz s2 s3 s8
    simp only [hzv] at hp
    obtain ⟨h9, h10⟩ := hp
    subst ha0
    simp only [putV, h10]
    obtain ⟨iv9, h9, hit⟩ := h9
    simp only [h9]
    obtain ⟨qa, qc, rfl⟩ := itemsS_form hit.1
    have hgw := hw.undrew
    have hR := HR4.out.fits hgw
    have hbb : Below w_.heap.size w_ w := Grow.trans HGW4.out hgw
    obtain ⟨r0, r1, r2, r3, r4, r5, f0, f1, f2, f3, f4, f5⟩ := pgres hR
    have Hset := keep (pgset hR (.int .i64 Q.lsn) (.int .i64 Q.kind) (.int .i64 Q.level) (.int .i64 Q.right) (.string (str Q.high)) (.slice qa Q.items.length qc))
    have Hbut := keep (pgbut w (w_.heap.size + 2) (.int .i64 Q.lsn) (.int .i64 Q.kind) (.int .i64 Q.level) (.int .i64 Q.right) (.string (str Q.high)) (.slice qa Q.items.length qc))
    have Hit := keep hit
    have HR := keep hR
    have Hbb := keep hbb
    have hlt2 := hR.lt
    clear hw h9 h10 hit hR hbb hgw
    unfold pgV
    go_wp2_with fail
    rw [HD4.out]
    refine bodyPost_ret (v := .tuple #[pgV Q (.slice qa Q.items.length qc), .int .i64 cd]) ?_ rfl ⟨_, rfl, itemsC_but Hit.out Hbut.out HR.out (by decide), But.below Hbb.out Hbut.out (by omega) (by omega)⟩
    obtain ⟨s0, s1, s2, s3, s4, s5, _⟩ := pgres Hset.out
    simp [results, Tryz.results82, go_sem, s0, s1, s2, s3, s4, s5, pgV]
end Go.Proofs.YtmhepfehcakmjaaGreat
namespace Go.Proofs.YtmhepfehcakmjaaGreat
open Go.RowKit
attribute [local go_sem] givesF_none givesF_some evalF_tmp evalF_const evalF_global evalF_func lookL isB_bool isB_undef givesUpon_value givesUpon_skip givesUpon_enter
def entriesOk (P : Pg) : Bool := openOk P && decide (P.level = 0)
end Go.Proofs.YtmhepfehcakmjaaGreat
namespace Go.Proofs.YtmhepfehcakmjaaGreat
open Go.RowKit
def pgOf (l : List En) : Pg := ⟨0, 3, 0, 0, [], l.map fun e => enBytes e []⟩
structure GoodL (l : List En) : Prop where
 sorted : Sorted l
 ok : ∀ e ∈ l, enOk e = true
 fit : fitsP (pgOf l) = true
end Go.Proofs.YtmhepfehcakmjaaGreat
namespace Go.Proofs.YtmhepfehcakmjaaGreat
open Go.RowKit
attribute [local go_sem] givesV lookV knAt givesF_none givesF_some evalF_tmp evalF_const evalF_global evalF_func lookL isB_bool isB_undef givesUpon_value givesUpon_skip givesUpon_enter
attribute [local simp] eql_entry
attribute [local go_sem] guard_entry
def IdxPost (l : List En) (t : En) (i : Int) : Prop := (i = -1 ∧ t ∉ l) ∨ ∃ k : Nat, i = k ∧ ∃ hk : k < l.length, l[k] = t
set_option maxRecDepth 100000 in
set_option maxHeartbeats 2000000 in
theorem index_any (t : En) (l : List En) (v : Value) (w_ : World) (h : EnsS w_ v l) (hl : l.length ≤ 1759218604441) :
  Calls Tryz.prog 113 #[v, enV t] w_ fun x w' => ∃ i, x = .returned (.int .i64 i) ∧ IdxPost l t i ∧ Below w_.heap.size w_ w' := by
 obtain ⟨a, cap, rfl⟩ : ∃ a cap, v = .slice a l.length cap := by
  rcases h with ⟨h1, _, a, cap, h2⟩ | ⟨c, off, cap, blk, f, h1, _⟩
  ·exact ⟨a, cap, by rw [h2, h1]⟩
  ·exact ⟨_, _, h1⟩
 have hcells : ∀ m (hm : m < l.length), ∃ c off, a = some ⟨c, off, none⟩ ∧ ∀ u, Grow w_ u → (u.cell? ⟨c, off + m * 3, none⟩ = some (.string (str l[m].1)) ∧ u.cell? ⟨c, off + m * 3 + 1, none⟩ = some (.int .i64 l[m].2.1) ∧ u.cell? ⟨c, off + m * 3 + 2, none⟩ = some (.int .i64 l[m].2.2)) := by
  intro m hm
  obtain ⟨c, off, cap', e, hc⟩ := ens_cells h.weak (by omega)
  simp only [Value.slice.injEq] at e
  refine ⟨c, off, e.1, fun u hu => ?_⟩
  have := hc m hm
  exact ⟨(Below.cell hu (World.block_lt_of_cell? w_ _ this.1)).trans this.1, (Below.cell hu (World.block_lt_of_cell? w_ _ this.2.1)).trans this.2.1, (Below.cell hu (World.block_lt_of_cell? w_ _ this.2.2)).trans this.2.2⟩
 obtain ⟨k, p, s⟩ := t
 obtain ⟨w0, hw0⟩ : ∃ w0, w0 = (w_.alloc (.cells #[.string (str k), .int .i64 p, .int .i64 s] 102)) := ⟨_, rfl⟩
 have hg0 : Grow w_ w0 := by subst hw0; exact (Grow.refl w_).alloc _
 have hT0 : Blk w0 w_.heap.size 102 [.string (str k), .int .i64 p, .int .i64 s] := by
  have := Blk.new w_ 102 [.string (str k), .int .i64 p, .int .i64 s]
  subst hw0; exact this
 have HCells := keep hcells
 have HT := keep (fun (u : World) (hu : Grow w0 u) => Blk.fits hT0 hu)
 clear h hcells hT0
 unfold enV
 go_enter Tryz.func113, Tryz.ntmps113
 go_upto_region 1 with fail
 rw [← hw0]
 clear hw0
 go_wp2_with fail
 go_loopw [8] (fun i wr => ∃ n : Nat, n ≤ l.length ∧ i = .int .i64 n ∧ Kept (∀ x (hx : x < l.length), x < n → l[x] ≠ (k, p, s)) ∧ Kept (Grow w0 wr)) (fun i _ => l.length - (intOf i).toNat)
 case atStart => exact ⟨0, Nat.zero_le _, rfl, keep (fun x hx h => absurd h (Nat.not_lt_zero _)), keep (Grow.refl _)⟩
 case round =>
  obtain ⟨n, hn, rfl, H1, HG⟩ := hrel
  by_cases hlt : n < l.length
  ·go_upto_region 4 with fail
   obtain ⟨c2, off2, rfl, hcm⟩ := HCells.out n hlt
   have HCm := keep (fun (u : World) (hu : Grow wr.drew u) => hcm u (Grow.trans hg0 (Grow.trans HG.out (Grow.undrew hu))))
   have HTm := keep (fun (u : World) (hu : Grow wr.drew u) => enres (HT.out u (Grow.trans HG.out (Grow.undrew hu))))
   have hln : ∃ e, e = l[n] := ⟨_, rfl⟩
   obtain ⟨e, he⟩ := hln
   rw [← he] at HCm
   have He := keep he
   clear he hcm
   obtain ⟨mk, mp, ms⟩ := e
   dsimp only at HCm
   go_cut [16] from 11 to 16 (fun sv wx => sv = .bool (sameE (k, p, s) (mk, mp, ms)) ∧ Grow wr wx)
   case first =>
    refine rgv 5 (by kernel_rfl) (by kernel_rfl) rfl rfl ?_
    intro a0 ha0
    have hsz : a0.tmps.size = 19 := (size_at ha0).trans rfl
    have s0 := slot_at ha0 0 rfl
    have s3 := slot_at ha0 3 rfl
    have s5 := slot_at ha0 5 rfl
    have HA0 := keep ha0
    clear ha0
    apply lxv hsz Grow.refl (by kernel_rfl) rfl
    ·intro xs w hw K hK
     obtain ⟨c0, c1, c2, _⟩ := HTm.out w hw
     go_simp
     exact hK
    iterate 2
     apply lxv hsz Grow.refl (by kernel_rfl) rfl
     ·intro xs w hw K hK
      go_simp
      exact hK
    apply lxv hsz Grow.refl (by kernel_rfl) rfl
    ·intro xs w hw K hK
     have q1 : n < l.length := hlt
     go_simp
     exact hK
    apply lxv hsz Grow.refl (by kernel_rfl) rfl
    ·intro xs w hw K hK
     obtain ⟨c0, c1, c2⟩ := HCm.out w hw
     go_simp
     exact hK
    refine rgd [] (by kernel_rfl) rfl ?_
    intro xs w hw hp
    have ha0 := HA0.out
    clear HA0 hsz s0 s3 s5
    clear hp
    subst ha0
    simp only [putV]
    have hgw : Grow wr w := hw.undrew
    clear hw
    go_wp2_with fail
    all_goals go_meet
    all_goals (case rel => exact ⟨rfl, hgw⟩)
   case rest =>
    obtain ⟨rfl, hgw⟩ := hcut
    have HG2 := keep (Grow.trans HG.out hgw)
    clear hgw
    generalize hS : sameE (k, p, s) (mk, mp, ms) = S
    cases S with
    | true =>
     have hq : (k, p, s) = (mk, mp, ms) := by simpa [sameE] using hS
     have HQ := keep hq
     clear hS hq
     go_wp2_with fail
     go_ret
     refine ⟨n, rfl, .inr ⟨n, rfl, hlt, ?_⟩, Grow.trans hg0 HG2.out⟩
     rw [HQ.out, He.out]
    | false =>
     have hq : (k, p, s) ≠ (mk, mp, ms) := by simpa [sameE] using hS
     have HQ := keep hq
     clear hS hq
     go_wp2_with fail
     go_roundw
     case rel =>
      refine ⟨n + 1, by omega, by go_num, keep (fun x hx hxn => ?_), HG2⟩
      by_cases e : x = n
      ·subst e
       rw [← He.out]
       exact HQ.out.symm
      ·exact H1.out x hx (by omega)
     case measure => simp [intOf]; omega
  ·have e : n = l.length := by omega
   subst e
   go_wp2_with fail
   go_ret
   refine ⟨-1, rfl, .inl ⟨rfl, fun hm => ?_⟩, Grow.trans hg0 HG.out⟩
   obtain ⟨x, hx, he⟩ := List.mem_iff_getElem.1 hm
   exact H1.out x hx hx he
def outP (P : Pg) (i : Nat) : Pg := { P with items := P.items.take i ++ P.items.drop (i + 1) }
set_option maxRecDepth 100000 in
set_option maxHeartbeats 2000000 in
theorem out_any (P : Pg) (iv : Value) (i : Nat) (w_ : World) (hi : Items w_ iv P.items) (hi2 : i < P.items.length) (hl : P.items.length ≤ 1759218604441) :
  Calls Tryz.prog 114 #[pgV P iv, .int .i64 i] w_ (PgPost (outP P i) 0 w_) := by
 obtain ⟨w0, hw0⟩ : ∃ w0, w0 = ((w_.alloc (.cells (pgCells P iv).toArray 24)).alloc (.cells #[.int .i64 0, .int .i64 0, .int .i64 0, .int .i64 0, .string ⟨#[]⟩, .slice none 0 0] 24)) := ⟨_, rfl⟩
 have hg0 : Grow w_ w0 := by subst hw0; exact ((Grow.refl w_).alloc _).alloc _
 have hP0 : Blk w0 w_.heap.size 24 (pgCells P iv) := by
  have := (Blk.new w_ 24 (pgCells P iv)).alloc (.cells #[.int .i64 0, .int .i64 0, .int .i64 0, .int .i64 0, .string ⟨#[]⟩, .slice none 0 0] 24)
  subst hw0; exact this
 have hR0 : Blk w0 (w_.heap.size + 1) 24 [.int .i64 0, .int .i64 0, .int .i64 0, .int .i64 0, .string ⟨#[]⟩, .slice none 0 0] := by
  have := Blk.new (w_.alloc (.cells (pgCells P iv).toArray 24)) 24 [.int .i64 0, .int .i64 0, .int .i64 0, .int .i64 0, .string ⟨#[]⟩, .slice none 0 0]
  have e : (w_.alloc (.cells (pgCells P iv).toArray 24)).heap.size = w_.heap.size + 1 := by simp
  rw [e] at this
  subst hw0; exact this
 have hzR := hR0.lt
 have hcl := clone_any iv P.items w0 (Row.fits hi hg0) (by omega)
 obtain ⟨ia, ic, rfl⟩ := items_form hi
 have HP0 := keep hP0
 have HR0 := keep hR0
 have HG0 := keep hg0
 have HCl := keep hcl
 have hle : (i : Int) < (P.items.length : Int) := by omega
 clear hi hR0 hcl
 unfold pgCells at hw0 hP0
 obtain ⟨p0, p1, p2, p3, p4, p5, q0, q1, q2, q3, q4, q5⟩ := pgres hP0
 unfold pgV
 go_enter Tryz.func114, Tryz.ntmps114
 go_upto_region 1 with fail
 rw [← hw0]
 clear hw0
 go_wp2_with fail
 refine HCl.out.mono ?_
 rintro x w1 ⟨v1, rfl, ho1, hb1⟩
 have hde := delete_own w0.heap.size i v1 P.items w1 ho1 hi2
 rw [show (((i + 1 : Nat)) : Int) = (i : Int) + 1 by omega] at hde
 obtain ⟨va, vc, rfl⟩ := own_form ho1
 have HDe := keep hde
 have hP1 := HP0.out.fits hb1
 have HR1 := keep (HR0.out.fits hb1)
 have HG1 := keep (Grow.trans HG0.out hb1)
 have HP1 := keep hP1
 have hz1 := hb1.size
 clear ho1 hde hb1 p0 p1 p2 p3 p4 p5 q0 q1 q2 q3 q4 q5 hP0
 unfold pgCells at hP1
 obtain ⟨p0, p1, p2, p3, p4, p5, q0, q1, q2, q3, q4, q5⟩ := pgres hP1
 clear hP1
 go_wp2_with fail
 refine HDe.out.mono ?_
 rintro x w2 ⟨v2, rfl, ho2, hb2⟩
 have hzP : w_.heap.size < w0.heap.size := HP0.out.lt
 have hP2 := HP1.out.below hb2 hzP
 have hR2 := HR1.out.below hb2 (by omega)
 have hg2 : Below w_.heap.size w_ w2 := Below.trans HG1.out (hb2.mono (by omega))
 have hit : ItemsC w2 v2 (P.items.take i ++ P.items.drop (i + 1)) := ⟨own_rowO ho2, owns_capd ho2⟩
 obtain ⟨v2a, v2c, rfl⟩ := itemsS_form hit.1
 clear p0 p1 p2 p3 p4 p5 q0 q1 q2 q3 q4 q5
 generalize hit2 : P.items.take i ++ P.items.drop (i + 1) = L at *
 have hP3 := hP2.set 5 (.slice v2a L.length v2c)
 have hbut3 := (But.refl w_.heap.size w2).setCell 5 (.slice v2a L.length v2c)
 have hR3 := hR2.but hbut3 (show w_.heap.size + 1 ≠ w_.heap.size by omega)
 have hit3 := itemsC_but hit hbut3 hP2 (by decide)
 have hg3 := But.below hg2 hbut3 (Nat.le_refl _) hg2.size
 unfold pgCells at hP2
 obtain ⟨p0, p1, p2, p3, p4, p5, q0, q1, q2, q3, q4, q5⟩ := pgres hP2
 have HP3 := keep hP3
 have HR3 := keep hR3
 have Hit3 := keep hit3
 have HG3 := keep hg3
 have hlt2 := hR2.lt
 clear hP3 hbut3 hR3 hit3 hg3 hP2 hR2 hg2 hit ho2 hb2
 go_upto_region 4 with fail
 have hP3 := HP3.out
 have hR3 := HR3.out
 have Hsz : Kept ((w2.setCell ⟨w_.heap.size, 5, none⟩ (.slice v2a L.length v2c)).heap.size = w2.heap.size) := keep (by simp)
 clear HP3 HR3 p0 p1 p2 p3 p4 p5 q0 q1 q2 q3 q4 q5
 generalize w2.setCell ⟨w_.heap.size, 5, none⟩ (.slice v2a L.length v2c) = w3 at *
 unfold pgCells at hP3
 simp only [List.set_cons_succ, List.set_cons_zero] at hP3
 obtain ⟨p0, p1, p2, p3, p4, p5, _⟩ := pgres hP3
 obtain ⟨r0, r1, r2, r3, r4, r5, f0, f1, f2, f3, f4, f5⟩ := pgres hR3
 have Hset := keep (pgset hR3 (.int .i64 P.lsn) (.int .i64 P.kind) (.int .i64 P.level) (.int .i64 P.right) (.string (str P.high)) (.slice v2a L.length v2c))
 have Hbut := keep (pgbut w3 (w_.heap.size + 1) (.int .i64 P.lsn) (.int .i64 P.kind) (.int .i64 P.level) (.int .i64 P.right) (.string (str P.high)) (.slice v2a L.length v2c))
 have Hit4 := keep (itemsC_but Hit3.out Hbut.out hR3 (by decide))
 have hlt3 := hR3.lt
 have hop : outP P i = { P with items := L } := by unfold outP; rw [hit2]
 have HOp := keep hop
 clear hP3 hR3 hop hit2
 go_wp2_with fail
 rw [HOp.out]
 refine bodyPost_ret (v := .tuple #[pgV { P with items := L } (.slice v2a L.length v2c), .int .i64 0]) ?_ rfl ⟨_, rfl, Hit4.out, But.below HG3.out Hbut.out (by omega) (by omega)⟩
 obtain ⟨s0, s1, s2, s3, s4, s5, _⟩ := pgres Hset.out
 simp [results, Tryz.results114, go_sem, s0, s1, s2, s3, s4, s5, pgV]
end Go.Proofs.YtmhepfehcakmjaaGreat
namespace Go.Proofs.YtmhepfehcakmjaaGreat
open Go.RowKit
attribute [local go_sem] givesF_none givesF_some evalF_tmp evalF_const evalF_global evalF_func lookL isB_bool isB_undef givesUpon_value givesUpon_skip givesUpon_enter
def RemPost (P : Pg) (e : En) (w : World) (x : Ending) (w' : World) : Prop :=
 ∃ Q c iv, x = .returned (.tuple #[pgV Q iv, .int .i64 c]) ∧ ItemsC w' iv Q.items ∧ Below w.heap.size w w' ∧
  ((entriesOk P = true ∧ ∃ k, ∃ hk : k < (ensN P).length, (ensN P)[k] = e ∧ Q = outP P k ∧ c = 0) ∨ ((entriesOk P = false ∨ e ∉ ensN P) ∧ Q = zeroP ∧ c = 140))
set_option maxRecDepth 100000 in
set_option maxHeartbeats 4000000 in
theorem remove_any (P : Pg) (iv : Value) (e : En) (w_ : World) (hin : PgIn w_ iv P) :
  Calls Tryz.prog 83 #[pgV P iv, enV e] w_ (RemPost P e w_) := by
 have hix := fun (u : World) (v : Value) (h : EnsS u v (ensN P)) (hl : (ensN P).length ≤ 1759218604441) => index_any e (ensN P) v u h hl
 have hd : entriesOk P = (openOk P && decide (P.level = 0)) := rfl
 unfold enV at hix
 have HIx := keep hix
 have HD := keep hd
 clear hix hd
 obtain ⟨k, p, s⟩ := e
 obtain ⟨w0, hw0⟩ : ∃ w0, w0 = (((w_.alloc (.cells (pgCells P iv).toArray 24)).alloc (.cells #[.string (str k), .int .i64 p, .int .i64 s] 102)).alloc (.cells #[.int .i64 0, .int .i64 0, .int .i64 0, .int .i64 0, .string ⟨#[]⟩, .slice none 0 0] 24)) := ⟨_, rfl⟩
 have hg0 : Grow w_ w0 := by subst hw0; exact (((Grow.refl w_).alloc _).alloc _).alloc _
 have hP0 : Blk w0 w_.heap.size 24 (pgCells P iv) := by
  have := ((Blk.new w_ 24 (pgCells P iv)).alloc (.cells #[.string (str k), .int .i64 p, .int .i64 s] 102)).alloc (.cells #[.int .i64 0, .int .i64 0, .int .i64 0, .int .i64 0, .string ⟨#[]⟩, .slice none 0 0] 24)
  subst hw0; exact this
 have hE0 : Blk w0 (w_.heap.size + 1) 102 [.string (str k), .int .i64 p, .int .i64 s] := by
  have := (Blk.new (w_.alloc (.cells (pgCells P iv).toArray 24)) 102 [.string (str k), .int .i64 p, .int .i64 s]).alloc (.cells #[.int .i64 0, .int .i64 0, .int .i64 0, .int .i64 0, .string ⟨#[]⟩, .slice none 0 0] 24)
  have e : (w_.alloc (.cells (pgCells P iv).toArray 24)).heap.size = w_.heap.size + 1 := by simp
  rw [e] at this
  subst hw0; exact this
 have hR0 : Blk w0 (w_.heap.size + 2) 24 [.int .i64 0, .int .i64 0, .int .i64 0, .int .i64 0, .string ⟨#[]⟩, .slice none 0 0] := by
  have := Blk.new ((w_.alloc (.cells (pgCells P iv).toArray 24)).alloc (.cells #[.string (str k), .int .i64 p, .int .i64 s] 102)) 24 [.int .i64 0, .int .i64 0, .int .i64 0, .int .i64 0, .string ⟨#[]⟩, .slice none 0 0]
  have e : ((w_.alloc (.cells (pgCells P iv).toArray 24)).alloc (.cells #[.string (str k), .int .i64 p, .int .i64 s] 102)).heap.size = w_.heap.size + 2 := by simp
  rw [e] at this
  subst hw0; exact this
 have hop := opened_pg (hin.fits hg0)
 obtain ⟨ia, ic, rfl⟩ := items_form hin.1
 have HOp := keep hop
 have HIn := keep hin
 have HP0 := keep hP0
 have HE0 := keep hE0
 have HR0 := keep hR0
 clear hop hin hE0 hR0
 unfold pgCells at hw0 hP0
 obtain ⟨p0, p1, p2, p3, p4, p5, _⟩ := pgres hP0
 unfold pgV enV
 go_enter Tryz.func83, Tryz.ntmps83
 go_upto_region 1 with fail
 rw [← hw0]
 clear hw0
 go_wp2_with fail
 refine HOp.out.mono ?_
 rintro x w1 ⟨a1, n1, c1, a2, n2, c2, hi, bd, ok, rfl, hok, hyes, hb1⟩
 clear p0 p1 p2 p3 p4 p5 hP0
 obtain ⟨w2, hw2⟩ : ∃ w2, w2 = w1.alloc (.cells #[.slice a1 n1 c1, .slice a2 n2 c2, .string (str hi.1), .int .i64 hi.2.1, .int .i64 hi.2.2, .bool bd] 170) := ⟨_, rfl⟩
 have hg2 : Grow w0 w2 := by subst hw2; exact Grow.alloc hb1 _
 have hO2 : Blk w2 w1.heap.size 170 [.slice a1 n1 c1, .slice a2 n2 c2, .string (str hi.1), .int .i64 hi.2.1, .int .i64 hi.2.2, .bool bd] := by subst hw2; exact Blk.new w1 _ [_, _, _, _, _, _]
 have hyes2 : ok = true → EnsS w2 (.slice a1 n1 c1) (ensN P) ∧ IntsS w2 (.slice a2 n2 c2) (kidsN P) ∧ hi = hiN P ∧ bd = bdN P := fun h => ⟨by subst hw2; exact RowS.fits (hyes h).1 ((Grow.refl _).alloc _), by subst hw2; exact RowS.fits (hyes h).2.1 ((Grow.refl _).alloc _), (hyes h).2.2⟩
 have HYes := keep hyes2
 have HOk := keep hok
 have HO2 := keep hO2
 have HG2 := keep hg2
 have HGW := keep (Grow.trans hg0 hg2)
 clear hyes hyes2 hok hb1 hO2 hg2
 go_upto_region 2 with fail
 rw [← hw2]
 clear hw2
 have hP2 := HP0.out.fits HG2.out
 unfold pgCells at hP2
 obtain ⟨p0, p1, p2, p3, p4, p5, _⟩ := pgres hP2
 obtain ⟨o0, o1, o2, o3, o4, o5, _⟩ := pgres HO2.out
 have hE2 := HE0.out.fits HG2.out
 obtain ⟨e0, e1, e2, _⟩ := enres hE2
 have HIx2 := HIx.out
 try dsimp only at HIx2
 have HIx3 := keep HIx2
 clear HIx2
 have hd := HD.out
 rw [← HOk.out] at hd
 have HD2 := keep hd
 clear hd
 have hz2 := (HR0.out.fits HG2.out).lt
 cases ok with
 | false =>
  have hno : entriesOk P = false := HD2.out
  have HNo := keep hno
  clear hno
  have hR := HR0.out.fits HG2.out
  have Hset := keep (pgset hR (.int .i64 0) (.int .i64 0) (.int .i64 0) (.int .i64 0) (.string ⟨#[]⟩) (.slice none 0 0))
  have Hbut := keep (pgbut w2 (w_.heap.size + 2) (.int .i64 0) (.int .i64 0) (.int .i64 0) (.int .i64 0) (.string ⟨#[]⟩) (.slice none 0 0))
  have hlt2 := hR.lt
  obtain ⟨r0, r1, r2, r3, r4, r5, f0, f1, f2, f3, f4, f5⟩ := pgres hR
  clear hR
  go_wp2_with fail
  refine bodyPost_ret (v := .tuple #[pgV zeroP (.slice none 0 0), .int .i64 140]) ?_ rfl ⟨_, _, _, rfl, ItemsC.nil _, But.below HGW.out Hbut.out (by omega) (by omega), .inr ⟨.inl HNo.out, rfl, rfl⟩⟩
  obtain ⟨s0, s1, s2, s3, s4, s5, _⟩ := pgres Hset.out
  simp [results, Tryz.results83, go_sem, s0, s1, s2, s3, s4, s5, pgV, zeroP]
  rfl
 | true =>
  obtain ⟨hes, _, h2, h3⟩ := HYes.out rfl
  by_cases hlv : P.level = 0
  ·have hyes : entriesOk P = true := by rw [HD2.out, decide_eq_true hlv]; rfl
   have hlv2 : (P.level != 0) = false := by simp [hlv]
   have hopen : openOk P = true := HOk.out.symm
   have hl255 := (open_fine hopen).1
   have hix := HIx3.out w2 _ hes (by rw [ensN_length]; omega)
   have HIx4 := keep hix
   have HYs := keep hyes
   have hlen := ensN_length P
   have HI2 := keep (Row.fits HIn.out.1 HGW.out : Items w2 (.slice ia P.items.length ic) P.items)
   clear hlv hes h2 h3 hyes hix hopen
   go_wp2_with fail
   refine HIx4.out.mono ?_
   rintro x w3 ⟨j, rfl, hj, hb3⟩
   have hE3 := hE2.fits hb3
   have hP3 := (HP0.out.fits HG2.out).fits hb3
   have HR3 := keep ((HR0.out.fits HG2.out).fits hb3)
   have HGW3 := keep (Grow.trans HGW.out hb3)
   have HI3 := keep (Row.fits HI2.out hb3 : Items w3 (.slice ia P.items.length ic) P.items)
   have hz3 := HR3.out.lt
   clear p0 p1 p2 p3 p4 p5 o0 o1 o2 o3 o4 o5 e0 e1 e2 hP2 hE2 hb3
   rcases hj with ⟨rfl, hm⟩ | ⟨j, rfl, hj, he⟩
   ·have HM := keep hm
    clear hm
    have hR := HR3.out
    have Hset := keep (pgset hR (.int .i64 0) (.int .i64 0) (.int .i64 0) (.int .i64 0) (.string ⟨#[]⟩) (.slice none 0 0))
    have Hbut := keep (pgbut w3 (w_.heap.size + 2) (.int .i64 0) (.int .i64 0) (.int .i64 0) (.int .i64 0) (.string ⟨#[]⟩) (.slice none 0 0))
    have hlt2 := hR.lt
    obtain ⟨r0, r1, r2, r3, r4, r5, f0, f1, f2, f3, f4, f5⟩ := pgres hR
    clear hR
    go_wp2_with fail
    refine bodyPost_ret (v := .tuple #[pgV zeroP (.slice none 0 0), .int .i64 140]) ?_ rfl ⟨_, _, _, rfl, ItemsC.nil _, But.below HGW3.out Hbut.out (by omega) (by omega), .inr ⟨.inr HM.out, rfl, rfl⟩⟩
    obtain ⟨s0, s1, s2, s3, s4, s5, _⟩ := pgres Hset.out
    simp [results, Tryz.results83, go_sem, s0, s1, s2, s3, s4, s5, pgV, zeroP]
    rfl
   ·have hout := out_any P (.slice ia P.items.length ic) j w3 HI3.out (by omega) (by omega)
    have HOut := keep hout
    have HE := keep he
    have hj0 : ¬ (j : Int) < 0 := by omega
    unfold pgCells at hP3
    obtain ⟨p0, p1, p2, p3, p4, p5, _⟩ := pgres hP3
    clear hout he hP3
    unfold PgPost pgV at HOut
    go_wp2_with fail
    refine HOut.out.mono ?_
    rintro x w4 ⟨iv4, rfl, hi4, hb4⟩
    generalize hQ : outP P j = Q at *
    have HQ := keep hQ
    obtain ⟨qa, qc, rfl⟩ := itemsS_form hi4.1
    have hR4 := HR3.out.fits hb4
    have Hset := keep (pgset hR4 (.int .i64 Q.lsn) (.int .i64 Q.kind) (.int .i64 Q.level) (.int .i64 Q.right) (.string (str Q.high)) (.slice qa Q.items.length qc))
    have Hbut := keep (pgbut w4 (w_.heap.size + 2) (.int .i64 Q.lsn) (.int .i64 Q.kind) (.int .i64 Q.level) (.int .i64 Q.right) (.string (str Q.high)) (.slice qa Q.items.length qc))
    have Hit := keep (itemsC_but hi4 Hbut.out hR4 (by decide))
    have HG4 := keep (Grow.trans HGW3.out hb4)
    have hz4 := hR4.lt
    obtain ⟨r0, r1, r2, r3, r4, r5, f0, f1, f2, f3, f4, f5⟩ := pgres hR4
    clear hQ hi4 hR4 hb4 p0 p1 p2 p3 p4 p5
    go_wp2_with fail
    refine bodyPost_ret (v := .tuple #[pgV Q (.slice qa Q.items.length qc), .int .i64 0]) ?_ rfl ⟨_, _, _, rfl, Hit.out, But.below HG4.out Hbut.out (by omega) (by omega), .inl ⟨HYs.out, j, hj, HE.out, HQ.out.symm, rfl⟩⟩
    obtain ⟨s0, s1, s2, s3, s4, s5, _⟩ := pgres Hset.out
    simp [results, Tryz.results83, go_sem, s0, s1, s2, s3, s4, s5, pgV]
  ·have hno : entriesOk P = false := by rw [HD2.out, decide_eq_false hlv]; rfl
   have hlv2 : (P.level != 0) = true := by simp [hlv]
   have HNo := keep hno
   clear hlv hno hes h2 h3
   have hR := HR0.out.fits HG2.out
   have Hset := keep (pgset hR (.int .i64 0) (.int .i64 0) (.int .i64 0) (.int .i64 0) (.string ⟨#[]⟩) (.slice none 0 0))
   have Hbut := keep (pgbut w2 (w_.heap.size + 2) (.int .i64 0) (.int .i64 0) (.int .i64 0) (.int .i64 0) (.string ⟨#[]⟩) (.slice none 0 0))
   have hlt2 := hR.lt
   obtain ⟨r0, r1, r2, r3, r4, r5, f0, f1, f2, f3, f4, f5⟩ := pgres hR
   clear hR
   go_wp2_with fail
   refine bodyPost_ret (v := .tuple #[pgV zeroP (.slice none 0 0), .int .i64 140]) ?_ rfl ⟨_, _, _, rfl, ItemsC.nil _, But.below HGW.out Hbut.out (by omega) (by omega), .inr ⟨.inl HNo.out, rfl, rfl⟩⟩
   obtain ⟨s0, s1, s2, s3, s4, s5, _⟩ := pgres Hset.out
   simp [results, Tryz.results83, go_sem, s0, s1, s2, s3, s4, s5, pgV, zeroP]
   rfl
end Go.Proofs.YtmhepfehcakmjaaGreat
namespace Go.Proofs.YtmhepfehcakmjaaGreat
open Go.RowKit
theorem sorted_inj {l : List En} (h : Sorted l) {i j : Nat} (hi : i < l.length) (hj : j < l.length) (he : l[i] = l[j]) : i = j := by
 rcases Nat.lt_trichotomy i j with h1 | h1 | h1
 ·have := h.at hi hj h1
  rw [he, cmpE_self] at this
  omega
 ·exact h1
 ·have := h.at hj hi h1
  rw [he, cmpE_self] at this
  omega
end Go.Proofs.YtmhepfehcakmjaaGreat
namespace Go.Proofs.YtmhepfehcakmjaaGreat
open Go.RowKit
attribute [local go_sem] givesV lookV knAt givesF_none givesF_some evalF_tmp evalF_const evalF_global evalF_func lookL isB_bool isB_undef givesUpon_value givesUpon_skip givesUpon_enter
structure Put2 (r1 r2 t : Nat) (vs1 vs2 : List Value) (u v : World) : Prop where
 os : v.os = u.os
 tape : v.tape = u.tape
 output : v.output = u.output
 size : u.heap.size ≤ v.heap.size
 block : ∀ k, k < u.heap.size → k ≠ r1 → k ≠ r2 → v.heap[k]? = u.heap[k]?
 six1 : (∃ a0 a1 a2 a3 a4 a5, Blk u r1 t [a0, a1, a2, a3, a4, a5]) → ∃ a0 a1 a2 a3 a4 a5, Blk v r1 t [a0, a1, a2, a3, a4, a5]
 six2 : (∃ a0 a1 a2 a3 a4 a5, Blk u r2 t [a0, a1, a2, a3, a4, a5]) → ∃ a0 a1 a2 a3 a4 a5, Blk v r2 t [a0, a1, a2, a3, a4, a5]
 vs1 : Blk u r1 t vs1 → Blk v r1 t vs1
 vs2 : Blk u r2 t vs2 → Blk v r2 t vs2
theorem Put2.refl {r1 r2 t : Nat} {vs1 vs2 : List Value} (u : World) : Put2 r1 r2 t vs1 vs2 u u := ⟨rfl, rfl, rfl, Nat.le_refl _, fun _ _ _ _ => rfl, id, id, id, id⟩
theorem Put2.trans {r1 r2 t : Nat} {vs1 vs2 : List Value} {u v w : World} (h : Put2 r1 r2 t vs1 vs2 u v) (k : Put2 r1 r2 t vs1 vs2 v w) : Put2 r1 r2 t vs1 vs2 u w :=
 ⟨k.os.trans h.os, k.tape.trans h.tape, k.output.trans h.output, Nat.le_trans h.size k.size, fun i hi h1 h2 => (k.block i (Nat.lt_of_lt_of_le hi h.size) h1 h2).trans (h.block i hi h1 h2), fun x => k.six1 (h.six1 x), fun x => k.six2 (h.six2 x), fun x => k.vs1 (h.vs1 x), fun x => k.vs2 (h.vs2 x)⟩
theorem Put2.undrew {r1 r2 t : Nat} {vs1 vs2 : List Value} {u v : World} (h : Put2 r1 r2 t vs1 vs2 u.drew v) : Put2 r1 r2 t vs1 vs2 u v := ⟨h.os, h.tape, h.output, h.size, h.block, h.six1, h.six2, h.vs1, h.vs2⟩
theorem Put2.blk {r1 r2 t : Nat} {vs1 vs2 : List Value} {u v : World} (h : Put2 r1 r2 t vs1 vs2 u v) {b e : Nat} {cs : List Value} (hb : Blk u b e cs) (h1 : b ≠ r1) (h2 : b ≠ r2) : Blk v b e cs := by
 have := hb.lt; unfold Blk at *; rw [h.block _ this h1 h2]; exact hb
theorem Put2.below {r1 r2 t B : Nat} {vs1 vs2 : List Value} {z u v : World} (h : Put2 r1 r2 t vs1 vs2 u v) (hz : Below B z u) (h1 : B ≤ r1) (h2 : B ≤ r2) (hB : B ≤ u.heap.size) : Below B z v :=
 ⟨h.os.trans hz.os, h.tape.trans hz.tape, h.output.trans hz.output, Nat.le_trans hz.size h.size, fun k hk => (h.block k (by omega) (by omega) (by omega)).trans (hz.block k hk)⟩
theorem Put2.row {r1 r2 t e n : Nat} {vs1 vs2 cs : List Value} {u v : World} {x : Value} (h : Put2 r1 r2 t vs1 vs2 u v) (hr : RowS u e x n cs) (h1 : ∃ cs1, Blk u r1 t cs1) (h2 : ∃ cs2, Blk u r2 t cs2) (he : e ≠ t) : RowS v e x n cs :=
 hr.move fun c blk f hc => by
  obtain ⟨cs1, h1⟩ := h1
  obtain ⟨cs2, h2⟩ := h2
  rw [h.block c (lt_of_block hc) ?_ ?_]
  ·exact hc
  ·rintro rfl
   unfold Blk at h1
   rw [h1] at hc
   simp at hc
   exact he hc.2.1.symm
  ·rintro rfl
   unfold Blk at h2
   rw [h2] at hc
   simp at hc
   exact he hc.2.1.symm
end Go.Proofs.YtmhepfehcakmjaaGreat
namespace Go.Proofs.YtmhepfehcakmjaaGreat
open Go.RowKit
attribute [local go_sem] givesV lookV knAt givesF_none givesF_some evalF_tmp evalF_const evalF_global evalF_func lookL isB_bool isB_undef givesUpon_value givesUpon_skip givesUpon_enter
end Go.Proofs.YtmhepfehcakmjaaGreat
namespace Go.Proofs.YtmhepfehcakmjaaGreat
open Go.RowKit
attribute [local go_sem] givesF_none givesF_some evalF_tmp evalF_const evalF_global evalF_func lookL isB_bool isB_undef givesUpon_value givesUpon_skip givesUpon_enter
end Go.Proofs.YtmhepfehcakmjaaGreat
namespace Go.Proofs.YtmhepfehcakmjaaGreat
open Go.RowKit
attribute [local simp] eql_entry
attribute [local go_sem] guard_entry
end Go.Proofs.YtmhepfehcakmjaaGreat
namespace Go.Proofs.YtmhepfehcakmjaaGreat
open Go.RowKit
attribute [local go_sem] givesV lookV knAt givesF_none givesF_some evalF_tmp evalF_const evalF_global evalF_func lookL isB_bool isB_undef givesUpon_value givesUpon_skip givesUpon_enter
end Go.Proofs.YtmhepfehcakmjaaGreat
namespace Go.Proofs.YtmhepfehcakmjaaGreat
open Go.RowKit
attribute [local go_sem] givesF_none givesF_some evalF_tmp evalF_const evalF_global evalF_func lookL isB_bool isB_undef givesUpon_value givesUpon_skip givesUpon_enter
end Go.Proofs.YtmhepfehcakmjaaGreat
