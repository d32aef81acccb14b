import Derived.Test.YtcdapdcablnhpaaGreatKBs1
import Derived.Test.YtcdapdcablnhpaaGreatKPt1
import Derived.Test.YtcdapdcablnhpaaGreatKLexn
import Derived.Deep.CutRange
import Derived.Test.YtcdapdcablnhpaaGreatKOwn2
import Derived.BigQuiet
namespace Go.Proofs.YtcdapdcablnhpaaGreat
open Go.RowKit
attribute [local go_sem] hgs
def beyN (bd : Bool) (hi e : En) : Bool := bd && decide (0 < cmpE e hi)
theorem beyond_any (a1 a2 : Option Addr) (n1 c1 n2 c2 : Nat) (hi e : En) (bd : Bool) (w_ : World) :
  Calls Tryz.prog 82 #[.agg #[.slice a1 n1 c1, .slice a2 n2 c2, .string (str hi.1), .int .i64 hi.2.1, .int .i64 hi.2.2, .bool bd], enV e] w_ fun x w' => x = .returned (.bool (beyN bd hi e)) /\ Below w_.heap.size w_ w' := by
 have hcp := fun u => compare_any e hi u
 have hd : beyN bd hi e = (bd && decide (0 < cmpE e hi)) := rfl;rw [hd];clear hd;generalize cmpE e hi = F at *;obtain ⟨hk, hp, hs⟩ := hi;obtain ⟨k, p, s⟩ := e;unfold enV at *;dsimp only at *;obtain ⟨w0, hw0⟩ : ∃ w0, w0 = (w_.alloc (.cells #[.slice a1 n1 c1, .slice a2 n2 c2, .string (str hk), .int .i64 hp, .int .i64 hs, .bool bd] 151)).alloc (.cells #[.string (str k), .int .i64 p, .int .i64 s] 103) := ⟨_, rfl⟩;have hg0 : Grow w_ w0 := by subst hw0; exact ((Grow.refl w_).alloc _).alloc _
 have hO0 : Blk w0 w_.heap.size 151 [.slice a1 n1 c1, .slice a2 n2 c2, .string (str hk), .int .i64 hp, .int .i64 hs, .bool bd] := by subst hw0; exact (Blk.new w_ _ [_, _, _, _, _, _]).alloc _
 have hE0 : Blk w0 (w_.heap.size + 1) 103 [.string (str k), .int .i64 p, .int .i64 s] := by
  have := Blk.new (w_.alloc (.cells #[.slice a1 n1 c1, .slice a2 n2 c2, .string (str hk), .int .i64 hp, .int .i64 hs, .bool bd] 151)) 103 [.string (str k), .int .i64 p, .int .i64 s];have e : (w_.alloc (.cells #[.slice a1 n1 c1, .slice a2 n2 c2, .string (str hk), .int .i64 hp, .int .i64 hs, .bool bd] 151)).heap.size = w_.heap.size + 1 := by simp
  rw [e] at this;subst hw0; exact this
 obtain ⟨o0, o1, o2, o3, o4, o5, _⟩ := pgres hO0;obtain ⟨e0, e1, e2, _⟩ := enres hE0;have HCp := keep hcp;clear hcp hO0 hE0;go_enter Tryz.func82, Tryz.ntmps82;go_upto_region 1 with fail;rw [<- hw0];clear hw0;cases bd with
 | false =>
  go_wp2_with fail;go_ret;exact ⟨rfl, hg0⟩
 | true =>
  go_wp2_with fail;refine (HCp.out w0).mono ?_;rintro x w1 ⟨rfl, hb1⟩;go_wp2_with fail;go_ret;exact ⟨rfl, Grow.trans hg0 hb1⟩
def leafP : Pg := ⟨0, 3, 0, 0, [], []⟩
set_option maxRecDepth 100000 in
set_option maxHeartbeats 1000000 in
theorem leaf_any (w_ : World) : Calls Tryz.prog 40 #[] w_ fun x w' => x = .returned (pgV leafP (.slice none 0 0)) /\ Below w_.heap.size w_ w' := by
 obtain ⟨w0, hw0⟩ : ∃ w0, w0 = w_.alloc (.cells #[.int .i64 0, .int .i64 0, .int .i64 0, .int .i64 0, .string ⟨#[]⟩, .slice none 0 0] 28) := ⟨_, rfl⟩;have hg0 : Grow w_ w0 := by subst hw0; exact (Grow.refl w_).alloc _
 have hR : Blk w0 w_.heap.size 28 [.int .i64 0, .int .i64 0, .int .i64 0, .int .i64 0, .string ⟨#[]⟩, .slice none 0 0] := by subst hw0; exact Blk.new w_ _ [_, _, _, _, _, _]
 have hlt := hR.lt;obtain ⟨r0, r1, r2, r3, r4, r5, f0, f1, f2, f3, f4, f5⟩ := pgres hR;have Hset := keep (pgset hR (.int .i64 0) (.int .i64 3) (.int .i64 0) (.int .i64 0) (.string ⟨#[]⟩) (.slice none 0 0));have Hbut := keep (pgbut w0 w_.heap.size (.int .i64 0) (.int .i64 3) (.int .i64 0) (.int .i64 0) (.string ⟨#[]⟩) (.slice none 0 0));clear hR;go_enter Tryz.func40, Tryz.ntmps40;go_upto_region 1 with fail;rw [<- hw0];clear hw0;go_wp2_with fail;refine bodyPost_ret (v := pgV leafP (.slice none 0 0)) ?_ rfl ⟨rfl, But.below hg0 Hbut.out (Nat.le_refl _) (Nat.le_of_lt hlt)⟩;obtain ⟨s0, s1, s2, s3, s4, s5, _⟩ := pgres Hset.out;simp [results, Tryz.results40, go_sem, s0, s1, s2, s3, s4, s5, pgV, leafP]
 try rfl
theorem okTo_at {lv : Int} {hi : En} {bd : Bool} {items : List (List UInt8)} {n : Nat} (h : okTo lv hi bd items n = true) : ∀ k, k < n -> roundOk lv hi bd k (itemN lv (items.getD (k - 1) [])) (itemN lv (items.getD k [])) = true := by
 induction n with
 | zero => intro k hk; omega
 | succ n ih =>
  rw [okTo, Bool.and_eq_true] at h;intro k hk
  by_cases e : k = n
  ·rw [e]; exact h.2
  ·exact ih h.1 k (by omega)
theorem round_lt {lv : Int} {hi : En} {bd : Bool} {k : Nat} {pr x : En × Int × Int} (h : roundOk lv hi bd k pr x = true) (hk : k ≠ 0) : cmpE pr.1 x.1 = -1 := by
 simp only [roundOk, Bool.and_eq_true] at h;have := h.2.2.1;rw [decide_eq_false hk, Bool.false_or, decide_eq_true_eq] at this;exact (cmp_neg_iff _ _).1 this
theorem ens_sorted {P : Pg} (h : okTo P.level (hiN P) (bdN P) P.items P.items.length = true) : Sorted (ensN P) := by
 have hlen : (ensN P).length = P.items.length := ensTo_length _ _ _ (Nat.le_refl _);have hat : ∀ i (hi : i < (ensN P).length), (ensN P)[i] = (itemN P.level (P.items.getD i [])).1 := by
  intro i hi;simp [ensN, ensTo, hlen ▸ hi]
 have step : ∀ i (hi : i + 1 < (ensN P).length), cmpE (ensN P)[i] (ensN P)[i + 1] = -1 := by
  intro i hi;rw [hat, hat];have := round_lt (okTo_at h (i + 1) (by omega)) (by omega)
  rwa [show i + 1 - 1 = i by omega] at this
 unfold Sorted;rw [List.pairwise_iff_getElem];intro i j hi hj hij;obtain ⟨d, rfl⟩ : ∃ d, j = i + 1 + d := ⟨j - (i + 1), by omega⟩
 induction d with
 | zero => exact step i hj
 | succ d ih =>
  have h1 := ih (by omega) (by omega);exact cmpE_trans h1 (step (i + 1 + d) (by omega))
theorem open_sorted {P : Pg} (h : openOk P = true) : Sorted (ensN P) := by
 unfold openOk at h;simp only [Bool.and_eq_true] at h;exact ens_sorted h.2.1
theorem open_fine {P : Pg} (h : openOk P = true) : P.items.length <= 255 /\ P.high.length <= 255 /\ (∀ x ∈ P.items, x.length <= 512) /\ 0 <= P.level /\ P.level <= 255 /\ 0 <= P.right := by
 unfold openOk headOk at h;simp only [Bool.and_eq_true] at h;exact encOk_fine h.1.1.1
theorem ensN_length (P : Pg) : (ensN P).length = P.items.length := ensTo_length _ _ _ (Nat.le_refl _)
theorem posE_le (l : List En) (t : En) : posE l t <= l.length := List.countP_le_length
end Go.Proofs.YtcdapdcablnhpaaGreat
namespace Go.Proofs.YtcdapdcablnhpaaGreat
open Go.RowKit
attribute [local go_sem] givesV lookV knAt hgs
def insN (P : Pg) (e : En) : Pg × Int :=
 if openOk P && (decide (P.level = 0) && (enOk e && !beyN (bdN P) (hiN P) e)) then (if decide (e ∈ ensN P) then (zeroP, 140) else putN P (posE (ensN P) e) (enBytes e [])) else (zeroP, 140)
def PgIn (w : World) (iv : Value) (P : Pg) : Prop :=
 Items w iv P.items /\ (∀ x ∈ P.items, (x.length : Int) <= 140737488355328) /\ (P.high.length : Int) <= 140737488355328 /\ (P.items.length : Int) <= 140737488355328 /\ P.lsn <= 9223372036854775807
theorem PgIn.fits {w w' : World} {iv : Value} {P : Pg} (h : PgIn w iv P) (g : Grow w w') : PgIn w' iv P := ⟨Row.fits h.1 g, h.2⟩
theorem opened_pg {w : World} {iv : Value} {P : Pg} (h : PgIn w iv P) : Calls Tryz.prog 80 #[pgV P iv] w (OpenPost P w) := opened_any P iv w h.1 h.2.1 h.2.2.1 h.2.2.2.1 h.2.2.2.2
theorem enBytes_length (e : En) (h : enOk e = true) : (enBytes e []).length <= 60 := by
 have := (enOk_fine h).1;have h1 := sev_length e.1.length;have h2 := sevs_length [e.2.1, e.2.2];simp [enBytes, txt, sevs] at *;omega
set_option maxRecDepth 100000 in
set_option maxHeartbeats 4000000 in
theorem insert_any (P : Pg) (iv : Value) (e : En) (w_ : World) (hin : PgIn w_ iv P) :
  Calls Tryz.prog 42 #[pgV P iv, enV e] w_ (PgPost (insN P e).1 (insN P e).2 w_) := by
 obtain ⟨k, p, s⟩ := e;obtain ⟨w0, hw0⟩ : ∃ w0, w0 = (((w_.alloc (.cells (pgCells P iv).toArray 28)).alloc (.cells #[.string (str k), .int .i64 p, .int .i64 s] 103)).alloc (.cells #[.int .i64 0, .int .i64 0, .int .i64 0, .int .i64 0, .string ⟨#[]⟩, .slice none 0 0] 28)) := ⟨_, rfl⟩;have hg0 : Grow w_ w0 := by subst hw0; exact (((Grow.refl w_).alloc _).alloc _).alloc _
 have hP0 : Blk w0 w_.heap.size 28 (pgCells P iv) := by
  have := ((Blk.new w_ 28 (pgCells P iv)).alloc (.cells #[.string (str k), .int .i64 p, .int .i64 s] 103)).alloc (.cells #[.int .i64 0, .int .i64 0, .int .i64 0, .int .i64 0, .string ⟨#[]⟩, .slice none 0 0] 28);subst hw0; exact this
 have hE0 : Blk w0 (w_.heap.size + 1) 103 [.string (str k), .int .i64 p, .int .i64 s] := by
  have := (Blk.new (w_.alloc (.cells (pgCells P iv).toArray 28)) 103 [.string (str k), .int .i64 p, .int .i64 s]).alloc (.cells #[.int .i64 0, .int .i64 0, .int .i64 0, .int .i64 0, .string ⟨#[]⟩, .slice none 0 0] 28);have e : (w_.alloc (.cells (pgCells P iv).toArray 28)).heap.size = w_.heap.size + 1 := by simp
  rw [e] at this;subst hw0; exact this
 have hR0 : Blk w0 (w_.heap.size + 2) 28 [.int .i64 0, .int .i64 0, .int .i64 0, .int .i64 0, .string ⟨#[]⟩, .slice none 0 0] := by
  have := Blk.new ((w_.alloc (.cells (pgCells P iv).toArray 28)).alloc (.cells #[.string (str k), .int .i64 p, .int .i64 s] 103)) 28 [.int .i64 0, .int .i64 0, .int .i64 0, .int .i64 0, .string ⟨#[]⟩, .slice none 0 0];have e : ((w_.alloc (.cells (pgCells P iv).toArray 28)).alloc (.cells #[.string (str k), .int .i64 p, .int .i64 s] 103)).heap.size = w_.heap.size + 2 := by simp
  rw [e] at this;subst hw0; exact this
 have hzR := hR0.lt;have hop := opened_pg (hin.fits hg0);obtain ⟨ia, ic, rfl⟩ := items_form hin.1;have hie := fun u => isEntry_any (k, p, s) u
 have hbe := fun (a1 a2 : Option Addr) (n1 c1 n2 c2 : Nat) (hi : En) (bd : Bool) (u : World) => beyond_any a1 a2 n1 c1 n2 c2 hi (k, p, s) bd u
 have hse := fun (l : List En) (v : Value) (u : World) (h : EnsS u v l) (hl : l.length <= 1759218604441) (hs : Sorted l) => search_any (k, p, s) l v u h hl hs
 have hby := fun (u : World) (h : enOk (k, p, s) = true) => bytes_any (k, p, s) (.slice none 0 0) [] u (enOk_fine h) (none_ints u) (by simp) (by simp)
 have hd : insN P (k, p, s) = if openOk P && (decide (P.level = 0) && (enOk (k, p, s) && !beyN (bdN P) (hiN P) (k, p, s))) then (if decide ((k, p, s) ∈ ensN P) then (zeroP, 140) else putN P (posE (ensN P) (k, p, s)) (enBytes (k, p, s) [])) else (zeroP, 140) := rfl
 unfold enV at hie hbe hse hby;dsimp only at hie hbe hse hby;have HOp := keep hop;have HIe := keep hie;have HBe := keep hbe;have HSe := keep hse;have HBy := keep hby;have HD := keep hd;have HIn := keep hin;have HP0 := keep hP0;have HE0 := keep hE0;have HR0 := keep hR0;clear hop hie hbe hse hby hd hin hE0 hR0;unfold pgCells at hw0 hP0;obtain ⟨p0, p1, p2, p3, p4, p5, _⟩ := pgres hP0;unfold pgV enV;go_enter Tryz.func42, Tryz.ntmps42;go_upto_region 1 with fail;rw [<- hw0];clear hw0;go_wp2_with fail;refine HOp.out.mono ?_;rintro x w1 ⟨a1, n1, c1, a2, n2, c2, hi, bd, ok, rfl, hok, hyes, hb1⟩;clear p0 p1 p2 p3 p4 p5 hP0;obtain ⟨w2, hw2⟩ : ∃ w2, w2 = w1.alloc (.cells #[.slice a1 n1 c1, .slice a2 n2 c2, .string (str hi.1), .int .i64 hi.2.1, .int .i64 hi.2.2, .bool bd] 151) := ⟨_, rfl⟩;have hg2 : Grow w0 w2 := by subst hw2; exact Grow.alloc hb1 _
 have hO2 : Blk w2 w1.heap.size 151 [.slice a1 n1 c1, .slice a2 n2 c2, .string (str hi.1), .int .i64 hi.2.1, .int .i64 hi.2.2, .bool bd] := by subst hw2; exact Blk.new w1 _ [_, _, _, _, _, _]
 have hyes2 : ok = true -> EnsS w2 (.slice a1 n1 c1) (ensN P) /\ hi = hiN P /\ bd = bdN P := fun h => ⟨by subst hw2; exact RowS.fits (hyes h).1 ((Grow.refl _).alloc _), (hyes h).2.2⟩
 have HYes := keep hyes2;have HOk := keep hok;have HO2 := keep hO2;have HG2 := keep hg2;clear hyes hyes2 hok hb1 hO2 hg2;go_upto_region 2 with fail;rw [<- hw2];clear hw2;have hP2 := HP0.out.fits HG2.out;have hE2 := HE0.out.fits HG2.out;unfold pgCells at hP2;obtain ⟨p0, p1, p2, p3, p4, p5, _⟩ := pgres hP2;obtain ⟨e0, e1, e2, _⟩ := enres hE2;obtain ⟨o0, o1, o2, o3, o4, o5, _⟩ := pgres HO2.out;go_cut [31] from 15 to 31 (fun sv wx => sv = .bool (!(ok && (decide (P.level = 0) && (enOk (k, p, s) && !beyN bd hi (k, p, s))))) /\ Grow w2 wx)
 case first =>
  cases ok with
  | false =>
   go_wp2_with fail
   all_goals go_meet
   all_goals (case rel => exact ⟨rfl, Grow.refl _⟩)
  | true =>
   by_cases hlv : P.level = 0
   ·have hlv2 : (P.level != 0) = false := by simp [hlv]
    have HLv := keep hlv;clear hlv;generalize enOk (k, p, s) = A at *;go_wp2_with fail;refine (HIe.out w2).mono ?_;rintro x w3 ⟨rfl, hb3⟩;cases A with
    | false =>
     go_wp2_with fail
     all_goals go_meet
     all_goals (case rel => exact ⟨by simp, hb3⟩)
    | true =>
     have hE3 := hE2.fits hb3;have hO3 := HO2.out.fits hb3;clear e0 e1 e2 o0 o1 o2 o3 o4 o5;obtain ⟨e0, e1, e2, _⟩ := enres hE3;obtain ⟨o0, o1, o2, o3, o4, o5, _⟩ := pgres hO3;have hbe := HBe.out a1 a2 n1 c1 n2 c2 hi bd w3;generalize beyN bd hi (k, p, s) = B at *;have HB := keep hbe;clear hE3 hO3 hbe;go_wp2_with fail;refine HB.out.mono ?_;rintro x w4 ⟨rfl, hb4⟩;go_wp2_with fail
     all_goals go_meet
     all_goals (case rel => exact ⟨by simp [HLv.out], Grow.trans hb3 hb4⟩)
   ·have hlv2 : (P.level != 0) = true := by simp [hlv]
    have HLv := keep hlv;clear hlv;go_wp2_with fail
    all_goals go_meet
    all_goals (case rel => exact ⟨by simp [HLv.out], Grow.refl _⟩)
 case rest =>
  obtain ⟨rfl, hg3⟩ := hcut;clear p0 p1 p2 p3 p4 p5 e0 e1 e2 o0 o1 o2 o3 o4 o5 hP2 hE2;generalize wc = w3 at *;have HG3 := keep (Grow.trans HG2.out hg3);have HGW := keep (Grow.trans hg0 HG3.out);generalize hM : (ok && (decide (P.level = 0) && (enOk (k, p, s) && !beyN bd hi (k, p, s)))) = M;cases M with
  | false =>
   have hno : insN P (k, p, s) = (zeroP, 140) := by
    rw [HD.out, <- HOk.out];cases ok with
    | false => rfl
    | true =>
     obtain ⟨_, h2, h3⟩ := HYes.out rfl;rw [<- h2, <- h3, hM]
     rfl
   have HNo := keep hno;clear hM hno hg3;have hR := HR0.out.fits HG3.out;have Hset := keep (pgset hR (.int .i64 0) (.int .i64 0) (.int .i64 0) (.int .i64 0) (.string ⟨#[]⟩) (.slice none 0 0));have Hbut := keep (pgbut w3 (w_.heap.size + 2) (.int .i64 0) (.int .i64 0) (.int .i64 0) (.int .i64 0) (.string ⟨#[]⟩) (.slice none 0 0));have hlt2 := hR.lt;obtain ⟨r0, r1, r2, r3, r4, r5, f0, f1, f2, f3, f4, f5⟩ := pgres hR;clear hR;go_wp2_with fail;rw [HNo.out];refine bodyPost_ret (v := .tuple #[pgV zeroP (.slice none 0 0), .int .i64 140]) ?_ rfl ⟨_, rfl, ItemsC.nil _, But.below HGW.out Hbut.out (by omega) (by omega)⟩;obtain ⟨s0, s1, s2, s3, s4, s5, _⟩ := pgres Hset.out;simp [results, Tryz.results42, go_sem, s0, s1, s2, s3, s4, s5, pgV, zeroP]
   rfl
  | true =>
   have hm : ok = true /\ P.level = 0 /\ enOk (k, p, s) = true /\ beyN bd hi (k, p, s) = false := by simpa [and_assoc] using hM
   obtain ⟨rfl, hlv, hen, hbe⟩ := hm;obtain ⟨hes, rfl, rfl⟩ := HYes.out rfl;have hes3 : EnsS w3 (.slice a1 n1 c1) (ensN P) := RowS.fits hes hg3;have hopen : openOk P = true := HOk.out.symm;have hd2 : insN P (k, p, s) = if decide ((k, p, s) ∈ ensN P) then (zeroP, 140) else putN P (posE (ensN P) (k, p, s)) (enBytes (k, p, s) []) := by
    rw [HD.out, hopen, hM.symm.trans (by rfl)];simp [hlv, hen, hbe]
   have hsc := HSe.out (ensN P) (.slice a1 n1 c1) w3 hes3 (by rw [ensN_length]; have := (open_fine hopen).1; omega) (open_sorted hopen);have hE3 := HE0.out.fits HG3.out;have hO3 := HO2.out.fits hg3;obtain ⟨e0, e1, e2, _⟩ := enres hE3;obtain ⟨o0, o1, o2, o3, o4, o5, _⟩ := pgres hO3;have HSc := keep hsc;have HD2 := keep hd2;have HEn := keep hen;have HOpen := keep hopen;clear hM hlv hen hbe hes hes3 hopen hd2 hsc hg3 hE3 hO3;go_wp2_with fail;refine HSc.out.mono ?_;rintro x w4 ⟨rfl, hb4⟩;clear e0 e1 e2 o0 o1 o2 o3 o4 o5;have HG4 := keep (Grow.trans HG3.out hb4);have HGW4 := keep (Grow.trans HGW.out hb4);clear hb4;have hd3 := HD2.out;generalize decide ((k, p, s) ∈ ensN P) = F at *;cases F with
   | true =>
    have hno : insN P (k, p, s) = (zeroP, 140) := hd3;have HNo := keep hno;clear hno hd3;have hR := HR0.out.fits HG4.out;have Hset := keep (pgset hR (.int .i64 0) (.int .i64 0) (.int .i64 0) (.int .i64 0) (.string ⟨#[]⟩) (.slice none 0 0));have Hbut := keep (pgbut w4 (w_.heap.size + 2) (.int .i64 0) (.int .i64 0) (.int .i64 0) (.int .i64 0) (.string ⟨#[]⟩) (.slice none 0 0));have hlt2 := hR.lt;obtain ⟨r0, r1, r2, r3, r4, r5, f0, f1, f2, f3, f4, f5⟩ := pgres hR;clear hR;go_wp2_with fail;rw [HNo.out];refine bodyPost_ret (v := .tuple #[pgV zeroP (.slice none 0 0), .int .i64 140]) ?_ rfl ⟨_, rfl, ItemsC.nil _, But.below HGW4.out Hbut.out (by omega) (by omega)⟩;obtain ⟨s0, s1, s2, s3, s4, s5, _⟩ := pgres Hset.out;simp [results, Tryz.results42, go_sem, s0, s1, s2, s3, s4, s5, pgV, zeroP]
    rfl
   | false =>
    have hd4 : insN P (k, p, s) = putN P (posE (ensN P) (k, p, s)) (enBytes (k, p, s) []) := hd3;clear hd3 HD HD2;have hpu := fun (u : World) (hi : Items u (.slice ia P.items.length ic) P.items) => put_any P (.slice ia P.items.length ic) (posE (ensN P) (k, p, s)) (enBytes (k, p, s) []) u hi (by rw [<- ensN_length]; exact posE_le _ _) HIn.out.2.1 (by have := enBytes_length _ HEn.out; omega) HIn.out.2.2.1 (by have := (open_fine HOpen.out).1; omega)
    generalize putN P (posE (ensN P) (k, p, s)) (enBytes (k, p, s) []) = R at *;obtain ⟨Q, cd⟩ := R;dsimp only at hpu;unfold PgPost at hpu;have HPu := keep hpu;have HD4 := keep hd4;clear hd4;have HBy2 := keep (fun u => HBy.out u HEn.out);have HP7 := keep (fun (u : World) (hu : Grow w4.drew u) => Blk.fits (Blk.drew (HP0.out.fits HG4.out)) hu);have HE7 := keep (fun (u : World) (hu : Grow w4.drew u) => Blk.fits (Blk.drew (HE0.out.fits HG4.out)) hu);have HI7 := keep (fun (u : World) (hu : Grow w4.drew u) => (Row.fits HIn.out.1 (Grow.trans HGW4.out (Grow.undrew hu)) : Items u _ P.items));have HR4 := keep (HR0.out.fits HG4.out);clear hpu;go_upto_region 7 with fail;refine rgv 7 (by kernel_rfl) (by kernel_rfl) rfl rfl ?_;intro a0 ha0;have hsz : a0.tmps.size = 49 := (size_at ha0).trans rfl;have s2 := slot_at ha0 2 rfl;have s3 := slot_at ha0 3 rfl;have s8 := slot_at ha0 8 rfl;have HA0 := keep ha0;clear ha0;apply lxv hsz Grow.refl (by kernel_rfl) rfl
    ·intro xs w hw K hK;obtain ⟨p0, p1, p2, p3, p4, p5, _⟩ := pgres (HP7.out w hw);go_simp;exact hK
    apply lxv hsz Grow.refl (by kernel_rfl) rfl
    ·intro xs w hw K hK;go_simp;exact hK
    apply lxv hsz Grow.refl (by kernel_rfl) rfl
    ·intro xs w hw K hK;obtain ⟨e0, e1, e2, _⟩ := enres (HE7.out w hw);go_simp;exact hK
    apply lxe hsz [] (by kernel_rfl) rfl
    ·intro xs w hw hp K hK;go_simp;exact (HBy2.out w).mono fun e w' h => ⟨_, h.1, hK _ h.2⟩
    refine lxs hsz (fun v u => ∃ iv, v = .tuple #[pgV Q iv, .int .i64 cd] /\ ItemsC u iv Q.items) (fun _ _ _ g h => h.elim fun iv h => ⟨iv, h.1, h.2.fits g⟩) [] (by kernel_rfl) rfl ?_ ?_
    ·intro xs w hw hp K hK;go_simp;exact (HPu.out w (HI7.out w hw)).mono fun e w' ⟨iv, h1, h2, h3⟩ => ⟨_, h1, hK _ _ ⟨iv, rfl, h2⟩ h3⟩
    refine lxs hsz (fun v u => ∃ iv, v = pgV Q iv /\ ItemsC u iv Q.items) (fun _ _ _ g h => h.elim fun iv h => ⟨iv, h.1, h.2.fits g⟩) [(4, true)] (by kernel_rfl) rfl ?_ ?_
    ·intro xs w hw hp K hK;simp only [hzv] at hp;obtain ⟨iv8, h8, hit⟩ := hp;go_simp;exact hK _ _ ⟨iv8, rfl, hit⟩ (Grow.refl _)
    refine lxs hsz (fun v _ => v = .int .i64 cd) (fun _ _ _ _ h => h) [(4, true)] (by kernel_rfl) rfl ?_ ?_
    ·intro xs w hw hp K hK;simp only [hzv] at hp;obtain ⟨iv8, h8, hit⟩ := hp;go_simp;exact hK _ _ rfl (Grow.refl _)
    refine rgd [(5, true), (6, true)] (by kernel_rfl) rfl ?_;intro xs w hw hp;have ha0 := HA0.out;clear HA0 hsz s2 s3 s8;simp only [hzv] at hp;obtain ⟨h9, h10⟩ := hp;subst ha0;simp only [putV, h10];obtain ⟨iv9, h9, hit⟩ := h9;simp only [h9];obtain ⟨qa, qc, rfl⟩ := itemsS_form hit.1;have hgw := hw.undrew;have hR := HR4.out.fits hgw;have hbb : Below w_.heap.size w_ w := Grow.trans HGW4.out hgw;obtain ⟨r0, r1, r2, r3, r4, r5, f0, f1, f2, f3, f4, f5⟩ := pgres hR;have Hset := keep (pgset hR (.int .i64 Q.lsn) (.int .i64 Q.kind) (.int .i64 Q.level) (.int .i64 Q.right) (.string (str Q.high)) (.slice qa Q.items.length qc));have Hbut := keep (pgbut w (w_.heap.size + 2) (.int .i64 Q.lsn) (.int .i64 Q.kind) (.int .i64 Q.level) (.int .i64 Q.right) (.string (str Q.high)) (.slice qa Q.items.length qc));have Hit := keep hit;have HR := keep hR;have Hbb := keep hbb;have hlt2 := hR.lt;clear hw h9 h10 hit hR hbb hgw;unfold pgV;go_wp2_with fail;rw [HD4.out];refine bodyPost_ret (v := .tuple #[pgV Q (.slice qa Q.items.length qc), .int .i64 cd]) ?_ rfl ⟨_, rfl, itemsC_but Hit.out Hbut.out HR.out (by decide), But.below Hbb.out Hbut.out (by omega) (by omega)⟩;obtain ⟨s0, s1, s2, s3, s4, s5, _⟩ := pgres Hset.out;simp [results, Tryz.results42, go_sem, s0, s1, s2, s3, s4, s5, pgV]
end Go.Proofs.YtcdapdcablnhpaaGreat
namespace Go.Proofs.YtcdapdcablnhpaaGreat
open Go.RowKit
attribute [local go_sem] hgs
def beyondN (P : Pg) (e : En) : Bool × Int := if openOk P && enOk e then (beyN (bdN P) (hiN P) e, 0) else (false, 140)
def entriesOk (P : Pg) : Bool := openOk P && decide (P.level = 0)
def EntPost (P : Pg) (w : World) (x : Ending) (w' : World) : Prop :=
 (if entriesOk P then ∃ a c, x = .returned (.tuple #[.slice a (ensN P).length c, .int .i64 0]) /\ EnsS w' (.slice a (ensN P).length c) (ensN P) else x = .returned (.tuple #[.slice none 0 0, .int .i64 140])) /\ Below w.heap.size w w'
set_option maxRecDepth 100000 in
set_option maxHeartbeats 4000000 in
theorem beyond_node (P : Pg) (iv : Value) (e : En) (w_ : World) (hin : PgIn w_ iv P) :
  Calls Tryz.prog 94 #[pgV P iv, enV e] w_ fun x w' => x = .returned (.tuple #[.bool (beyondN P e).1, .int .i64 (beyondN P e).2]) /\ Below w_.heap.size w_ w' := by
 have hie := fun u => isEntry_any e u
 have hbe := fun (a1 a2 : Option Addr) (n1 c1 n2 c2 : Nat) (hi : En) (bd : Bool) (u : World) => beyond_any a1 a2 n1 c1 n2 c2 hi e bd u
 have hd : beyondN P e = if openOk P && enOk e then (beyN (bdN P) (hiN P) e, 0) else (false, 140) := rfl
 unfold enV at hie hbe;have HIe := keep hie;have HBe := keep hbe;have HD := keep hd;clear hie hbe hd;obtain ⟨k, p, s⟩ := e;obtain ⟨w0, hw0⟩ : ∃ w0, w0 = ((w_.alloc (.cells (pgCells P iv).toArray 28)).alloc (.cells #[.string (str k), .int .i64 p, .int .i64 s] 103)) := ⟨_, rfl⟩;have hg0 : Grow w_ w0 := by subst hw0; exact ((Grow.refl w_).alloc _).alloc _
 have hP0 : Blk w0 w_.heap.size 28 (pgCells P iv) := by
  have := (Blk.new w_ 28 (pgCells P iv)).alloc (.cells #[.string (str k), .int .i64 p, .int .i64 s] 103);subst hw0; exact this
 have hE0 : Blk w0 (w_.heap.size + 1) 103 [.string (str k), .int .i64 p, .int .i64 s] := by
  have := Blk.new (w_.alloc (.cells (pgCells P iv).toArray 28)) 103 [.string (str k), .int .i64 p, .int .i64 s];have e : (w_.alloc (.cells (pgCells P iv).toArray 28)).heap.size = w_.heap.size + 1 := by simp
  rw [e] at this;subst hw0; exact this
 have hop := opened_pg (hin.fits hg0);obtain ⟨ia, ic, rfl⟩ := items_form hin.1;have HOp := keep hop;have HIn := keep hin;have HP0 := keep hP0;have HE0 := keep hE0;clear hop hin hE0;unfold pgCells at hw0 hP0;obtain ⟨p0, p1, p2, p3, p4, p5, _⟩ := pgres hP0;unfold pgV enV;go_enter Tryz.func94, Tryz.ntmps94;go_upto_region 1 with fail;rw [<- hw0];clear hw0;go_wp2_with fail;refine HOp.out.mono ?_;rintro x w1 ⟨a1, n1, c1, a2, n2, c2, hi, bd, ok, rfl, hok, hyes, hb1⟩;clear p0 p1 p2 p3 p4 p5 hP0;obtain ⟨w2, hw2⟩ : ∃ w2, w2 = w1.alloc (.cells #[.slice a1 n1 c1, .slice a2 n2 c2, .string (str hi.1), .int .i64 hi.2.1, .int .i64 hi.2.2, .bool bd] 151) := ⟨_, rfl⟩;have hg2 : Grow w0 w2 := by subst hw2; exact Grow.alloc hb1 _
 have hO2 : Blk w2 w1.heap.size 151 [.slice a1 n1 c1, .slice a2 n2 c2, .string (str hi.1), .int .i64 hi.2.1, .int .i64 hi.2.2, .bool bd] := by subst hw2; exact Blk.new w1 _ [_, _, _, _, _, _]
 have hyes2 : ok = true -> EnsS w2 (.slice a1 n1 c1) (ensN P) /\ IntsS w2 (.slice a2 n2 c2) (kidsN P) /\ hi = hiN P /\ bd = bdN P := fun h => ⟨by subst hw2; exact RowS.fits (hyes h).1 ((Grow.refl _).alloc _), by subst hw2; exact RowS.fits (hyes h).2.1 ((Grow.refl _).alloc _), (hyes h).2.2⟩
 have HYes := keep hyes2;have HOk := keep hok;have HO2 := keep hO2;have HG2 := keep hg2;have HGW := keep (Grow.trans hg0 hg2);clear hyes hyes2 hok hb1 hO2 hg2;go_upto_region 2 with fail;rw [<- hw2];clear hw2;have hP2 := HP0.out.fits HG2.out;unfold pgCells at hP2;obtain ⟨p0, p1, p2, p3, p4, p5, _⟩ := pgres hP2;obtain ⟨o0, o1, o2, o3, o4, o5, _⟩ := pgres HO2.out;have hE2 := HE0.out.fits HG2.out;obtain ⟨e0, e1, e2, _⟩ := enres hE2;have hd := HD.out;rw [<- HOk.out] at hd;have HD2 := keep hd;clear hd;cases ok with
 | false =>
  have hno : beyondN P (k, p, s) = (false, 140) := HD2.out;go_wp2_with fail;go_ret2;rw [hno];exact ⟨rfl, HGW.out⟩
 | true =>
  obtain ⟨_, _, h2, h3⟩ := HYes.out rfl;subst h2 h3;have hd := HD2.out;have hie := HIe.out w2
  try dsimp only at hie
  generalize enOk (k, p, s) = A at *;have HIe2 := keep hie;have HD3 := keep hd;clear hie hd;go_wp2_with fail;refine HIe2.out.mono ?_;rintro x w3 ⟨rfl, hb3⟩;cases A with
  | false =>
   have hno : beyondN P (k, p, s) = (false, 140) := HD3.out;go_wp2_with fail;go_ret2;rw [hno];exact ⟨rfl, Grow.trans HGW.out hb3⟩
  | true =>
   have hyes : beyondN P (k, p, s) = (beyN (bdN P) (hiN P) (k, p, s), 0) := HD3.out;have hE3 := hE2.fits hb3;have hO3 := HO2.out.fits hb3;clear p0 p1 p2 p3 p4 p5 e0 e1 e2 o0 o1 o2 o3 o4 o5;obtain ⟨e0, e1, e2, _⟩ := enres hE3;obtain ⟨o0, o1, o2, o3, o4, o5, _⟩ := pgres hO3;have hbe := HBe.out a1 a2 n1 c1 n2 c2 (hiN P) (bdN P) w3
   try dsimp only at hbe
   have HBe2 := keep hbe;have HYs := keep hyes;clear hE3 hO3 hbe hyes hE2 hP2;go_wp2_with fail;refine HBe2.out.mono ?_;rintro x w4 ⟨rfl, hb4⟩;go_wp2_with fail;go_ret2;rw [HYs.out];exact ⟨rfl, Grow.trans (Grow.trans HGW.out hb3) hb4⟩
set_option maxRecDepth 100000 in
set_option maxHeartbeats 4000000 in
theorem entries_node (P : Pg) (iv : Value) (w_ : World) (hin : PgIn w_ iv P) :
  Calls Tryz.prog 144 #[pgV P iv] w_ (EntPost P w_) := by
 have hd : entriesOk P = (openOk P && decide (P.level = 0)) := rfl;have HD := keep hd;clear hd;obtain ⟨w0, hw0⟩ : ∃ w0, w0 = (w_.alloc (.cells (pgCells P iv).toArray 28)) := ⟨_, rfl⟩;have hg0 : Grow w_ w0 := by subst hw0; exact (Grow.refl w_).alloc _
 have hP0 : Blk w0 w_.heap.size 28 (pgCells P iv) := by
  have := Blk.new w_ 28 (pgCells P iv);subst hw0; exact this
 have hop := opened_pg (hin.fits hg0);obtain ⟨ia, ic, rfl⟩ := items_form hin.1;have HOp := keep hop;have HIn := keep hin;have HP0 := keep hP0;clear hop hin;unfold pgCells at hw0 hP0;obtain ⟨p0, p1, p2, p3, p4, p5, _⟩ := pgres hP0;unfold pgV;go_enter Tryz.func144, Tryz.ntmps144;go_upto_region 1 with fail;rw [<- hw0];clear hw0;go_wp2_with fail;refine HOp.out.mono ?_;rintro x w1 ⟨a1, n1, c1, a2, n2, c2, hi, bd, ok, rfl, hok, hyes, hb1⟩;clear p0 p1 p2 p3 p4 p5 hP0;obtain ⟨w2, hw2⟩ : ∃ w2, w2 = w1.alloc (.cells #[.slice a1 n1 c1, .slice a2 n2 c2, .string (str hi.1), .int .i64 hi.2.1, .int .i64 hi.2.2, .bool bd] 151) := ⟨_, rfl⟩;have hg2 : Grow w0 w2 := by subst hw2; exact Grow.alloc hb1 _
 have hO2 : Blk w2 w1.heap.size 151 [.slice a1 n1 c1, .slice a2 n2 c2, .string (str hi.1), .int .i64 hi.2.1, .int .i64 hi.2.2, .bool bd] := by subst hw2; exact Blk.new w1 _ [_, _, _, _, _, _]
 have hyes2 : ok = true -> EnsS w2 (.slice a1 n1 c1) (ensN P) /\ IntsS w2 (.slice a2 n2 c2) (kidsN P) /\ hi = hiN P /\ bd = bdN P := fun h => ⟨by subst hw2; exact RowS.fits (hyes h).1 ((Grow.refl _).alloc _), by subst hw2; exact RowS.fits (hyes h).2.1 ((Grow.refl _).alloc _), (hyes h).2.2⟩
 have HYes := keep hyes2;have HOk := keep hok;have HO2 := keep hO2;have HG2 := keep hg2;have HGW := keep (Grow.trans hg0 hg2);clear hyes hyes2 hok hb1 hO2 hg2;go_upto_region 2 with fail;rw [<- hw2];clear hw2;have hP2 := HP0.out.fits HG2.out;unfold pgCells at hP2;obtain ⟨p0, p1, p2, p3, p4, p5, _⟩ := pgres hP2;obtain ⟨o0, o1, o2, o3, o4, o5, _⟩ := pgres HO2.out;have hd := HD.out;rw [<- HOk.out] at hd;have HD2 := keep hd;clear hd;cases ok with
 | false =>
  have hno : entriesOk P = false := HD2.out;go_wp2_with fail;go_ret2;unfold EntPost;rw [hno, if_neg (by decide)];exact ⟨rfl, HGW.out⟩
 | true =>
  obtain ⟨hes, _, _, _⟩ := HYes.out rfl
  by_cases hlv : P.level = 0
  ·have hyes : entriesOk P = true := by rw [HD2.out, decide_eq_true hlv]; rfl
   have hlv2 : (P.level != 0) = false := by simp [hlv]
   have hform : n1 = (ensN P).length := by
    rcases hes with ⟨h0, _, a, cap, h⟩ | ⟨c, off, cap, blk, f, h, _⟩
    ·simp only [Value.slice.injEq] at h; omega
    ·simp only [Value.slice.injEq] at h; exact h.2.1
   subst hform;have HEs := keep hes;have HYs := keep hyes;clear hlv hes hyes;go_wp2_with fail;go_ret2;unfold EntPost;rw [HYs.out, if_pos rfl];exact ⟨⟨a1, c1, rfl, HEs.out⟩, HGW.out⟩
  ·have hno : entriesOk P = false := by rw [HD2.out, decide_eq_false hlv]; rfl
   have hlv2 : (P.level != 0) = true := by simp [hlv]
   have HNo := keep hno;clear hlv hno;go_wp2_with fail;go_ret2;unfold EntPost;rw [HNo.out, if_neg (by decide)];exact ⟨rfl, HGW.out⟩
end Go.Proofs.YtcdapdcablnhpaaGreat
namespace Go.Proofs.YtcdapdcablnhpaaGreat
open Go.RowKit
def pgOf (l : List En) : Pg := ⟨0, 3, 0, 0, [], l.map fun e => enBytes e []⟩
structure GoodL (l : List En) : Prop where
 sorted : Sorted l
 ok : ∀ e ∈ l, enOk e = true
 fit : fitsP (pgOf l) = true
theorem good_nil : GoodL [] := ⟨List.Pairwise.nil, by simp, by decide⟩
theorem item_of {e : En} (h : enOk e = true) : itemN 0 (enBytes e []) = (e, 0, 0) := by
 unfold itemN;rw [if_pos rfl, decN_of h]
theorem ens_of {l : List En} (h : ∀ e ∈ l, enOk e = true) : ensN (pgOf l) = l := by
 unfold ensN ensTo pgOf;dsimp only;rw [List.take_of_length_le (Nat.le_refl _), List.map_map]
 conv => rhs; rw [<- List.map_id l]
 refine List.map_congr_left fun e he => ?_
 show (itemN 0 (enBytes e [])).1 = e;rw [item_of (h e he)]
theorem okTo_of {l : List En} {hi : En} (hs : Sorted l) (h : ∀ e ∈ l, enOk e = true) : ∀ k, k <= l.length -> okTo 0 hi false (pgOf l).items k = true := by
 have hat : ∀ j (hj : j < l.length), itemN 0 ((pgOf l).items.getD j []) = (l[j], 0, 0) := by
  intro j hj;have e : (pgOf l).items.getD j [] = enBytes l[j] [] := by simp [pgOf, hj]
  rw [e];exact item_of (h _ (List.getElem_mem hj))
 intro k
 induction k with
 | zero => intro _; rfl
 | succ k ih =>
  intro hk;rw [okTo, ih (by omega), Bool.true_and, hat k (by omega)]
  by_cases h0 : k = 0
  ·subst h0; rfl
  ·rw [hat (k - 1) (by omega)];have hc := hs.at (show k - 1 < l.length by omega) (show k < l.length by omega) (by omega);unfold roundOk;dsimp only;rw [hc];simp
theorem open_of {l : List En} (h : GoodL l) : openOk (pgOf l) = true := by
 have h1 : encOk (pgOf l) = true := by
  unfold encOk;rw [h.fit]
  rfl
 have h2 : headOk (pgOf l) = true := by
  unfold headOk;rw [h1]
  rfl
 have h3 : okTo (pgOf l).level (hiN (pgOf l)) (bdN (pgOf l)) (pgOf l).items (pgOf l).items.length = true := by
  have e : (pgOf l).items.length = l.length := by simp [pgOf]
  rw [e];exact okTo_of h.sorted h.ok l.length (Nat.le_refl _)
 unfold openOk;rw [h2, h3]
 rfl
theorem good_length {l : List En} (h : GoodL l) : l.length <= 255 := by
 have := h.fit;simp only [fitsP, Bool.and_eq_true, decide_eq_true_eq] at this;have e : (pgOf l).items.length = l.length := by simp [pgOf]
 omega
theorem pgIn_good {l : List En} (h : GoodL l) {w : World} {iv : Value} (hi : ItemsC w iv (pgOf l).items) : PgIn w iv (pgOf l) := by
 have e : (pgOf l).items.length = l.length := by simp [pgOf]
 have hl := good_length h;refine ⟨hi.1.weak, fun x hx => ?_, by simp [pgOf], by omega, by simp [pgOf]⟩;simp only [pgOf, List.mem_map] at hx;obtain ⟨a, ha, rfl⟩ := hx;have := enBytes_length a (h.ok a ha);omega
theorem pos_split {l : List En} (h : Sorted l) (t : En) : (∀ j (hj : j < l.length), j < posE l t -> cmpE l[j] t < 0) /\ (∀ j (hj : j < l.length), posE l t <= j -> ¬ cmpE l[j] t < 0) /\ (t ∈ l ↔ ∃ hk : posE l t < l.length, cmpE l[posE l t] t = 0) := by
 obtain ⟨k, hk, h1, h2⟩ : ∃ k, k <= l.length /\ (∀ j (hj : j < l.length), j < k -> cmpE l[j] t < 0) /\ (∀ j (hj : j < l.length), k <= j -> ¬ cmpE l[j] t < 0) := by
  by_cases hall : ∀ j (hj : j < l.length), cmpE l[j] t < 0
  ·exact ⟨l.length, Nat.le_refl _, fun j hj _ => hall j hj, fun j hj hk => by omega⟩
  ·have hex : ∃ k, ∃ hk : k < l.length, ¬ cmpE l[k] t < 0 := by
    simp only [Classical.not_forall] at hall;exact hall
   have key : ∀ n, (∀ j, j < n -> ∀ hj : j < l.length, cmpE l[j] t < 0) \/ ∃ k, ∃ hk : k < l.length, k < n /\ ¬ cmpE l[k] t < 0 /\ ∀ j, j < k -> ∀ hj : j < l.length, cmpE l[j] t < 0 := by
    intro n
    induction n with
    | zero => exact .inl fun j hj => by omega
    | succ n ih =>
     rcases ih with ih | ⟨k, hk, hkn, h3, h4⟩
     ·by_cases hn : ∃ hn : n < l.length, ¬ cmpE l[n] t < 0
      ·obtain ⟨hn, hc⟩ := hn;exact .inr ⟨n, hn, by omega, hc, ih⟩
      ·refine .inl fun j hj hjl => ?_
       by_cases e : j = n
       ·subst e;exact Classical.byContradiction fun hc => hn ⟨hjl, hc⟩
       ·exact ih j (by omega) hjl
     ·exact .inr ⟨k, hk, by omega, h3, h4⟩
   obtain ⟨k0, hk0, hc0⟩ := hex;rcases key (k0 + 1) with h5 | ⟨k, hk, _, h3, h4⟩
   ·exact absurd (h5 k0 (by omega) hk0) hc0
   ·exact ⟨k, Nat.le_of_lt hk, fun j hj hjk => h4 j hjk hj, fun j hj hkj => search_high h hk h3 j hj hkj⟩
 obtain ⟨h3, h4⟩ := search_end h hk h1 h2;rw [h3];exact ⟨h1, h2, h4⟩
def insL (l : List En) (e : En) : List En := l.take (posE l e) ++ e :: l.drop (posE l e)
theorem insL_sorted {l : List En} (h : Sorted l) {e : En} (hn : e ∉ l) : Sorted (insL l e) := by
 obtain ⟨h1, h2, h3⟩ := pos_split h e;have hap : Sorted (l.take (posE l e) ++ l.drop (posE l e)) := by rw [List.take_append_drop]; exact h
 obtain ⟨ha, hb, hc⟩ := List.pairwise_append.1 hap;refine List.pairwise_append.2 ⟨ha, List.pairwise_cons.2 ⟨fun x hx => ?_, hb⟩, fun x hx y hy => ?_⟩
 ·obtain ⟨j, hj, rfl⟩ := List.mem_iff_getElem.1 hx;rw [List.length_drop] at hj;rw [List.getElem_drop];have h4 := h2 (posE l e + j) (by omega) (by omega);rw [cmpE_neg];rcases cmpE_three l[posE l e + j] e with h5 | h5 | h5
  ·rw [h5] at h4; omega
  ·exact absurd (by rw [<- cmpE_eq.1 h5]; exact List.getElem_mem _) hn
  ·rw [h5]
 ·rcases List.mem_cons.1 hy with rfl | hy
  ·obtain ⟨j, hj, rfl⟩ := List.mem_iff_getElem.1 hx;rw [List.length_take] at hj;rw [List.getElem_take];exact (cmp_neg_iff _ _).1 (h1 j (by omega) (by omega))
  ·exact hc x hx y hy
theorem insL_mem {l : List En} {e x : En} : x ∈ insL l e ↔ x = e \/ x ∈ l := by
 unfold insL;rw [List.mem_append, List.mem_cons]
 constructor
 ·rintro (h | h | h)
  ·exact .inr (List.mem_of_mem_take h)
  ·exact .inl h
  ·exact .inr (List.mem_of_mem_drop h)
 ·rintro (h | h)
  ·exact .inr (.inl h)
  ·rw [<- List.take_append_drop (posE l e) l, List.mem_append] at h;rcases h with h | h
   ·exact .inl h
   ·exact .inr (.inr h)
def insB (l : List En) (e : En) : Bool := enOk e && (!decide (e ∈ l) && fitsP (pgOf (insL l e)))
theorem insB_good {l : List En} {e : En} (h : GoodL l) (hb : insB l e = true) : GoodL (insL l e) := by
 simp only [insB, Bool.and_eq_true, Bool.not_eq_true', decide_eq_false_iff_not] at hb;exact ⟨insL_sorted h.sorted hb.2.1, fun x hx => (insL_mem.1 hx).elim (fun h1 => h1 ▸ hb.1) (h.ok x), hb.2.2⟩
theorem insN_of {l : List En} (h : GoodL l) (e : En) : (insB l e = true /\ insN (pgOf l) e = (pgOf (insL l e), 0)) \/ (insB l e = false /\ ∃ c, c ≠ 0 /\ insN (pgOf l) e = (zeroP, c)) := by
 have h1 : insN (pgOf l) e = if enOk e then (if decide (e ∈ l) then (zeroP, 140) else turnedN (pgOf l) (insL l e |>.map fun x => enBytes x [])) else (zeroP, 140) := by
  unfold insN putN;rw [open_of h, ens_of h.ok];have e2 : (insL l e).map (fun x => enBytes x []) = (pgOf l).items.take (posE l e) ++ enBytes e [] :: (pgOf l).items.drop (posE l e) := by
   simp [insL, pgOf]
  rw [e2];cases enOk e <;> rfl
 rw [h1];unfold insB turnedN;cases h2 : enOk e with
 | false => exact .inr ⟨rfl, 140, by decide, rfl⟩
 | true =>
  by_cases h3 : e ∈ l
  ·rw [decide_eq_true h3];exact .inr ⟨rfl, 140, by decide, rfl⟩
  ·rw [decide_eq_false h3];have e3 : ({ pgOf l with items := (insL l e).map fun x => enBytes x [] } : Pg) = pgOf (insL l e) := rfl;rw [e3];cases h4 : fitsP (pgOf (insL l e)) with
   | false => exact .inr ⟨rfl, 3, by decide, rfl⟩
   | true => exact .inl ⟨rfl, rfl⟩
theorem entriesOk_of {l : List En} (h : GoodL l) : entriesOk (pgOf l) = true := by
 unfold entriesOk;rw [open_of h]
 rfl
attribute [local go_sem] givesV lookV knAt hgs
attribute [local simp] eql_entry
attribute [local go_sem] guard_entry
end Go.Proofs.YtcdapdcablnhpaaGreat
namespace Go.Proofs.YtcdapdcablnhpaaGreat
open Go.RowKit
attribute [local go_sem] hgs
end Go.Proofs.YtcdapdcablnhpaaGreat
namespace Go.Proofs.YtcdapdcablnhpaaGreat
open Go.RowKit
def remL (l : List En) (k : Nat) : List En := l.take k ++ l.drop (k + 1)
attribute [local go_sem] givesV lookV knAt hgs
def splitOk (P : Pg) (r : Int) : Bool := openOk P && (decide (2 <= P.items.length) && inB r 1 65535)
structure Put2 (r1 r2 t : Nat) (vs1 vs2 : List Value) (u v : World) : Prop where
 os : v.os = u.os
 tape : v.tape = u.tape
 output : v.output = u.output
 size : u.heap.size <= v.heap.size
 block : ∀ k, k < u.heap.size -> k ≠ r1 -> k ≠ r2 -> v.heap[k]? = u.heap[k]?
 six1 : (∃ a0 a1 a2 a3 a4 a5, Blk u r1 t [a0, a1, a2, a3, a4, a5]) -> ∃ a0 a1 a2 a3 a4 a5, Blk v r1 t [a0, a1, a2, a3, a4, a5]
 six2 : (∃ a0 a1 a2 a3 a4 a5, Blk u r2 t [a0, a1, a2, a3, a4, a5]) -> ∃ a0 a1 a2 a3 a4 a5, Blk v r2 t [a0, a1, a2, a3, a4, a5]
 vs1 : Blk u r1 t vs1 -> Blk v r1 t vs1
 vs2 : Blk u r2 t vs2 -> Blk v r2 t vs2
theorem Put2.refl {r1 r2 t : Nat} {vs1 vs2 : List Value} (u : World) : Put2 r1 r2 t vs1 vs2 u u := ⟨rfl, rfl, rfl, Nat.le_refl _, fun _ _ _ _ => rfl, id, id, id, id⟩
theorem Put2.trans {r1 r2 t : Nat} {vs1 vs2 : List Value} {u v w : World} (h : Put2 r1 r2 t vs1 vs2 u v) (k : Put2 r1 r2 t vs1 vs2 v w) : Put2 r1 r2 t vs1 vs2 u w :=
 ⟨k.os.trans h.os, k.tape.trans h.tape, k.output.trans h.output, Nat.le_trans h.size k.size, fun i hi h1 h2 => (k.block i (Nat.lt_of_lt_of_le hi h.size) h1 h2).trans (h.block i hi h1 h2), fun x => k.six1 (h.six1 x), fun x => k.six2 (h.six2 x), fun x => k.vs1 (h.vs1 x), fun x => k.vs2 (h.vs2 x)⟩
theorem Put2.undrew {r1 r2 t : Nat} {vs1 vs2 : List Value} {u v : World} (h : Put2 r1 r2 t vs1 vs2 u.drew v) : Put2 r1 r2 t vs1 vs2 u v := ⟨h.os, h.tape, h.output, h.size, h.block, h.six1, h.six2, h.vs1, h.vs2⟩
theorem Put2.blk {r1 r2 t : Nat} {vs1 vs2 : List Value} {u v : World} (h : Put2 r1 r2 t vs1 vs2 u v) {b e : Nat} {cs : List Value} (hb : Blk u b e cs) (h1 : b ≠ r1) (h2 : b ≠ r2) : Blk v b e cs := by
 have := hb.lt; unfold Blk at *; rw [h.block _ this h1 h2]; exact hb
theorem Put2.below {r1 r2 t B : Nat} {vs1 vs2 : List Value} {z u v : World} (h : Put2 r1 r2 t vs1 vs2 u v) (hz : Below B z u) (h1 : B <= r1) (h2 : B <= r2) (hB : B <= u.heap.size) : Below B z v :=
 ⟨h.os.trans hz.os, h.tape.trans hz.tape, h.output.trans hz.output, Nat.le_trans hz.size h.size, fun k hk => (h.block k (by omega) (by omega) (by omega)).trans (hz.block k hk)⟩
theorem Put2.row {r1 r2 t e n : Nat} {vs1 vs2 cs : List Value} {u v : World} {x : Value} (h : Put2 r1 r2 t vs1 vs2 u v) (hr : RowS u e x n cs) (h1 : ∃ cs1, Blk u r1 t cs1) (h2 : ∃ cs2, Blk u r2 t cs2) (he : e ≠ t) : RowS v e x n cs :=
 hr.move fun c blk f hc => by
  obtain ⟨cs1, h1⟩ := h1;obtain ⟨cs2, h2⟩ := h2;rw [h.block c (lt_of_block hc) ?_ ?_]
  ·exact hc
  ·rintro rfl;unfold Blk at h1;rw [h1] at hc;simp at hc;exact he hc.2.1.symm
  ·rintro rfl;unfold Blk at h2;rw [h2] at hc;simp at hc;exact he hc.2.1.symm
theorem Put2.one1 {r1 r2 t : Nat} {vs1 vs2 : List Value} {u v : World} (k : But r1 u v) (h12 : r1 ≠ r2) (h : Blk v r1 t vs1) (hs : ∃ a0 a1 a2 a3 a4 a5, vs1 = [a0, a1, a2, a3, a4, a5]) : Put2 r1 r2 t vs1 vs2 u v :=
 ⟨k.os, k.tape, k.output, k.size, fun i hi h1 _ => k.block i hi h1, fun _ => by obtain ⟨_, _, _, _, _, _, rfl⟩ := hs; exact ⟨_, _, _, _, _, _, h⟩, fun ⟨_, _, _, _, _, _, h2⟩ => ⟨_, _, _, _, _, _, h2.but k h12.symm⟩, fun _ => h, fun h2 => h2.but k h12.symm⟩
def rootOk (lv left : Int) (e : En) (right : Int) : Bool := inB lv 1 255 && (enOk e && (inB left 1 65535 && inB right 1 65535))
def rootP (lv left : Int) (e : En) (right : Int) : Pg := ⟨0, 3, lv, 0, [], [enBytes leastE [left], enBytes e [right]]⟩
def rootN (lv left : Int) (e : En) (right : Int) : Pg × Int := if rootOk lv left e right then (rootP lv left e right, 0) else (zeroP, 140)
end Go.Proofs.YtcdapdcablnhpaaGreat
namespace Go.Proofs.YtcdapdcablnhpaaGreat
open Go.RowKit
attribute [local go_sem] hgs
def childOk (P : Pg) (e : En) : Bool := openOk P && (!decide (P.level = 0) && (enOk e && !beyN (bdN P) (hiN P) e))
def childN (P : Pg) (e : En) : Int × Int := if childOk P e then ((kidsN P).getD (posE (ensN P) e - 1) 0, 0) else (0, 140)
theorem least_lt {e : En} (h : enOk e = true) : cmpE leastE e < 0 := by
 obtain ⟨k, p, s⟩ := e;simp only [enOk, inB, Bool.and_eq_true, decide_eq_true_eq] at h;cases k with
 | nil => simp at h
 | cons a k => unfold cmpE leastE or3; simp [Lib.compareBytes]
theorem first_least {P : Pg} (h : openOk P = true) (hlv : P.level ≠ 0) : 0 < P.items.length /\ ∀ hl : 0 < (ensN P).length, (ensN P)[0] = leastE := by
 unfold openOk at h;simp only [Bool.and_eq_true] at h;have hl : 0 < P.items.length := by
  have := h.2.2;rw [decide_eq_false hlv, Bool.false_or, decide_eq_true_eq] at this;exact this
 refine ⟨hl, fun hl2 => ?_⟩;have h1 := okTo_at h.2.1 0 hl;simp only [roundOk, Bool.and_eq_true] at h1;have h2 := h1.1;rw [decide_eq_false hlv, Bool.false_or] at h2;simp at h2;have e1 : (ensN P)[0] = (itemN P.level (P.items.getD 0 [])).1 := by simp [ensN, ensTo, hl]
 rw [e1]
 simpa [hl] using h2
theorem pos_one {P : Pg} {e : En} (h : openOk P = true) (hlv : P.level ≠ 0) (he : enOk e = true) : 1 <= posE (ensN P) e := by
 obtain ⟨h1, h2⟩ := first_least h hlv;have hl : 0 < (ensN P).length := by rw [ensN_length]; exact h1
 unfold posE;refine List.countP_pos_iff.2 ⟨(ensN P)[0], List.getElem_mem hl, ?_⟩;rw [h2 hl];exact decide_eq_true (least_lt he)
theorem kidsN_length {P : Pg} (hlv : P.level ≠ 0) : (kidsN P).length = P.items.length := by
 unfold kidsN kidsTo;rw [if_neg hlv];simp
set_option maxRecDepth 100000 in
set_option maxHeartbeats 4000000 in
theorem child_node (P : Pg) (iv : Value) (e : En) (w_ : World) (hin : PgIn w_ iv P) :
  Calls Tryz.prog 95 #[pgV P iv, enV e] w_ fun x w' => x = .returned (.tuple #[.int .i64 (childN P e).1, .int .i64 (childN P e).2]) /\ Below w_.heap.size w_ w' := by
 have hie := fun u => isEntry_any e u
 have hbe := fun (a1 a2 : Option Addr) (n1 c1 n2 c2 : Nat) (hi : En) (bd : Bool) (u : World) => beyond_any a1 a2 n1 c1 n2 c2 hi e bd u
 have hse := fun (l : List En) (v : Value) (u : World) (h : EnsS u v l) (hl : l.length <= 1759218604441) (hs : Sorted l) => search_any e l v u h hl hs
 have hd : childN P e = if openOk P && (!decide (P.level = 0) && (enOk e && !beyN (bdN P) (hiN P) e)) then ((kidsN P).getD (posE (ensN P) e - 1) 0, 0) else (0, 140) := rfl
 have hpo := fun h1 h2 h3 => pos_one (P := P) (e := e) h1 h2 h3
 unfold enV at hie hbe hse;have HIe := keep hie;have HBe := keep hbe;have HSe := keep hse;have HD := keep hd;have HPo := keep hpo;clear hie hbe hse hd hpo;obtain ⟨k, p, s⟩ := e;obtain ⟨w0, hw0⟩ : ∃ w0, w0 = ((w_.alloc (.cells (pgCells P iv).toArray 28)).alloc (.cells #[.string (str k), .int .i64 p, .int .i64 s] 103)) := ⟨_, rfl⟩;have hg0 : Grow w_ w0 := by subst hw0; exact ((Grow.refl w_).alloc _).alloc _
 have hP0 : Blk w0 w_.heap.size 28 (pgCells P iv) := by
  have := (Blk.new w_ 28 (pgCells P iv)).alloc (.cells #[.string (str k), .int .i64 p, .int .i64 s] 103);subst hw0; exact this
 have hE0 : Blk w0 (w_.heap.size + 1) 103 [.string (str k), .int .i64 p, .int .i64 s] := by
  have := Blk.new (w_.alloc (.cells (pgCells P iv).toArray 28)) 103 [.string (str k), .int .i64 p, .int .i64 s];have e : (w_.alloc (.cells (pgCells P iv).toArray 28)).heap.size = w_.heap.size + 1 := by simp
  rw [e] at this;subst hw0; exact this
 have hop := opened_pg (hin.fits hg0);obtain ⟨ia, ic, rfl⟩ := items_form hin.1;have HOp := keep hop;have HIn := keep hin;have HP0 := keep hP0;have HE0 := keep hE0;clear hop hin hE0;unfold pgCells at hw0 hP0;obtain ⟨p0, p1, p2, p3, p4, p5, _⟩ := pgres hP0;unfold pgV enV;go_enter Tryz.func95, Tryz.ntmps95;go_upto_region 1 with fail;rw [<- hw0];clear hw0;go_wp2_with fail;refine HOp.out.mono ?_;rintro x w1 ⟨a1, n1, c1, a2, n2, c2, hi, bd, ok, rfl, hok, hyes, hb1⟩;clear p0 p1 p2 p3 p4 p5 hP0;obtain ⟨w2, hw2⟩ : ∃ w2, w2 = w1.alloc (.cells #[.slice a1 n1 c1, .slice a2 n2 c2, .string (str hi.1), .int .i64 hi.2.1, .int .i64 hi.2.2, .bool bd] 151) := ⟨_, rfl⟩;have hg2 : Grow w0 w2 := by subst hw2; exact Grow.alloc hb1 _
 have hO2 : Blk w2 w1.heap.size 151 [.slice a1 n1 c1, .slice a2 n2 c2, .string (str hi.1), .int .i64 hi.2.1, .int .i64 hi.2.2, .bool bd] := by subst hw2; exact Blk.new w1 _ [_, _, _, _, _, _]
 have hyes2 : ok = true -> EnsS w2 (.slice a1 n1 c1) (ensN P) /\ IntsS w2 (.slice a2 n2 c2) (kidsN P) /\ hi = hiN P /\ bd = bdN P := fun h => ⟨by subst hw2; exact RowS.fits (hyes h).1 ((Grow.refl _).alloc _), by subst hw2; exact RowS.fits (hyes h).2.1 ((Grow.refl _).alloc _), (hyes h).2.2⟩
 have HYes := keep hyes2;have HOk := keep hok;have HO2 := keep hO2;have HG2 := keep hg2;have HGW := keep (Grow.trans hg0 hg2);clear hyes hyes2 hok hb1 hO2 hg2;go_upto_region 2 with fail;rw [<- hw2];clear hw2;have hP2 := HP0.out.fits HG2.out;unfold pgCells at hP2;obtain ⟨p0, p1, p2, p3, p4, p5, _⟩ := pgres hP2;obtain ⟨o0, o1, o2, o3, o4, o5, _⟩ := pgres HO2.out;have hE2 := HE0.out.fits HG2.out;obtain ⟨e0, e1, e2, _⟩ := enres hE2;have hHIe := HIe.out;have hHBe := HBe.out;have hHSe := HSe.out;have hHPo := HPo.out
 try dsimp only at hHIe
 try dsimp only at hHBe
 try dsimp only at hHSe
 have HIe := keep hHIe;have HBe := keep hHBe;have HSe := keep hHSe;clear hHIe hHBe hHSe;go_cut [31] from 15 to 31 (fun sv wx => sv = .bool (!(ok && (!decide (P.level = 0) && (enOk (k, p, s) && !beyN bd hi (k, p, s))))) /\ Grow w2 wx)
 case first =>
  clear hHPo;cases ok with
  | false =>
   go_wp2_with fail
   all_goals go_meet
   all_goals (case rel => exact ⟨rfl, Grow.refl _⟩)
  | true =>
   by_cases hlv : P.level = 0
   ·have hlv2 : (P.level == 0) = true := by simp [hlv]
    have HLv := keep hlv;clear hlv;go_wp2_with fail
    all_goals go_meet
    all_goals (case rel => exact ⟨by simp [HLv.out], Grow.refl _⟩)
   ·have hlv2 : (P.level == 0) = false := by simp [hlv]
    have HLv := keep hlv;clear hlv;generalize enOk (k, p, s) = A at *;go_wp2_with fail;refine (HIe.out w2).mono ?_;rintro x w3 ⟨rfl, hb3⟩;cases A with
    | false =>
     go_wp2_with fail
     all_goals go_meet
     all_goals (case rel => exact ⟨by simp, hb3⟩)
    | true =>
     have hE3 := hE2.fits hb3;have hO3 := HO2.out.fits hb3;clear e0 e1 e2 o0 o1 o2 o3 o4 o5;obtain ⟨e0, e1, e2, _⟩ := enres hE3;obtain ⟨o0, o1, o2, o3, o4, o5, _⟩ := pgres hO3;have hbe := HBe.out a1 a2 n1 c1 n2 c2 hi bd w3;generalize beyN bd hi (k, p, s) = B at *;have HB := keep hbe;clear hE3 hO3 hbe;go_wp2_with fail;refine HB.out.mono ?_;rintro x w4 ⟨rfl, hb4⟩;go_wp2_with fail
     all_goals go_meet
     all_goals (case rel => exact ⟨by simp [HLv.out], Grow.trans hb3 hb4⟩)
 case rest =>
  obtain ⟨rfl, hg3⟩ := hcut;clear p0 p1 p2 p3 p4 p5 e0 e1 e2 o0 o1 o2 o3 o4 o5 hP2 hE2;generalize wc = w3 at *;have HG3 := keep (Grow.trans HG2.out hg3);have HGW3 := keep (Grow.trans HGW.out hg3);generalize hM : (ok && (!decide (P.level = 0) && (enOk (k, p, s) && !beyN bd hi (k, p, s)))) = M;cases M with
  | false =>
   have hno : childN P (k, p, s) = (0, 140) := by
    rw [HD.out, <- HOk.out];cases ok with
    | false => rfl
    | true =>
     obtain ⟨_, _, h2, h3⟩ := HYes.out rfl;rw [<- h2, <- h3, hM]
     rfl
   have HNo := keep hno;clear hM hno hg3 hHPo;go_wp2_with fail;go_ret2;rw [HNo.out];exact ⟨rfl, HGW3.out⟩
  | true =>
   have hm : ok = true /\ P.level ≠ 0 /\ enOk (k, p, s) = true /\ beyN bd hi (k, p, s) = false := by simpa [and_assoc] using hM
   obtain ⟨rfl, hlv, hen, hbe⟩ := hm;obtain ⟨hes, hks, rfl, rfl⟩ := HYes.out rfl;have hes3 : EnsS w3 (.slice a1 n1 c1) (ensN P) := RowS.fits hes hg3;have hks3 : IntsS w3 (.slice a2 n2 c2) (kidsN P) := RowS.fits hks hg3;have hopen : openOk P = true := HOk.out.symm;have hd2 : childN P (k, p, s) = ((kidsN P).getD (posE (ensN P) (k, p, s) - 1) 0, 0) := by
    rw [HD.out, hopen, hM.symm.trans (by rfl)];simp [hlv, hen, hbe]
   have hp1 := HPo.out hopen hlv hen;have hp2 := posE_le (ensN P) (k, p, s);rw [ensN_length] at hp2;have hp3 := kidsN_length hlv;have hp4 := (open_fine hopen).1;have hsc := HSe.out (ensN P) (.slice a1 n1 c1) w3 hes3 (by rw [ensN_length]; omega) (open_sorted hopen);have hE3 := HE0.out.fits HG3.out;have hO3 := HO2.out.fits hg3;generalize posE (ensN P) (k, p, s) = J at *;obtain ⟨e0, e1, e2, _⟩ := enres hE3;obtain ⟨o0, o1, o2, o3, o4, o5, _⟩ := pgres hO3;have HSc := keep hsc;have HD2 := keep hd2;have HKs := keep hks3;have HO3 := keep hO3;clear hM hlv hen hbe hes hes3 hopen hd2 hsc hg3 hE3 hO3 hHPo hks hks3;go_wp2_with fail;refine HSc.out.mono ?_;rintro x w4 ⟨rfl, hb4⟩;clear e0 e1 e2 o0 o1 o2 o3 o4 o5;have hO4 := HO3.out.fits hb4;obtain ⟨o0, o1, o2, o3, o4, o5, _⟩ := pgres hO4;have hks4 : IntsS w4 (.slice a2 n2 c2) (kidsN P) := RowS.fits HKs.out hb4;obtain ⟨a, cap, he, hcc⟩ := ints_form hks4.weak;simp only [Value.slice.injEq] at he;obtain ⟨rfl, rfl, rfl⟩ := he;obtain ⟨cc, co, rfl, hcell⟩ := hcc (J - 1) (by omega);have HGW4 := keep (Grow.trans HGW3.out hb4);have hjm : wrap64 ((J : Int) - 1) = (J : Int) - 1 := by
    rw [show (J : Int) - 1 = ((J - 1 : Nat) : Int) by omega];exact wrap64_small _ (by omega)
   have hj0 : (0 : Int) <= (J : Int) - 1 := by omega
   have hjn : (J : Int) - 1 < ((kidsN P).length : Int) := by omega
   clear hO4 hks4 hcc hb4 hp1 hp2 hp3 hp4;go_wp2_with fail;go_ret2;rw [HD2.out];exact ⟨rfl, HGW4.out⟩
end Go.Proofs.YtcdapdcablnhpaaGreat
namespace Go.Proofs.YtcdapdcablnhpaaGreat
open Go.RowKit
attribute [local simp] eql_entry
attribute [local go_sem] guard_entry
theorem pgIn_of {w : World} {iv : Value} {P : Pg} (h : ItemsC w iv P.items) (hs : (P.items.all fun x => decide (x.length <= 1000)) = true) (hh : P.high.length <= 1000) (hl : P.items.length <= 1000) (hlsn : P.lsn <= 9223372036854775807) : PgIn w iv P :=
 ⟨h.1.weak, fun x hx => by have := List.all_eq_true.1 hs x hx; simp only [decide_eq_true_eq] at this; omega, by omega, by omega, hlsn⟩
end Go.Proofs.YtcdapdcablnhpaaGreat
namespace Go.Proofs.YtcdapdcablnhpaaGreat
open Go.RowKit
attribute [local go_sem] givesV lookV knAt hgs
end Go.Proofs.YtcdapdcablnhpaaGreat
namespace Go.Proofs.YtcdapdcablnhpaaGreat
open Go.RowKit
attribute [local go_sem] hgs
end Go.Proofs.YtcdapdcablnhpaaGreat
namespace Go.Proofs.YtcdapdcablnhpaaGreat
open Go.RowKit
attribute [local go_sem] givesV lookV knAt hgs
def FrB (B : Nat) (iv : Value) : Prop := ∀ ad n c, iv = .slice (some ad) n c -> B <= ad.block
def ItemsF (B : Nat) (w : World) (iv : Value) (l : List (List UInt8)) : Prop := ItemsC w iv l /\ FrB B iv
theorem ItemsF.fits {B : Nat} {w w' : World} {iv : Value} {l : List (List UInt8)} (h : ItemsF B w iv l) (k : Below w.heap.size w w') : ItemsF B w' iv l := ⟨h.1.fits k, h.2⟩
theorem itemsF_but {B : Nat} {w w' : World} {b : Nat} {iv : Value} {l : List (List UInt8)} {t : Nat} {cs : List Value} (h : ItemsF B w iv l) (k : But b w w') (hb : Blk w b t cs) (ht : t ≠ 9) : ItemsF B w' iv l := ⟨itemsC_but h.1 k hb ht, h.2⟩
theorem ItemsF.nil (B : Nat) (w : World) : ItemsF B w (.slice none 0 0) [] := ⟨ItemsC.nil w, fun _ _ _ e => by cases e⟩
theorem ItemsF.low {B C : Nat} {w : World} {iv : Value} {l : List (List UInt8)} (h : ItemsF B w iv l) (hc : C <= B) : ItemsF C w iv l := ⟨h.1, fun ad n c e => Nat.le_trans hc (h.2 ad n c e)⟩
theorem items_ownedF {w : World} {B C n : Nat} {v : Value} {l : List (List UInt8)} (h : w.ownsRow B 9 1 v n (sCells l)) (hc : C <= B) : ItemsF C w v l := by
 refine ⟨items_owned h, fun ad m c e => ?_⟩;rcases h.2 with ⟨h1, _⟩ | ⟨g, cap, cur, h1, h2, _⟩
 ·rw [h1] at e; cases e
 ·rw [h1] at e;simp only [Value.slice.injEq, Option.some.injEq] at e;rw [<- e.1];exact Nat.le_trans hc h2
def PgPostF (B : Nat) (P : Pg) (c : Int) (w : World) (e : Ending) (w' : World) : Prop := ∃ iv, e = .returned (.tuple #[pgV P iv, .int .i64 c]) /\ ItemsF B w' iv P.items /\ Below w.heap.size w w'
set_option maxRecDepth 100000 in
set_option maxHeartbeats 2000000 in
theorem pturned_fr (B : Nat) (P : Pg) (a0 : Option Addr) (n0 c0 : Nat) (iv : Value) (l : List (List UInt8)) (w : World) (hi : ItemsF B w iv l) (hs : ∀ x ∈ l, (x.length : Int) <= 140737488355328) (hh : (P.high.length : Int) <= 140737488355328) (hl : (l.length : Int) <= 140737488355328) :
  Calls Tryz.prog 137 #[pgV P (.slice a0 n0 c0), iv] w (PgPostF B (turnedN P l).1 (turnedN P l).2 w) := by
 obtain ⟨w0, hw0⟩ : ∃ w0, w0 = (w.alloc (.cells (pgCells P (.slice a0 n0 c0)).toArray 28)).alloc (.cells #[.int .i64 0, .int .i64 0, .int .i64 0, .int .i64 0, .string ⟨#[]⟩, .slice none 0 0] 28) := ⟨_, rfl⟩;have hg0 : Grow w w0 := by subst hw0; exact ((Grow.refl w).alloc _).alloc _
 have hB0 : Blk w0 w.heap.size 28 (pgCells P (.slice a0 n0 c0)) := by subst hw0; exact (Blk.new w _ _).alloc _
 have hR0 : Blk w0 (w.heap.size + 1) 28 (pgCells zeroP (.slice none 0 0)) := by
  have := Blk.new (w.alloc (.cells (pgCells P (.slice a0 n0 c0)).toArray 28)) 28 (pgCells zeroP (.slice none 0 0));have e : (w.alloc (.cells (pgCells P (.slice a0 n0 c0)).toArray 28)).heap.size = w.heap.size + 1 := by simp
  rw [e] at this;subst hw0; exact this
 have hi0 : ItemsF B w0 iv l := hi.fits hg0;obtain ⟨ia, ic, rfl⟩ := itemsS_form hi.1.1;have hB1 : Blk (w0.setCell ⟨w.heap.size, 5, none⟩ (.slice ia l.length ic)) w.heap.size 28 (pgCells { P with items := l } (.slice ia l.length ic)) := hB0.set 5 _;have hR1 := hR0.set_other ⟨w.heap.size, 5, none⟩ (by simp) (.slice ia l.length ic);have hi1 : ItemsF B (w0.setCell ⟨w.heap.size, 5, none⟩ (.slice ia l.length ic)) (.slice ia l.length ic) l := itemsF_but hi0 ((But.refl w.heap.size w0).setCell 5 _) hB0 (by decide);have hg1 : Grow w (w0.setCell ⟨w.heap.size, 5, none⟩ (.slice ia l.length ic)) := But.below hg0 ((But.refl w.heap.size w0).setCell 5 _) (Nat.le_refl _) (by have := hB0.lt; omega);have hf := fits_any { P with items := l } (.slice ia l.length ic) _ hi1.1.1.weak hs hh hl;have hd : turnedN P l = if fitsP { P with items := l } then ({ P with items := l }, 0) else (zeroP, 3) := rfl
 have HF := keep hf;have HB1 := keep hB1;have HR1 := keep hR1;have HI1 := keep hi1;have HG1 := keep hg1;have HD := keep hd;clear hf hB1 hR1 hi1 hg1 hd hi hi0;unfold pgCells at hw0 hB0;obtain ⟨p0, p1, p2, p3, p4, p5, q0, q1, q2, q3, q4, q5⟩ := pgres hB0;unfold pgV;go_enter Tryz.func137, Tryz.ntmps137;go_upto_region 1 with fail;rw [<- hw0];clear hw0;go_upto_region 2 with fail;have hB1 := HB1.out;have hR1 := HR1.out;have hi1 := HI1.out;have hg1 := HG1.out;have hf := HF.out;clear HB1 HR1 HI1 HG1 HF p0 p1 p2 p3 p4 p5 q0 q1 q2 q3 q4 q5 hB0 hR0 hg0;generalize w0.setCell ⟨w.heap.size, 5, none⟩ (.slice ia l.length ic) = w1 at *;unfold pgCells at hB1;unfold pgV at hf;dsimp only at hf hB1;obtain ⟨p0, p1, p2, p3, p4, p5, q0, q1, q2, q3, q4, q5⟩ := pgres hB1;generalize fitsP { P with items := l } = F at *;have HF := keep hf;have HI1 := keep hi1;have HB1 := keep hB1;have HR1 := keep hR1;have HG1 := keep hg1;clear hf hi1 hR1 hg1 hB1;go_wp2_with fail;refine HF.out.mono ?_;rintro e w2 ⟨rfl, hb2⟩;have hi2 : ItemsF B w2 (.slice ia l.length ic) l := HI1.out.fits hb2;have hB2 := HB1.out.fits hb2;have hR2 := HR1.out.fits hb2;have hg2 := Grow.trans HG1.out hb2;clear HI1 HB1 HR1 HG1 HF p0 p1 p2 p3 p4 p5 q0 q1 q2 q3 q4 q5 hb2;unfold pgCells zeroP at hR2;obtain ⟨p0, p1, p2, p3, p4, p5, _⟩ := pgres hB2;obtain ⟨r0, r1, r2, r3, r4, r5, f0, f1, f2, f3, f4, f5⟩ := pgres hR2;have hlt := hR2.lt;cases F with
 | true =>
  have Hset := keep (pgset hR2 (.int .i64 P.lsn) (.int .i64 P.kind) (.int .i64 P.level) (.int .i64 P.right) (.string (str P.high)) (.slice ia l.length ic));have Hbut := keep (pgbut w2 (w.heap.size + 1) (.int .i64 P.lsn) (.int .i64 P.kind) (.int .i64 P.level) (.int .i64 P.right) (.string (str P.high)) (.slice ia l.length ic));have Hi2 := keep hi2;have HR2 := keep hR2;have Hg2 := keep hg2;clear hi2 hR2 hg2 hB2;go_wp2_with fail;rw [HD.out, if_pos trivial];refine bodyPost_ret (v := .tuple #[pgV { P with items := l } (.slice ia l.length ic), .int .i64 0]) ?_ rfl ⟨_, rfl, itemsF_but Hi2.out Hbut.out HR2.out (by decide), But.below Hg2.out Hbut.out (by omega) (by omega)⟩;obtain ⟨s0, s1, s2, s3, s4, s5, _⟩ := pgres Hset.out;simp [results, Tryz.results137, go_sem, s0, s1, s2, s3, s4, s5, pgV]
 | false =>
  have Hset := keep (pgset hR2 (.int .i64 0) (.int .i64 0) (.int .i64 0) (.int .i64 0) (.string ⟨#[]⟩) (.slice none 0 0));have Hbut := keep (pgbut w2 (w.heap.size + 1) (.int .i64 0) (.int .i64 0) (.int .i64 0) (.int .i64 0) (.string ⟨#[]⟩) (.slice none 0 0));have Hg2 := keep hg2;clear hi2 hR2 hg2 hB2;go_wp2_with fail;rw [HD.out, if_neg (fun h => by cases h)];refine bodyPost_ret (v := .tuple #[pgV zeroP (.slice none 0 0), .int .i64 3]) ?_ rfl ⟨_, rfl, ItemsF.nil _ _, But.below Hg2.out Hbut.out (by omega) (by omega)⟩;obtain ⟨s0, s1, s2, s3, s4, s5, _⟩ := pgres Hset.out;simp [results, Tryz.results137, go_sem, s0, s1, s2, s3, s4, s5, pgV, zeroP]
  try rfl
set_option maxRecDepth 100000 in
set_option maxHeartbeats 4000000 in
theorem put_fr (P : Pg) (iv : Value) (i : Nat) (x : List UInt8) (w_ : World) (hi : Items w_ iv P.items) (hi2 : i <= P.items.length) (hs : ∀ y ∈ P.items, (y.length : Int) <= 140737488355328) (hx : (x.length : Int) <= 140737488355328) (hh : (P.high.length : Int) <= 140737488355328) (hl : P.items.length <= 8796093021980) :
  Calls Tryz.prog 85 #[pgV P iv, .int .i64 i, .string (str x)] w_ (PgPostF w_.heap.size (putN P i x).1 (putN P i x).2 w_) := by
 obtain ⟨w0, hw0⟩ : ∃ w0, w0 = (w_.alloc (.cells (pgCells P iv).toArray 28)).alloc (.cells #[.int .i64 0, .int .i64 0, .int .i64 0, .int .i64 0, .string ⟨#[]⟩, .slice none 0 0] 28) := ⟨_, rfl⟩;have hg0 : Grow w_ w0 := by subst hw0; exact ((Grow.refl w_).alloc _).alloc _
 have hP0 : Blk w0 w_.heap.size 28 (pgCells P iv) := by subst hw0; exact (Blk.new w_ _ _).alloc _
 have hR0 : Blk w0 (w_.heap.size + 1) 28 [.int .i64 0, .int .i64 0, .int .i64 0, .int .i64 0, .string ⟨#[]⟩, .slice none 0 0] := by
  have := Blk.new (w_.alloc (.cells (pgCells P iv).toArray 28)) 28 [.int .i64 0, .int .i64 0, .int .i64 0, .int .i64 0, .string ⟨#[]⟩, .slice none 0 0];have e : (w_.alloc (.cells (pgCells P iv).toArray 28)).heap.size = w_.heap.size + 1 := by simp
  rw [e] at this;subst hw0; exact this
 have hlt := hR0.lt;obtain ⟨ia, ic, rfl⟩ := items_form hi;have hsl : ∀ y ∈ P.items.take i ++ x :: P.items.drop i, (y.length : Int) <= 140737488355328 := by
  intro y hy;rcases List.mem_append.1 hy with h | h
  ·exact hs y (List.mem_of_mem_take h)
  ·rcases List.mem_cons.1 h with rfl | h
   ·exact hx
   ·exact hs y (List.mem_of_mem_drop h)
 have hll : ((P.items.take i ++ x :: P.items.drop i).length : Int) <= 140737488355328 := by simp; omega
 have ht := fun (u : World) (v : Value) (hv : ItemsF w_.heap.size u v (P.items.take i ++ x :: P.items.drop i)) => pturned_fr w_.heap.size P ia P.items.length ic v (P.items.take i ++ x :: P.items.drop i) u hv hsl hh hll
 have hd : putN P i x = turnedN P (P.items.take i ++ x :: P.items.drop i) := rfl;rw [hd];clear hd;generalize turnedN P (P.items.take i ++ x :: P.items.drop i) = R at *;obtain ⟨Q, c⟩ := R;dsimp only at ht;unfold PgPostF at ht;have HT := keep ht;have HP0 := keep (fun (u : World) (hu : From w0.heap.size w0.drew u) => Blk.below (w := w0.drew) hP0 (hu.2 (Nat.le_refl _)) hP0.lt);have HR0 := keep (fun (u : World) (hu : From w0.heap.size w0.drew u) => Blk.below (w := w0.drew) hR0 (hu.2 (Nat.le_refl _)) hR0.lt);have HI0 := keep (fun (u : World) (hu : From w0.heap.size w0.drew u) => (Row.fits (Row.fits hi hg0) (Grow.undrew (u := w0) (hu.2 (Nat.le_refl _))) : Items u _ P.items));have HL := keep (show P.items.length <= 8796093021981 by omega);have HLe := keep hi2;have HB0 := keep hg0.size;have hle : ¬ ((P.items.length : Int) < (i : Int)) := by omega
 have HP := keep hP0;clear ht hsl hll hi hs hR0;unfold pgCells at hw0 hP0;obtain ⟨p0, p1, p2, p3, p4, p5, _⟩ := pgres hP0;unfold pgV;go_enter Tryz.func85, Tryz.ntmps85;go_upto_region 1 with fail;rw [<- hw0];clear hw0;go_upto_region 3 with fail;clear p0 p1 p2 p3 p4 p5 hP0;refine wp_region_m_named (by kernel_rfl) 11 7 (fun j => decide (7 <= j)) (From w0.heap.size) (From.refl _ _) (fun _ _ => From.grow) (fun _ _ _ => From.trans) (by kernel_rfl)  (by kernel_rfl) [(18, 0), (19, 1), (20, 2), (21, 3), (22, 4), (23, 5), (24, 6), (25, 7), (26, 8), (27, 9), (28, 10)] (by kernel_rfl) [(0, true), (1, true), (2, true), (3, true), (4, true), (5, true), (6, true), (7, true), (8, true), (9, true), (10, true)] (by kernel_rfl) rfl rfl ?_;intro a0 ha0;have hsz : a0.tmps.size = 29 := (size_at ha0).trans rfl;have s1 := slot_at ha0 1 rfl;have s2 := slot_at ha0 2 rfl;have s3 := slot_at ha0 3 rfl;have HA0 := keep ha0;clear ha0;apply lexm_eq hsz [] [(19, 1), (20, 2), (21, 3), (22, 4), (23, 5), (24, 6), (25, 7), (27, 9), (28, 10)] none (by kernel_rfl) (by kernel_rfl) (by kernel_rfl) (by kernel_rfl) rfl (by decide)
 ·intro xs w hw hp K hK;obtain ⟨p0, p1, p2, p3, p4, p5, _⟩ := pgres (HP0.out w hw);go_simp;exact hK _ (Grow.refl _)
 apply lexm_eq hsz [] [(18, 0), (21, 3), (22, 4), (23, 5), (24, 6), (25, 7), (26, 8), (27, 9), (28, 10)] none (by kernel_rfl) (by kernel_rfl) (by kernel_rfl) (by kernel_rfl) rfl (by decide)
 ·intro xs w hw hp K hK;go_simp;exact hK _ (Grow.refl _)
 apply lexm_eq hsz [(1, true)] [(18, 0), (19, 1), (22, 4), (23, 5), (24, 6), (25, 7), (26, 8), (27, 9), (28, 10)] none (by kernel_rfl) (by kernel_rfl) (by kernel_rfl) (by kernel_rfl) rfl (by decide)
 ·intro xs w hw hp K hK;simp only [hz] at hp;obtain ⟨p0, p1, p2, p3, p4, p5, _⟩ := pgres (HP0.out w hw);go_simp;exact hK _ (Grow.refl _)
 refine lexm_until hsz (fun v u => u.ownsRow w0.heap.size 9 1 v P.items.length (sCells P.items)) (fun _ _ _ g h => owns_fits h g) [(2, true)] [(18, 0), (19, 1), (20, 2), (22, 4), (23, 5), (24, 6), (26, 8), (27, 9), (28, 10)] none (by kernel_rfl) (by kernel_rfl) (by kernel_rfl) (by kernel_rfl) rfl (by decide) ?_ ?_
 ·intro xs w hw hp K hK;simp only [hz] at hp;go_simp;exact (clone_any _ _ w (HI0.out w hw) HL.out).mono fun e w' ⟨v', h1, h2, h3⟩ => ⟨v', h1, hK _ _ (owns_low h2 (hw.2 (Nat.le_refl _)).size) h3⟩
 apply lexm_eq hsz [] [(18, 0), (19, 1), (20, 2), (21, 3), (23, 5), (24, 6), (26, 8), (27, 9), (28, 10)] none (by kernel_rfl) (by kernel_rfl) (by kernel_rfl) (by kernel_rfl) rfl (by decide)
 ·intro xs w hw hp K hK;go_simp;exact hK _ (Grow.refl _)
 apply lexm_eq hsz [] [(18, 0), (19, 1), (20, 2), (21, 3), (22, 4), (25, 7), (26, 8), (27, 9), (28, 10)] none (by kernel_rfl) (by kernel_rfl) (by kernel_rfl) (by kernel_rfl) rfl (by decide)
 ·intro xs w hw hp K hK;go_simp;exact hK _ (Grow.refl _)
 refine lexm_until hsz (fun v u => ∃ vb vc, v = .slice (some ⟨vb, 0, none⟩) 1 vc /\ Blk u vb 9 [.string (str x)]) (fun _ _ _ g h => h.elim fun vb h => h.elim fun vc h => ⟨vb, vc, h.1, h.2.fits g⟩) [(5, true)] [(18, 0), (19, 1), (20, 2), (21, 3), (22, 4), (23, 5), (26, 8), (27, 9), (28, 10)] none (by kernel_rfl) (by kernel_rfl) (by kernel_rfl) (by kernel_rfl) rfl (by decide) ?_ ?_
 ·intro xs w hw hp K hK;simp only [hz] at hp;go_simp;exact hK _ _ ⟨_, _, rfl, Blk.new w _ [_]⟩ ((Grow.refl _).alloc _)
 refine lexm_it rfl hsz (fun v u => u.ownsRow w0.heap.size 9 1 v (P.items.length + 1) (sCells (P.items.take i ++ x :: P.items.drop i))) (fun _ _ _ g h => owns_fits h g) [(3, true), (4, true), (6, true)] [(18, 0), (19, 1), (20, 2), (21, 3), (22, 4), (23, 5), (24, 6), (27, 9), (28, 10)] none (by kernel_rfl) (by kernel_rfl) (by kernel_rfl) (by kernel_rfl) rfl ?_ ?_
 ·intro xs w hw hp K hK;simp only [hz] at hp;obtain ⟨h3, h4, vb, vc, h6, hv⟩ := hp;go_simp;exact (insert_own w0.heap.size i vb vc (xs 3) P.items x w h3 HLe.out hv (hw.2 (Nat.le_refl _)).size HL.out).mono fun e w' ⟨v', h1, h2, h5⟩ => ⟨v', h1, hK _ _ h2 ⟨h5.size, fun _ => h5⟩⟩
 refine lexm_late rfl hsz (fun v u => ∃ iv, v = .tuple #[pgV Q iv, .int .i64 c] /\ ItemsF w_.heap.size u iv Q.items) (fun _ _ _ g h => h.elim fun iv h => ⟨iv, h.1, h.2.fits g⟩) [(0, true), (7, true)] [(18, 0), (19, 1), (20, 2), (21, 3), (22, 4), (23, 5), (24, 6), (25, 7)] none (by kernel_rfl) (by kernel_rfl) (by kernel_rfl) (by kernel_rfl) rfl (by decide) ?_ ?_
 ·intro xs w hw hp K hK;simp only [hz] at hp;obtain ⟨h0, h7⟩ := hp;go_simp;exact (HT.out w (xs 7) (items_ownedF h7 HB0.out)).mono fun e w' ⟨iv, h1, h2, h3⟩ => ⟨_, h1, hK _ _ ⟨iv, rfl, h2⟩ h3⟩
 refine lexm_late rfl hsz (fun v u => ∃ iv, v = pgV Q iv /\ ItemsF w_.heap.size u iv Q.items) (fun _ _ _ g h => h.elim fun iv h => ⟨iv, h.1, h.2.fits g⟩) [(8, true)] [(18, 0), (19, 1), (20, 2), (21, 3), (22, 4), (23, 5), (24, 6), (25, 7), (26, 8), (28, 10)] none (by kernel_rfl) (by kernel_rfl) (by kernel_rfl) (by kernel_rfl) rfl (by decide) ?_ ?_
 ·intro xs w hw hp K hK;simp only [hz] at hp;obtain ⟨iv8, h8, hit⟩ := hp;go_simp;exact hK _ _ ⟨iv8, rfl, hit⟩ (Grow.refl _)
 refine lexm_late rfl hsz (fun v _ => v = .int .i64 c) (fun _ _ _ _ h => h) [(8, true)] [(18, 0), (19, 1), (20, 2), (21, 3), (22, 4), (23, 5), (24, 6), (25, 7), (26, 8), (27, 9)] none (by kernel_rfl) (by kernel_rfl) (by kernel_rfl) (by kernel_rfl) rfl (by decide) ?_ ?_
 ·intro xs w hw hp K hK;simp only [hz] at hp;obtain ⟨iv8, h8, hit⟩ := hp;go_simp;exact hK _ _ rfl (Grow.refl _)
 intro xs w hw hp;have ha0 := HA0.out;clear HA0 hsz s1 s2 s3;simp only [hz] at hp;have h9 := hp.2.2.2.2.2.2.2.2.2.1;have h10 := hp.2.2.2.2.2.2.2.2.2.2;clear hp;subst ha0;simp only [putAll, h10];obtain ⟨iv9, h9, hit⟩ := h9;simp only [h9];obtain ⟨qa, qc, rfl⟩ := itemsS_form hit.1.1;have hR := HR0.out w hw;have hb : Below w0.heap.size w0 w := Grow.undrew (u := w0) (hw.2 (Nat.le_refl _));have hbb : Below w_.heap.size w_ w := Below.trans hg0 (hb.mono (by omega));obtain ⟨r0, r1, r2, r3, r4, r5, f0, f1, f2, f3, f4, f5⟩ := pgres hR;have Hset := keep (pgset hR (.int .i64 Q.lsn) (.int .i64 Q.kind) (.int .i64 Q.level) (.int .i64 Q.right) (.string (str Q.high)) (.slice qa Q.items.length qc));have Hbut := keep (pgbut w (w_.heap.size + 1) (.int .i64 Q.lsn) (.int .i64 Q.kind) (.int .i64 Q.level) (.int .i64 Q.right) (.string (str Q.high)) (.slice qa Q.items.length qc));have Hit := keep hit;have HR := keep hR;have Hbb := keep hbb;have hlt2 := hR.lt;clear hw h9 h10 hit hR hb hbb HR0 HI0 HP0 HT;unfold pgV;go_wp2_with fail;refine bodyPost_ret (v := .tuple #[pgV Q (.slice qa Q.items.length qc), .int .i64 c]) ?_ rfl ⟨_, rfl, itemsF_but Hit.out Hbut.out HR.out (by decide), But.below Hbb.out Hbut.out (by omega) (by omega)⟩;obtain ⟨s0, s1, s2, s3, s4, s5, _⟩ := pgres Hset.out;simp [results, Tryz.results85, go_sem, s0, s1, s2, s3, s4, s5, pgV]
set_option maxRecDepth 100000 in
set_option maxHeartbeats 4000000 in
theorem insert_fr (P : Pg) (iv : Value) (e : En) (w_ : World) (hin : PgIn w_ iv P) :
  Calls Tryz.prog 42 #[pgV P iv, enV e] w_ (PgPostF w_.heap.size (insN P e).1 (insN P e).2 w_) := by
 obtain ⟨k, p, s⟩ := e;obtain ⟨w0, hw0⟩ : ∃ w0, w0 = (((w_.alloc (.cells (pgCells P iv).toArray 28)).alloc (.cells #[.string (str k), .int .i64 p, .int .i64 s] 103)).alloc (.cells #[.int .i64 0, .int .i64 0, .int .i64 0, .int .i64 0, .string ⟨#[]⟩, .slice none 0 0] 28)) := ⟨_, rfl⟩;have hg0 : Grow w_ w0 := by subst hw0; exact (((Grow.refl w_).alloc _).alloc _).alloc _
 have hP0 : Blk w0 w_.heap.size 28 (pgCells P iv) := by
  have := ((Blk.new w_ 28 (pgCells P iv)).alloc (.cells #[.string (str k), .int .i64 p, .int .i64 s] 103)).alloc (.cells #[.int .i64 0, .int .i64 0, .int .i64 0, .int .i64 0, .string ⟨#[]⟩, .slice none 0 0] 28);subst hw0; exact this
 have hE0 : Blk w0 (w_.heap.size + 1) 103 [.string (str k), .int .i64 p, .int .i64 s] := by
  have := (Blk.new (w_.alloc (.cells (pgCells P iv).toArray 28)) 103 [.string (str k), .int .i64 p, .int .i64 s]).alloc (.cells #[.int .i64 0, .int .i64 0, .int .i64 0, .int .i64 0, .string ⟨#[]⟩, .slice none 0 0] 28);have e : (w_.alloc (.cells (pgCells P iv).toArray 28)).heap.size = w_.heap.size + 1 := by simp
  rw [e] at this;subst hw0; exact this
 have hR0 : Blk w0 (w_.heap.size + 2) 28 [.int .i64 0, .int .i64 0, .int .i64 0, .int .i64 0, .string ⟨#[]⟩, .slice none 0 0] := by
  have := Blk.new ((w_.alloc (.cells (pgCells P iv).toArray 28)).alloc (.cells #[.string (str k), .int .i64 p, .int .i64 s] 103)) 28 [.int .i64 0, .int .i64 0, .int .i64 0, .int .i64 0, .string ⟨#[]⟩, .slice none 0 0];have e : ((w_.alloc (.cells (pgCells P iv).toArray 28)).alloc (.cells #[.string (str k), .int .i64 p, .int .i64 s] 103)).heap.size = w_.heap.size + 2 := by simp
  rw [e] at this;subst hw0; exact this
 have hzR := hR0.lt;have hop := opened_pg (hin.fits hg0);obtain ⟨ia, ic, rfl⟩ := items_form hin.1;have hie := fun u => isEntry_any (k, p, s) u
 have hbe := fun (a1 a2 : Option Addr) (n1 c1 n2 c2 : Nat) (hi : En) (bd : Bool) (u : World) => beyond_any a1 a2 n1 c1 n2 c2 hi (k, p, s) bd u
 have hse := fun (l : List En) (v : Value) (u : World) (h : EnsS u v l) (hl : l.length <= 1759218604441) (hs : Sorted l) => search_any (k, p, s) l v u h hl hs
 have hby := fun (u : World) (h : enOk (k, p, s) = true) => bytes_any (k, p, s) (.slice none 0 0) [] u (enOk_fine h) (none_ints u) (by simp) (by simp)
 have hd : insN P (k, p, s) = if openOk P && (decide (P.level = 0) && (enOk (k, p, s) && !beyN (bdN P) (hiN P) (k, p, s))) then (if decide ((k, p, s) ∈ ensN P) then (zeroP, 140) else putN P (posE (ensN P) (k, p, s)) (enBytes (k, p, s) [])) else (zeroP, 140) := rfl
 unfold enV at hie hbe hse hby;dsimp only at hie hbe hse hby;have HOp := keep hop;have HIe := keep hie;have HBe := keep hbe;have HSe := keep hse;have HBy := keep hby;have HD := keep hd;have HIn := keep hin;have HP0 := keep hP0;have HE0 := keep hE0;have HR0 := keep hR0;clear hop hie hbe hse hby hd hin hE0 hR0;unfold pgCells at hw0 hP0;obtain ⟨p0, p1, p2, p3, p4, p5, _⟩ := pgres hP0;unfold pgV enV;go_enter Tryz.func42, Tryz.ntmps42;go_upto_region 1 with fail;rw [<- hw0];clear hw0;go_wp2_with fail;refine HOp.out.mono ?_;rintro x w1 ⟨a1, n1, c1, a2, n2, c2, hi, bd, ok, rfl, hok, hyes, hb1⟩;clear p0 p1 p2 p3 p4 p5 hP0;obtain ⟨w2, hw2⟩ : ∃ w2, w2 = w1.alloc (.cells #[.slice a1 n1 c1, .slice a2 n2 c2, .string (str hi.1), .int .i64 hi.2.1, .int .i64 hi.2.2, .bool bd] 151) := ⟨_, rfl⟩;have hg2 : Grow w0 w2 := by subst hw2; exact Grow.alloc hb1 _
 have hO2 : Blk w2 w1.heap.size 151 [.slice a1 n1 c1, .slice a2 n2 c2, .string (str hi.1), .int .i64 hi.2.1, .int .i64 hi.2.2, .bool bd] := by subst hw2; exact Blk.new w1 _ [_, _, _, _, _, _]
 have hyes2 : ok = true -> EnsS w2 (.slice a1 n1 c1) (ensN P) /\ hi = hiN P /\ bd = bdN P := fun h => ⟨by subst hw2; exact RowS.fits (hyes h).1 ((Grow.refl _).alloc _), (hyes h).2.2⟩
 have HYes := keep hyes2;have HOk := keep hok;have HO2 := keep hO2;have HG2 := keep hg2;clear hyes hyes2 hok hb1 hO2 hg2;go_upto_region 2 with fail;rw [<- hw2];clear hw2;have hP2 := HP0.out.fits HG2.out;have hE2 := HE0.out.fits HG2.out;unfold pgCells at hP2;obtain ⟨p0, p1, p2, p3, p4, p5, _⟩ := pgres hP2;obtain ⟨e0, e1, e2, _⟩ := enres hE2;obtain ⟨o0, o1, o2, o3, o4, o5, _⟩ := pgres HO2.out;go_cut [31] from 15 to 31 (fun sv wx => sv = .bool (!(ok && (decide (P.level = 0) && (enOk (k, p, s) && !beyN bd hi (k, p, s))))) /\ Grow w2 wx)
 case first =>
  cases ok with
  | false =>
   go_wp2_with fail
   all_goals go_meet
   all_goals (case rel => exact ⟨rfl, Grow.refl _⟩)
  | true =>
   by_cases hlv : P.level = 0
   ·have hlv2 : (P.level != 0) = false := by simp [hlv]
    have HLv := keep hlv;clear hlv;generalize enOk (k, p, s) = A at *;go_wp2_with fail;refine (HIe.out w2).mono ?_;rintro x w3 ⟨rfl, hb3⟩;cases A with
    | false =>
     go_wp2_with fail
     all_goals go_meet
     all_goals (case rel => exact ⟨by simp, hb3⟩)
    | true =>
     have hE3 := hE2.fits hb3;have hO3 := HO2.out.fits hb3;clear e0 e1 e2 o0 o1 o2 o3 o4 o5;obtain ⟨e0, e1, e2, _⟩ := enres hE3;obtain ⟨o0, o1, o2, o3, o4, o5, _⟩ := pgres hO3;have hbe := HBe.out a1 a2 n1 c1 n2 c2 hi bd w3;generalize beyN bd hi (k, p, s) = B at *;have HB := keep hbe;clear hE3 hO3 hbe;go_wp2_with fail;refine HB.out.mono ?_;rintro x w4 ⟨rfl, hb4⟩;go_wp2_with fail
     all_goals go_meet
     all_goals (case rel => exact ⟨by simp [HLv.out], Grow.trans hb3 hb4⟩)
   ·have hlv2 : (P.level != 0) = true := by simp [hlv]
    have HLv := keep hlv;clear hlv;go_wp2_with fail
    all_goals go_meet
    all_goals (case rel => exact ⟨by simp [HLv.out], Grow.refl _⟩)
 case rest =>
  obtain ⟨rfl, hg3⟩ := hcut;clear p0 p1 p2 p3 p4 p5 e0 e1 e2 o0 o1 o2 o3 o4 o5 hP2 hE2;generalize wc = w3 at *;have HG3 := keep (Grow.trans HG2.out hg3);have HGW := keep (Grow.trans hg0 HG3.out);generalize hM : (ok && (decide (P.level = 0) && (enOk (k, p, s) && !beyN bd hi (k, p, s)))) = M;cases M with
  | false =>
   have hno : insN P (k, p, s) = (zeroP, 140) := by
    rw [HD.out, <- HOk.out];cases ok with
    | false => rfl
    | true =>
     obtain ⟨_, h2, h3⟩ := HYes.out rfl;rw [<- h2, <- h3, hM]
     rfl
   have HNo := keep hno;clear hM hno hg3;have hR := HR0.out.fits HG3.out;have Hset := keep (pgset hR (.int .i64 0) (.int .i64 0) (.int .i64 0) (.int .i64 0) (.string ⟨#[]⟩) (.slice none 0 0));have Hbut := keep (pgbut w3 (w_.heap.size + 2) (.int .i64 0) (.int .i64 0) (.int .i64 0) (.int .i64 0) (.string ⟨#[]⟩) (.slice none 0 0));have hlt2 := hR.lt;obtain ⟨r0, r1, r2, r3, r4, r5, f0, f1, f2, f3, f4, f5⟩ := pgres hR;clear hR;go_wp2_with fail;rw [HNo.out];refine bodyPost_ret (v := .tuple #[pgV zeroP (.slice none 0 0), .int .i64 140]) ?_ rfl ⟨_, rfl, ItemsF.nil _ _, But.below HGW.out Hbut.out (by omega) (by omega)⟩;obtain ⟨s0, s1, s2, s3, s4, s5, _⟩ := pgres Hset.out;simp [results, Tryz.results42, go_sem, s0, s1, s2, s3, s4, s5, pgV, zeroP]
   rfl
  | true =>
   have hm : ok = true /\ P.level = 0 /\ enOk (k, p, s) = true /\ beyN bd hi (k, p, s) = false := by simpa [and_assoc] using hM
   obtain ⟨rfl, hlv, hen, hbe⟩ := hm;obtain ⟨hes, rfl, rfl⟩ := HYes.out rfl;have hes3 : EnsS w3 (.slice a1 n1 c1) (ensN P) := RowS.fits hes hg3;have hopen : openOk P = true := HOk.out.symm;have hd2 : insN P (k, p, s) = if decide ((k, p, s) ∈ ensN P) then (zeroP, 140) else putN P (posE (ensN P) (k, p, s)) (enBytes (k, p, s) []) := by
    rw [HD.out, hopen, hM.symm.trans (by rfl)];simp [hlv, hen, hbe]
   have hsc := HSe.out (ensN P) (.slice a1 n1 c1) w3 hes3 (by rw [ensN_length]; have := (open_fine hopen).1; omega) (open_sorted hopen);have hE3 := HE0.out.fits HG3.out;have hO3 := HO2.out.fits hg3;obtain ⟨e0, e1, e2, _⟩ := enres hE3;obtain ⟨o0, o1, o2, o3, o4, o5, _⟩ := pgres hO3;have HSc := keep hsc;have HD2 := keep hd2;have HEn := keep hen;have HOpen := keep hopen;clear hM hlv hen hbe hes hes3 hopen hd2 hsc hg3 hE3 hO3;go_wp2_with fail;refine HSc.out.mono ?_;rintro x w4 ⟨rfl, hb4⟩;clear e0 e1 e2 o0 o1 o2 o3 o4 o5;have HG4 := keep (Grow.trans HG3.out hb4);have HGW4 := keep (Grow.trans HGW.out hb4);clear hb4;have hd3 := HD2.out;generalize decide ((k, p, s) ∈ ensN P) = F at *;cases F with
   | true =>
    have hno : insN P (k, p, s) = (zeroP, 140) := hd3;have HNo := keep hno;clear hno hd3;have hR := HR0.out.fits HG4.out;have Hset := keep (pgset hR (.int .i64 0) (.int .i64 0) (.int .i64 0) (.int .i64 0) (.string ⟨#[]⟩) (.slice none 0 0));have Hbut := keep (pgbut w4 (w_.heap.size + 2) (.int .i64 0) (.int .i64 0) (.int .i64 0) (.int .i64 0) (.string ⟨#[]⟩) (.slice none 0 0));have hlt2 := hR.lt;obtain ⟨r0, r1, r2, r3, r4, r5, f0, f1, f2, f3, f4, f5⟩ := pgres hR;clear hR;go_wp2_with fail;rw [HNo.out];refine bodyPost_ret (v := .tuple #[pgV zeroP (.slice none 0 0), .int .i64 140]) ?_ rfl ⟨_, rfl, ItemsF.nil _ _, But.below HGW4.out Hbut.out (by omega) (by omega)⟩;obtain ⟨s0, s1, s2, s3, s4, s5, _⟩ := pgres Hset.out;simp [results, Tryz.results42, go_sem, s0, s1, s2, s3, s4, s5, pgV, zeroP]
    rfl
   | false =>
    have hd4 : insN P (k, p, s) = putN P (posE (ensN P) (k, p, s)) (enBytes (k, p, s) []) := hd3;clear hd3 HD HD2;have hpu := fun (u : World) (hi : Items u (.slice ia P.items.length ic) P.items) => put_fr P (.slice ia P.items.length ic) (posE (ensN P) (k, p, s)) (enBytes (k, p, s) []) u hi (by rw [<- ensN_length]; exact posE_le _ _) HIn.out.2.1 (by have := enBytes_length _ HEn.out; omega) HIn.out.2.2.1 (by have := (open_fine HOpen.out).1; omega)
    generalize putN P (posE (ensN P) (k, p, s)) (enBytes (k, p, s) []) = R at *;obtain ⟨Q, cd⟩ := R;dsimp only at hpu;unfold PgPostF at hpu;have HPu := keep hpu;have HD4 := keep hd4;clear hd4;have HBy2 := keep (fun u => HBy.out u HEn.out);have HP7 := keep (fun (u : World) (hu : Grow w4.drew u) => Blk.fits (Blk.drew (HP0.out.fits HG4.out)) hu);have HE7 := keep (fun (u : World) (hu : Grow w4.drew u) => Blk.fits (Blk.drew (HE0.out.fits HG4.out)) hu);have HI7 := keep (fun (u : World) (hu : Grow w4.drew u) => (Row.fits HIn.out.1 (Grow.trans HGW4.out (Grow.undrew hu)) : Items u _ P.items));have HR4 := keep (HR0.out.fits HG4.out);have HGz := keep (show w_.heap.size <= w4.heap.size from HGW4.out.size);clear hpu;go_upto_region 7 with fail;refine wp_region_grow_named (by kernel_rfl) 7 (by kernel_rfl) [(42, 0), (43, 1), (44, 2), (45, 3), (46, 4), (47, 5), (48, 6)] (by kernel_rfl) [(0, true), (1, true), (2, true), (3, true), (4, true), (5, true), (6, true)] (by kernel_rfl) rfl rfl ?_;intro a0 ha0;have hsz : a0.tmps.size = 49 := (size_at ha0).trans rfl;have s2 := slot_at ha0 2 rfl;have s3 := slot_at ha0 3 rfl;have s8 := slot_at ha0 8 rfl;have HA0 := keep ha0;clear ha0;apply lq hsz [] [(43, 1), (44, 2), (45, 3), (47, 5), (48, 6)] none (by kernel_rfl) rfl
    ·intro xs w hw hp K hK;obtain ⟨p0, p1, p2, p3, p4, p5, _⟩ := pgres (HP7.out w hw);go_simp;exact hK _ (Grow.refl _)
    apply lq hsz [] [(42, 0), (44, 2), (45, 3), (47, 5), (48, 6)] none (by kernel_rfl) rfl
    ·intro xs w hw hp K hK;go_simp;exact hK _ (Grow.refl _)
    apply lq hsz [] [(42, 0), (43, 1), (46, 4), (47, 5), (48, 6)] none (by kernel_rfl) rfl
    ·intro xs w hw hp K hK;obtain ⟨e0, e1, e2, _⟩ := enres (HE7.out w hw);go_simp;exact hK _ (Grow.refl _)
    apply lq hsz [(2, true)] [(42, 0), (43, 1), (44, 2), (47, 5), (48, 6)] none (by kernel_rfl) rfl
    ·intro xs w hw hp K hK;simp only [hz] at hp;go_simp;exact (HBy2.out w).mono fun e w' h => ⟨_, h.1, hK _ h.2⟩
    refine lexf_says hsz (fun v u => ∃ iv, v = .tuple #[pgV Q iv, .int .i64 cd] /\ ItemsF w_.heap.size u iv Q.items) (fun _ _ _ g h => h.elim fun iv h => ⟨iv, h.1, h.2.fits g⟩) [(0, true), (1, true), (3, true)] [(42, 0), (43, 1), (44, 2), (45, 3)] none (by kernel_rfl) (by kernel_rfl) (by kernel_rfl) (by kernel_rfl) rfl ?_ ?_
    ·intro xs w hw hp K hK;simp only [hz] at hp;go_simp;exact (HPu.out w (HI7.out w hw)).mono fun e w' ⟨iv, h1, h2, h3⟩ => ⟨_, h1, hK _ _ ⟨iv, rfl, h2.low (Nat.le_trans HGz.out hw.undrew.size)⟩ h3⟩
    refine lexf_says hsz (fun v u => ∃ iv, v = pgV Q iv /\ ItemsF w_.heap.size u iv Q.items) (fun _ _ _ g h => h.elim fun iv h => ⟨iv, h.1, h.2.fits g⟩) [(4, true)] [(42, 0), (43, 1), (44, 2), (45, 3), (46, 4), (48, 6)] none (by kernel_rfl) (by kernel_rfl) (by kernel_rfl) (by kernel_rfl) rfl ?_ ?_
    ·intro xs w hw hp K hK;simp only [hz] at hp;obtain ⟨iv8, h8, hit⟩ := hp;go_simp;exact hK _ _ ⟨iv8, rfl, hit⟩ (Grow.refl _)
    refine lexf_says hsz (fun v _ => v = .int .i64 cd) (fun _ _ _ _ h => h) [(4, true)] [(42, 0), (43, 1), (44, 2), (45, 3), (46, 4), (47, 5)] none (by kernel_rfl) (by kernel_rfl) (by kernel_rfl) (by kernel_rfl) rfl ?_ ?_
    ·intro xs w hw hp K hK;simp only [hz] at hp;obtain ⟨iv8, h8, hit⟩ := hp;go_simp;exact hK _ _ rfl (Grow.refl _)
    intro xs w hw hp;have ha0 := HA0.out;clear HA0 hsz s2 s3 s8;simp only [hz] at hp;have h9 := hp.2.2.2.2.2.1;have h10 := hp.2.2.2.2.2.2;clear hp;subst ha0;simp only [putAll, h10];obtain ⟨iv9, h9, hit⟩ := h9;simp only [h9];obtain ⟨qa, qc, rfl⟩ := itemsS_form hit.1.1;have hgw := hw.undrew;have hR := HR4.out.fits hgw;have hbb : Below w_.heap.size w_ w := Grow.trans HGW4.out hgw;obtain ⟨r0, r1, r2, r3, r4, r5, f0, f1, f2, f3, f4, f5⟩ := pgres hR;have Hset := keep (pgset hR (.int .i64 Q.lsn) (.int .i64 Q.kind) (.int .i64 Q.level) (.int .i64 Q.right) (.string (str Q.high)) (.slice qa Q.items.length qc));have Hbut := keep (pgbut w (w_.heap.size + 2) (.int .i64 Q.lsn) (.int .i64 Q.kind) (.int .i64 Q.level) (.int .i64 Q.right) (.string (str Q.high)) (.slice qa Q.items.length qc));have Hit := keep hit;have HR := keep hR;have Hbb := keep hbb;have hlt2 := hR.lt;clear hw h9 h10 hit hR hbb hgw;unfold pgV;go_wp2_with fail;rw [HD4.out];refine bodyPost_ret (v := .tuple #[pgV Q (.slice qa Q.items.length qc), .int .i64 cd]) ?_ rfl ⟨_, rfl, itemsF_but Hit.out Hbut.out HR.out (by decide), But.below Hbb.out Hbut.out (by omega) (by omega)⟩;obtain ⟨s0, s1, s2, s3, s4, s5, _⟩ := pgres Hset.out;simp [results, Tryz.results42, go_sem, s0, s1, s2, s3, s4, s5, pgV]
end Go.Proofs.YtcdapdcablnhpaaGreat
namespace Go.Proofs.YtcdapdcablnhpaaGreat
open Go.RowKit
theorem insL_length (l : List En) (e : En) : (insL l e).length = l.length + 1 := by
 have := posE_le l e;simp [insL];omega
structure Ins (l m : List En) (e : En) (K : Nat) : Prop where
 good : GoodL m
 len : m.length = l.length + 1
 pos : K <= l.length
 at_ : ∀ h : K < m.length, m[K] = e
 get : ∀ (i j : Nat) (hi : i < m.length) (hj : j < l.length), (i < K /\ j = i) \/ (K < i /\ i = j + 1) -> m[i] = l[j]
 other : ∀ (i : Nat) (hi : i < m.length), i ≠ K -> m[i] ≠ e
 less : ∀ (i : Nat) (hi : i + 1 < m.length), cmpE (m[i]'(by omega)) m[i + 1] = -1
 back : remL m K = l
 out : e ∉ l
end Go.Proofs.YtcdapdcablnhpaaGreat
