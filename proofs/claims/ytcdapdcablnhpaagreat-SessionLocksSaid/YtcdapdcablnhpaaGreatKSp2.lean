import Derived.Test.YtcdapdcablnhpaaGreatKBs1
import Derived.Test.YtcdapdcablnhpaaGreatKPt1
import Derived.Test.YtcdapdcablnhpaaGreatKLexn
import Derived.Deep.CutRange
import Derived.Test.YtcdapdcablnhpaaGreatKOwn2
import Derived.BigQuiet
namespace Go.Proofs.YtcdapdcablnhpaaGreat
open Go.RowKit
attribute [local go_sem] hgs
def beyN (bd : Bool) (hi e : En) : Bool := bd && decide (0 < cmpE e hi)
theorem beyond_any (a1 a2 : Option Addr) (n1 c1 n2 c2 : Nat) (hi e : En) (bd : Bool) (w_ : World) :
  Calls Tryz.prog 82 #[.agg #[.slice a1 n1 c1, .slice a2 n2 c2, .string (str hi.1), .int .i64 hi.2.1, .int .i64 hi.2.2, .bool bd], enV e] w_ fun x w' => x = .returned (.bool (beyN bd hi e)) /\ Below w_.heap.size w_ w' := by
 have hcp := fun u => compare_any e hi u
 have hd : beyN bd hi e = (bd && decide (0 < cmpE e hi)) := rfl;rw [hd];clear hd;generalize cmpE e hi = F at *;obtain ⟨hk, hp, hs⟩ := hi;obtain ⟨k, p, s⟩ := e;unfold enV at *;dsimp only at *;obtain ⟨w0, hw0⟩ : ∃ w0, w0 = (w_.alloc (.cells #[.slice a1 n1 c1, .slice a2 n2 c2, .string (str hk), .int .i64 hp, .int .i64 hs, .bool bd] 151)).alloc (.cells #[.string (str k), .int .i64 p, .int .i64 s] 103) := ⟨_, rfl⟩;have hg0 : Grow w_ w0 := by subst hw0; exact ((Grow.refl w_).alloc _).alloc _
 have hO0 : Blk w0 w_.heap.size 151 [.slice a1 n1 c1, .slice a2 n2 c2, .string (str hk), .int .i64 hp, .int .i64 hs, .bool bd] := by subst hw0; exact (Blk.new w_ _ [_, _, _, _, _, _]).alloc _
 have hE0 : Blk w0 (w_.heap.size + 1) 103 [.string (str k), .int .i64 p, .int .i64 s] := by
  have := Blk.new (w_.alloc (.cells #[.slice a1 n1 c1, .slice a2 n2 c2, .string (str hk), .int .i64 hp, .int .i64 hs, .bool bd] 151)) 103 [.string (str k), .int .i64 p, .int .i64 s];have e : (w_.alloc (.cells #[.slice a1 n1 c1, .slice a2 n2 c2, .string (str hk), .int .i64 hp, .int .i64 hs, .bool bd] 151)).heap.size = w_.heap.size + 1 := by simp
  rw [e] at this;subst hw0; exact this
 obtain ⟨o0, o1, o2, o3, o4, o5, _⟩ := pgres hO0;obtain ⟨e0, e1, e2, _⟩ := enres hE0;have HCp := keep hcp;clear hcp hO0 hE0;go_enter Tryz.func82, Tryz.ntmps82;go_upto_region 1 with fail;rw [<- hw0];clear hw0;cases bd with
 | false =>
  go_wp2_with fail;go_ret;exact ⟨rfl, hg0⟩
 | true =>
  go_wp2_with fail;refine (HCp.out w0).mono ?_;rintro x w1 ⟨rfl, hb1⟩;go_wp2_with fail;go_ret;exact ⟨rfl, Grow.trans hg0 hb1⟩
def leafP : Pg := ⟨0, 3, 0, 0, [], []⟩
set_option maxRecDepth 100000 in
set_option maxHeartbeats 1000000 in
theorem leaf_any (w_ : World) : Calls Tryz.prog 40 #[] w_ fun x w' => x = .returned (pgV leafP (.slice none 0 0)) /\ Below w_.heap.size w_ w' := by
 obtain ⟨w0, hw0⟩ : ∃ w0, w0 = w_.alloc (.cells #[.int .i64 0, .int .i64 0, .int .i64 0, .int .i64 0, .string ⟨#[]⟩, .slice none 0 0] 28) := ⟨_, rfl⟩;have hg0 : Grow w_ w0 := by subst hw0; exact (Grow.refl w_).alloc _
 have hR : Blk w0 w_.heap.size 28 [.int .i64 0, .int .i64 0, .int .i64 0, .int .i64 0, .string ⟨#[]⟩, .slice none 0 0] := by subst hw0; exact Blk.new w_ _ [_, _, _, _, _, _]
 have hlt := hR.lt;obtain ⟨r0, r1, r2, r3, r4, r5, f0, f1, f2, f3, f4, f5⟩ := pgres hR;have Hset := keep (pgset hR (.int .i64 0) (.int .i64 3) (.int .i64 0) (.int .i64 0) (.string ⟨#[]⟩) (.slice none 0 0));have Hbut := keep (pgbut w0 w_.heap.size (.int .i64 0) (.int .i64 3) (.int .i64 0) (.int .i64 0) (.string ⟨#[]⟩) (.slice none 0 0));clear hR;go_enter Tryz.func40, Tryz.ntmps40;go_upto_region 1 with fail;rw [<- hw0];clear hw0;go_wp2_with fail;refine bodyPost_ret (v := pgV leafP (.slice none 0 0)) ?_ rfl ⟨rfl, But.below hg0 Hbut.out (Nat.le_refl _) (Nat.le_of_lt hlt)⟩;obtain ⟨s0, s1, s2, s3, s4, s5, _⟩ := pgres Hset.out;simp [results, Tryz.results40, go_sem, s0, s1, s2, s3, s4, s5, pgV, leafP]
 try rfl
theorem okTo_at {lv : Int} {hi : En} {bd : Bool} {items : List (List UInt8)} {n : Nat} (h : okTo lv hi bd items n = true) : ∀ k, k < n -> roundOk lv hi bd k (itemN lv (items.getD (k - 1) [])) (itemN lv (items.getD k [])) = true := by
 induction n with
 | zero => intro k hk; omega
 | succ n ih =>
  rw [okTo, Bool.and_eq_true] at h;intro k hk
  by_cases e : k = n
  ·rw [e]; exact h.2
  ·exact ih h.1 k (by omega)
theorem round_lt {lv : Int} {hi : En} {bd : Bool} {k : Nat} {pr x : En × Int × Int} (h : roundOk lv hi bd k pr x = true) (hk : k ≠ 0) : cmpE pr.1 x.1 = -1 := by
 simp only [roundOk, Bool.and_eq_true] at h;have := h.2.2.1;rw [decide_eq_false hk, Bool.false_or, decide_eq_true_eq] at this;exact (cmp_neg_iff _ _).1 this
theorem ens_sorted {P : Pg} (h : okTo P.level (hiN P) (bdN P) P.items P.items.length = true) : Sorted (ensN P) := by
 have hlen : (ensN P).length = P.items.length := ensTo_length _ _ _ (Nat.le_refl _);have hat : ∀ i (hi : i < (ensN P).length), (ensN P)[i] = (itemN P.level (P.items.getD i [])).1 := by
  intro i hi;simp [ensN, ensTo, hlen ▸ hi]
 have step : ∀ i (hi : i + 1 < (ensN P).length), cmpE (ensN P)[i] (ensN P)[i + 1] = -1 := by
  intro i hi;rw [hat, hat];have := round_lt (okTo_at h (i + 1) (by omega)) (by omega)
  rwa [show i + 1 - 1 = i by omega] at this
 unfold Sorted;rw [List.pairwise_iff_getElem];intro i j hi hj hij;obtain ⟨d, rfl⟩ : ∃ d, j = i + 1 + d := ⟨j - (i + 1), by omega⟩
 induction d with
 | zero => exact step i hj
 | succ d ih =>
  have h1 := ih (by omega) (by omega);exact cmpE_trans h1 (step (i + 1 + d) (by omega))
theorem open_sorted {P : Pg} (h : openOk P = true) : Sorted (ensN P) := by
 unfold openOk at h;simp only [Bool.and_eq_true] at h;exact ens_sorted h.2.1
theorem open_fine {P : Pg} (h : openOk P = true) : P.items.length <= 255 /\ P.high.length <= 255 /\ (∀ x ∈ P.items, x.length <= 512) /\ 0 <= P.level /\ P.level <= 255 /\ 0 <= P.right := by
 unfold openOk headOk at h;simp only [Bool.and_eq_true] at h;exact encOk_fine h.1.1.1
theorem ensN_length (P : Pg) : (ensN P).length = P.items.length := ensTo_length _ _ _ (Nat.le_refl _)
theorem posE_le (l : List En) (t : En) : posE l t <= l.length := List.countP_le_length
end Go.Proofs.YtcdapdcablnhpaaGreat
namespace Go.Proofs.YtcdapdcablnhpaaGreat
open Go.RowKit
attribute [local go_sem] givesV lookV knAt hgs
def insN (P : Pg) (e : En) : Pg × Int :=
 if openOk P && (decide (P.level = 0) && (enOk e && !beyN (bdN P) (hiN P) e)) then (if decide (e ∈ ensN P) then (zeroP, 140) else putN P (posE (ensN P) e) (enBytes e [])) else (zeroP, 140)
def PgIn (w : World) (iv : Value) (P : Pg) : Prop :=
 Items w iv P.items /\ (∀ x ∈ P.items, (x.length : Int) <= 140737488355328) /\ (P.high.length : Int) <= 140737488355328 /\ (P.items.length : Int) <= 140737488355328 /\ P.lsn <= 9223372036854775807
theorem PgIn.fits {w w' : World} {iv : Value} {P : Pg} (h : PgIn w iv P) (g : Grow w w') : PgIn w' iv P := ⟨Row.fits h.1 g, h.2⟩
theorem opened_pg {w : World} {iv : Value} {P : Pg} (h : PgIn w iv P) : Calls Tryz.prog 80 #[pgV P iv] w (OpenPost P w) := opened_any P iv w h.1 h.2.1 h.2.2.1 h.2.2.2.1 h.2.2.2.2
theorem enBytes_length (e : En) (h : enOk e = true) : (enBytes e []).length <= 60 := by
 have := (enOk_fine h).1;have h1 := sev_length e.1.length;have h2 := sevs_length [e.2.1, e.2.2];simp [enBytes, txt, sevs] at *;omega
set_option maxRecDepth 100000 in
set_option maxHeartbeats 4000000 in
theorem insert_any (P : Pg) (iv : Value) (e : En) (w_ : World) (hin : PgIn w_ iv P) :
  Calls Tryz.prog 42 #[pgV P iv, enV e] w_ (PgPost (insN P e).1 (insN P e).2 w_) := by
 obtain ⟨k, p, s⟩ := e;obtain ⟨w0, hw0⟩ : ∃ w0, w0 = (((w_.alloc (.cells (pgCells P iv).toArray 28)).alloc (.cells #[.string (str k), .int .i64 p, .int .i64 s] 103)).alloc (.cells #[.int .i64 0, .int .i64 0, .int .i64 0, .int .i64 0, .string ⟨#[]⟩, .slice none 0 0] 28)) := ⟨_, rfl⟩;have hg0 : Grow w_ w0 := by subst hw0; exact (((Grow.refl w_).alloc _).alloc _).alloc _
 have hP0 : Blk w0 w_.heap.size 28 (pgCells P iv) := by
  have := ((Blk.new w_ 28 (pgCells P iv)).alloc (.cells #[.string (str k), .int .i64 p, .int .i64 s] 103)).alloc (.cells #[.int .i64 0, .int .i64 0, .int .i64 0, .int .i64 0, .string ⟨#[]⟩, .slice none 0 0] 28);subst hw0; exact this
 have hE0 : Blk w0 (w_.heap.size + 1) 103 [.string (str k), .int .i64 p, .int .i64 s] := by
  have := (Blk.new (w_.alloc (.cells (pgCells P iv).toArray 28)) 103 [.string (str k), .int .i64 p, .int .i64 s]).alloc (.cells #[.int .i64 0, .int .i64 0, .int .i64 0, .int .i64 0, .string ⟨#[]⟩, .slice none 0 0] 28);have e : (w_.alloc (.cells (pgCells P iv).toArray 28)).heap.size = w_.heap.size + 1 := by simp
  rw [e] at this;subst hw0; exact this
 have hR0 : Blk w0 (w_.heap.size + 2) 28 [.int .i64 0, .int .i64 0, .int .i64 0, .int .i64 0, .string ⟨#[]⟩, .slice none 0 0] := by
  have := Blk.new ((w_.alloc (.cells (pgCells P iv).toArray 28)).alloc (.cells #[.string (str k), .int .i64 p, .int .i64 s] 103)) 28 [.int .i64 0, .int .i64 0, .int .i64 0, .int .i64 0, .string ⟨#[]⟩, .slice none 0 0];have e : ((w_.alloc (.cells (pgCells P iv).toArray 28)).alloc (.cells #[.string (str k), .int .i64 p, .int .i64 s] 103)).heap.size = w_.heap.size + 2 := by simp
  rw [e] at this;subst hw0; exact this
 have hzR := hR0.lt;have hop := opened_pg (hin.fits hg0);obtain ⟨ia, ic, rfl⟩ := items_form hin.1;have hie := fun u => isEntry_any (k, p, s) u
 have hbe := fun (a1 a2 : Option Addr) (n1 c1 n2 c2 : Nat) (hi : En) (bd : Bool) (u : World) => beyond_any a1 a2 n1 c1 n2 c2 hi (k, p, s) bd u
 have hse := fun (l : List En) (v : Value) (u : World) (h : EnsS u v l) (hl : l.length <= 1759218604441) (hs : Sorted l) => search_any (k, p, s) l v u h hl hs
 have hby := fun (u : World) (h : enOk (k, p, s) = true) => bytes_any (k, p, s) (.slice none 0 0) [] u (enOk_fine h) (none_ints u) (by simp) (by simp)
 have hd : insN P (k, p, s) = if openOk P && (decide (P.level = 0) && (enOk (k, p, s) && !beyN (bdN P) (hiN P) (k, p, s))) then (if decide ((k, p, s) ∈ ensN P) then (zeroP, 140) else putN P (posE (ensN P) (k, p, s)) (enBytes (k, p, s) [])) else (zeroP, 140) := rfl
 unfold enV at hie hbe hse hby;dsimp only at hie hbe hse hby;have HOp := keep hop;have HIe := keep hie;have HBe := keep hbe;have HSe := keep hse;have HBy := keep hby;have HD := keep hd;have HIn := keep hin;have HP0 := keep hP0;have HE0 := keep hE0;have HR0 := keep hR0;clear hop hie hbe hse hby hd hin hE0 hR0;unfold pgCells at hw0 hP0;obtain ⟨p0, p1, p2, p3, p4, p5, _⟩ := pgres hP0;unfold pgV enV;go_enter Tryz.func42, Tryz.ntmps42;go_upto_region 1 with fail;rw [<- hw0];clear hw0;go_wp2_with fail;refine HOp.out.mono ?_;rintro x w1 ⟨a1, n1, c1, a2, n2, c2, hi, bd, ok, rfl, hok, hyes, hb1⟩;clear p0 p1 p2 p3 p4 p5 hP0;obtain ⟨w2, hw2⟩ : ∃ w2, w2 = w1.alloc (.cells #[.slice a1 n1 c1, .slice a2 n2 c2, .string (str hi.1), .int .i64 hi.2.1, .int .i64 hi.2.2, .bool bd] 151) := ⟨_, rfl⟩;have hg2 : Grow w0 w2 := by subst hw2; exact Grow.alloc hb1 _
 have hO2 : Blk w2 w1.heap.size 151 [.slice a1 n1 c1, .slice a2 n2 c2, .string (str hi.1), .int .i64 hi.2.1, .int .i64 hi.2.2, .bool bd] := by subst hw2; exact Blk.new w1 _ [_, _, _, _, _, _]
 have hyes2 : ok = true -> EnsS w2 (.slice a1 n1 c1) (ensN P) /\ hi = hiN P /\ bd = bdN P := fun h => ⟨by subst hw2; exact RowS.fits (hyes h).1 ((Grow.refl _).alloc _), (hyes h).2.2⟩
 have HYes := keep hyes2;have HOk := keep hok;have HO2 := keep hO2;have HG2 := keep hg2;clear hyes hyes2 hok hb1 hO2 hg2;go_upto_region 2 with fail;rw [<- hw2];clear hw2;have hP2 := HP0.out.fits HG2.out;have hE2 := HE0.out.fits HG2.out;unfold pgCells at hP2;obtain ⟨p0, p1, p2, p3, p4, p5, _⟩ := pgres hP2;obtain ⟨e0, e1, e2, _⟩ := enres hE2;obtain ⟨o0, o1, o2, o3, o4, o5, _⟩ := pgres HO2.out;go_cut [31] from 15 to 31 (fun sv wx => sv = .bool (!(ok && (decide (P.level = 0) && (enOk (k, p, s) && !beyN bd hi (k, p, s))))) /\ Grow w2 wx)
 case first =>
  cases ok with
  | false =>
   go_wp2_with fail
   all_goals go_meet
   all_goals (case rel => exact ⟨rfl, Grow.refl _⟩)
  | true =>
   by_cases hlv : P.level = 0
   ·have hlv2 : (P.level != 0) = false := by simp [hlv]
    have HLv := keep hlv;clear hlv;generalize enOk (k, p, s) = A at *;go_wp2_with fail;refine (HIe.out w2).mono ?_;rintro x w3 ⟨rfl, hb3⟩;cases A with
    | false =>
     go_wp2_with fail
     all_goals go_meet
     all_goals (case rel => exact ⟨by simp, hb3⟩)
    | true =>
     have hE3 := hE2.fits hb3;have hO3 := HO2.out.fits hb3;clear e0 e1 e2 o0 o1 o2 o3 o4 o5;obtain ⟨e0, e1, e2, _⟩ := enres hE3;obtain ⟨o0, o1, o2, o3, o4, o5, _⟩ := pgres hO3;have hbe := HBe.out a1 a2 n1 c1 n2 c2 hi bd w3;generalize beyN bd hi (k, p, s) = B at *;have HB := keep hbe;clear hE3 hO3 hbe;go_wp2_with fail;refine HB.out.mono ?_;rintro x w4 ⟨rfl, hb4⟩;go_wp2_with fail
     all_goals go_meet
     all_goals (case rel => exact ⟨by simp [HLv.out], Grow.trans hb3 hb4⟩)
   ·have hlv2 : (P.level != 0) = true := by simp [hlv]
    have HLv := keep hlv;clear hlv;go_wp2_with fail
    all_goals go_meet
    all_goals (case rel => exact ⟨by simp [HLv.out], Grow.refl _⟩)
 case rest =>
  obtain ⟨rfl, hg3⟩ := hcut;clear p0 p1 p2 p3 p4 p5 e0 e1 e2 o0 o1 o2 o3 o4 o5 hP2 hE2;generalize wc = w3 at *;have HG3 := keep (Grow.trans HG2.out hg3);have HGW := keep (Grow.trans hg0 HG3.out);generalize hM : (ok && (decide (P.level = 0) && (enOk (k, p, s) && !beyN bd hi (k, p, s)))) = M;cases M with
  | false =>
   have hno : insN P (k, p, s) = (zeroP, 140) := by
    rw [HD.out, <- HOk.out];cases ok with
    | false => rfl
    | true =>
     obtain ⟨_, h2, h3⟩ := HYes.out rfl;rw [<- h2, <- h3, hM]
     rfl
   have HNo := keep hno;clear hM hno hg3;have hR := HR0.out.fits HG3.out;have Hset := keep (pgset hR (.int .i64 0) (.int .i64 0) (.int .i64 0) (.int .i64 0) (.string ⟨#[]⟩) (.slice none 0 0));have Hbut := keep (pgbut w3 (w_.heap.size + 2) (.int .i64 0) (.int .i64 0) (.int .i64 0) (.int .i64 0) (.string ⟨#[]⟩) (.slice none 0 0));have hlt2 := hR.lt;obtain ⟨r0, r1, r2, r3, r4, r5, f0, f1, f2, f3, f4, f5⟩ := pgres hR;clear hR;go_wp2_with fail;rw [HNo.out];refine bodyPost_ret (v := .tuple #[pgV zeroP (.slice none 0 0), .int .i64 140]) ?_ rfl ⟨_, rfl, ItemsC.nil _, But.below HGW.out Hbut.out (by omega) (by omega)⟩;obtain ⟨s0, s1, s2, s3, s4, s5, _⟩ := pgres Hset.out;simp [results, Tryz.results42, go_sem, s0, s1, s2, s3, s4, s5, pgV, zeroP]
   rfl
  | true =>
   have hm : ok = true /\ P.level = 0 /\ enOk (k, p, s) = true /\ beyN bd hi (k, p, s) = false := by simpa [and_assoc] using hM
   obtain ⟨rfl, hlv, hen, hbe⟩ := hm;obtain ⟨hes, rfl, rfl⟩ := HYes.out rfl;have hes3 : EnsS w3 (.slice a1 n1 c1) (ensN P) := RowS.fits hes hg3;have hopen : openOk P = true := HOk.out.symm;have hd2 : insN P (k, p, s) = if decide ((k, p, s) ∈ ensN P) then (zeroP, 140) else putN P (posE (ensN P) (k, p, s)) (enBytes (k, p, s) []) := by
    rw [HD.out, hopen, hM.symm.trans (by rfl)];simp [hlv, hen, hbe]
   have hsc := HSe.out (ensN P) (.slice a1 n1 c1) w3 hes3 (by rw [ensN_length]; have := (open_fine hopen).1; omega) (open_sorted hopen);have hE3 := HE0.out.fits HG3.out;have hO3 := HO2.out.fits hg3;obtain ⟨e0, e1, e2, _⟩ := enres hE3;obtain ⟨o0, o1, o2, o3, o4, o5, _⟩ := pgres hO3;have HSc := keep hsc;have HD2 := keep hd2;have HEn := keep hen;have HOpen := keep hopen;clear hM hlv hen hbe hes hes3 hopen hd2 hsc hg3 hE3 hO3;go_wp2_with fail;refine HSc.out.mono ?_;rintro x w4 ⟨rfl, hb4⟩;clear e0 e1 e2 o0 o1 o2 o3 o4 o5;have HG4 := keep (Grow.trans HG3.out hb4);have HGW4 := keep (Grow.trans HGW.out hb4);clear hb4;have hd3 := HD2.out;generalize decide ((k, p, s) ∈ ensN P) = F at *;cases F with
   | true =>
    have hno : insN P (k, p, s) = (zeroP, 140) := hd3;have HNo := keep hno;clear hno hd3;have hR := HR0.out.fits HG4.out;have Hset := keep (pgset hR (.int .i64 0) (.int .i64 0) (.int .i64 0) (.int .i64 0) (.string ⟨#[]⟩) (.slice none 0 0));have Hbut := keep (pgbut w4 (w_.heap.size + 2) (.int .i64 0) (.int .i64 0) (.int .i64 0) (.int .i64 0) (.string ⟨#[]⟩) (.slice none 0 0));have hlt2 := hR.lt;obtain ⟨r0, r1, r2, r3, r4, r5, f0, f1, f2, f3, f4, f5⟩ := pgres hR;clear hR;go_wp2_with fail;rw [HNo.out];refine bodyPost_ret (v := .tuple #[pgV zeroP (.slice none 0 0), .int .i64 140]) ?_ rfl ⟨_, rfl, ItemsC.nil _, But.below HGW4.out Hbut.out (by omega) (by omega)⟩;obtain ⟨s0, s1, s2, s3, s4, s5, _⟩ := pgres Hset.out;simp [results, Tryz.results42, go_sem, s0, s1, s2, s3, s4, s5, pgV, zeroP]
    rfl
   | false =>
    have hd4 : insN P (k, p, s) = putN P (posE (ensN P) (k, p, s)) (enBytes (k, p, s) []) := hd3;clear hd3 HD HD2;have hpu := fun (u : World) (hi : Items u (.slice ia P.items.length ic) P.items) => put_any P (.slice ia P.items.length ic) (posE (ensN P) (k, p, s)) (enBytes (k, p, s) []) u hi (by rw [<- ensN_length]; exact posE_le _ _) HIn.out.2.1 (by have := enBytes_length _ HEn.out; omega) HIn.out.2.2.1 (by have := (open_fine HOpen.out).1; omega)
    generalize putN P (posE (ensN P) (k, p, s)) (enBytes (k, p, s) []) = R at *;obtain ⟨Q, cd⟩ := R;dsimp only at hpu;unfold PgPost at hpu;have HPu := keep hpu;have HD4 := keep hd4;clear hd4;have HBy2 := keep (fun u => HBy.out u HEn.out);have HP7 := keep (fun (u : World) (hu : Grow w4.drew u) => Blk.fits (Blk.drew (HP0.out.fits HG4.out)) hu);have HE7 := keep (fun (u : World) (hu : Grow w4.drew u) => Blk.fits (Blk.drew (HE0.out.fits HG4.out)) hu);have HI7 := keep (fun (u : World) (hu : Grow w4.drew u) => (Row.fits HIn.out.1 (Grow.trans HGW4.out (Grow.undrew hu)) : Items u _ P.items));have HR4 := keep (HR0.out.fits HG4.out);clear hpu;go_upto_region 7 with fail;refine rgv 7 (by kernel_rfl) (by kernel_rfl) rfl rfl ?_;intro a0 ha0;have hsz : a0.tmps.size = 49 := (size_at ha0).trans rfl;have s2 := slot_at ha0 2 rfl;have s3 := slot_at ha0 3 rfl;have s8 := slot_at ha0 8 rfl;have HA0 := keep ha0;clear ha0;apply lxv hsz Grow.refl (by kernel_rfl) rfl
    ·intro xs w hw K hK;obtain ⟨p0, p1, p2, p3, p4, p5, _⟩ := pgres (HP7.out w hw);go_simp;exact hK
    apply lxv hsz Grow.refl (by kernel_rfl) rfl
    ·intro xs w hw K hK;go_simp;exact hK
    apply lxv hsz Grow.refl (by kernel_rfl) rfl
    ·intro xs w hw K hK;obtain ⟨e0, e1, e2, _⟩ := enres (HE7.out w hw);go_simp;exact hK
    apply lxe hsz [] (by kernel_rfl) rfl
    ·intro xs w hw hp K hK;go_simp;exact (HBy2.out w).mono fun e w' h => ⟨_, h.1, hK _ h.2⟩
    refine lxs hsz (fun v u => ∃ iv, v = .tuple #[pgV Q iv, .int .i64 cd] /\ ItemsC u iv Q.items) (fun _ _ _ g h => h.elim fun iv h => ⟨iv, h.1, h.2.fits g⟩) [] (by kernel_rfl) rfl ?_ ?_
    ·intro xs w hw hp K hK;go_simp;exact (HPu.out w (HI7.out w hw)).mono fun e w' ⟨iv, h1, h2, h3⟩ => ⟨_, h1, hK _ _ ⟨iv, rfl, h2⟩ h3⟩
    refine lxs hsz (fun v u => ∃ iv, v = pgV Q iv /\ ItemsC u iv Q.items) (fun _ _ _ g h => h.elim fun iv h => ⟨iv, h.1, h.2.fits g⟩) [(4, true)] (by kernel_rfl) rfl ?_ ?_
    ·intro xs w hw hp K hK;simp only [hzv] at hp;obtain ⟨iv8, h8, hit⟩ := hp;go_simp;exact hK _ _ ⟨iv8, rfl, hit⟩ (Grow.refl _)
    refine lxs hsz (fun v _ => v = .int .i64 cd) (fun _ _ _ _ h => h) [(4, true)] (by kernel_rfl) rfl ?_ ?_
    ·intro xs w hw hp K hK;simp only [hzv] at hp;obtain ⟨iv8, h8, hit⟩ := hp;go_simp;exact hK _ _ rfl (Grow.refl _)
    refine rgd [(5, true), (6, true)] (by kernel_rfl) rfl ?_;intro xs w hw hp;have ha0 := HA0.out;clear HA0 hsz s2 s3 s8;simp only [hzv] at hp;obtain ⟨h9, h10⟩ := hp;subst ha0;simp only [putV, h10];obtain ⟨iv9, h9, hit⟩ := h9;simp only [h9];obtain ⟨qa, qc, rfl⟩ := itemsS_form hit.1;have hgw := hw.undrew;have hR := HR4.out.fits hgw;have hbb : Below w_.heap.size w_ w := Grow.trans HGW4.out hgw;obtain ⟨r0, r1, r2, r3, r4, r5, f0, f1, f2, f3, f4, f5⟩ := pgres hR;have Hset := keep (pgset hR (.int .i64 Q.lsn) (.int .i64 Q.kind) (.int .i64 Q.level) (.int .i64 Q.right) (.string (str Q.high)) (.slice qa Q.items.length qc));have Hbut := keep (pgbut w (w_.heap.size + 2) (.int .i64 Q.lsn) (.int .i64 Q.kind) (.int .i64 Q.level) (.int .i64 Q.right) (.string (str Q.high)) (.slice qa Q.items.length qc));have Hit := keep hit;have HR := keep hR;have Hbb := keep hbb;have hlt2 := hR.lt;clear hw h9 h10 hit hR hbb hgw;unfold pgV;go_wp2_with fail;rw [HD4.out];refine bodyPost_ret (v := .tuple #[pgV Q (.slice qa Q.items.length qc), .int .i64 cd]) ?_ rfl ⟨_, rfl, itemsC_but Hit.out Hbut.out HR.out (by decide), But.below Hbb.out Hbut.out (by omega) (by omega)⟩;obtain ⟨s0, s1, s2, s3, s4, s5, _⟩ := pgres Hset.out;simp [results, Tryz.results42, go_sem, s0, s1, s2, s3, s4, s5, pgV]
end Go.Proofs.YtcdapdcablnhpaaGreat
namespace Go.Proofs.YtcdapdcablnhpaaGreat
open Go.RowKit
attribute [local go_sem] hgs
def beyondN (P : Pg) (e : En) : Bool × Int := if openOk P && enOk e then (beyN (bdN P) (hiN P) e, 0) else (false, 140)
def entriesOk (P : Pg) : Bool := openOk P && decide (P.level = 0)
def EntPost (P : Pg) (w : World) (x : Ending) (w' : World) : Prop :=
 (if entriesOk P then ∃ a c, x = .returned (.tuple #[.slice a (ensN P).length c, .int .i64 0]) /\ EnsS w' (.slice a (ensN P).length c) (ensN P) else x = .returned (.tuple #[.slice none 0 0, .int .i64 140])) /\ Below w.heap.size w w'
set_option maxRecDepth 100000 in
set_option maxHeartbeats 4000000 in
theorem beyond_node (P : Pg) (iv : Value) (e : En) (w_ : World) (hin : PgIn w_ iv P) :
  Calls Tryz.prog 94 #[pgV P iv, enV e] w_ fun x w' => x = .returned (.tuple #[.bool (beyondN P e).1, .int .i64 (beyondN P e).2]) /\ Below w_.heap.size w_ w' := by
 have hie := fun u => isEntry_any e u
 have hbe := fun (a1 a2 : Option Addr) (n1 c1 n2 c2 : Nat) (hi : En) (bd : Bool) (u : World) => beyond_any a1 a2 n1 c1 n2 c2 hi e bd u
 have hd : beyondN P e = if openOk P && enOk e then (beyN (bdN P) (hiN P) e, 0) else (false, 140) := rfl
 unfold enV at hie hbe;have HIe := keep hie;have HBe := keep hbe;have HD := keep hd;clear hie hbe hd;obtain ⟨k, p, s⟩ := e;obtain ⟨w0, hw0⟩ : ∃ w0, w0 = ((w_.alloc (.cells (pgCells P iv).toArray 28)).alloc (.cells #[.string (str k), .int .i64 p, .int .i64 s] 103)) := ⟨_, rfl⟩;have hg0 : Grow w_ w0 := by subst hw0; exact ((Grow.refl w_).alloc _).alloc _
 have hP0 : Blk w0 w_.heap.size 28 (pgCells P iv) := by
  have := (Blk.new w_ 28 (pgCells P iv)).alloc (.cells #[.string (str k), .int .i64 p, .int .i64 s] 103);subst hw0; exact this
 have hE0 : Blk w0 (w_.heap.size + 1) 103 [.string (str k), .int .i64 p, .int .i64 s] := by
  have := Blk.new (w_.alloc (.cells (pgCells P iv).toArray 28)) 103 [.string (str k), .int .i64 p, .int .i64 s];have e : (w_.alloc (.cells (pgCells P iv).toArray 28)).heap.size = w_.heap.size + 1 := by simp
  rw [e] at this;subst hw0; exact this
 have hop := opened_pg (hin.fits hg0);obtain ⟨ia, ic, rfl⟩ := items_form hin.1;have HOp := keep hop;have HIn := keep hin;have HP0 := keep hP0;have HE0 := keep hE0;clear hop hin hE0;unfold pgCells at hw0 hP0;obtain ⟨p0, p1, p2, p3, p4, p5, _⟩ := pgres hP0;unfold pgV enV;go_enter Tryz.func94, Tryz.ntmps94;go_upto_region 1 with fail;rw [<- hw0];clear hw0;go_wp2_with fail;refine HOp.out.mono ?_;rintro x w1 ⟨a1, n1, c1, a2, n2, c2, hi, bd, ok, rfl, hok, hyes, hb1⟩;clear p0 p1 p2 p3 p4 p5 hP0;obtain ⟨w2, hw2⟩ : ∃ w2, w2 = w1.alloc (.cells #[.slice a1 n1 c1, .slice a2 n2 c2, .string (str hi.1), .int .i64 hi.2.1, .int .i64 hi.2.2, .bool bd] 151) := ⟨_, rfl⟩;have hg2 : Grow w0 w2 := by subst hw2; exact Grow.alloc hb1 _
 have hO2 : Blk w2 w1.heap.size 151 [.slice a1 n1 c1, .slice a2 n2 c2, .string (str hi.1), .int .i64 hi.2.1, .int .i64 hi.2.2, .bool bd] := by subst hw2; exact Blk.new w1 _ [_, _, _, _, _, _]
 have hyes2 : ok = true -> EnsS w2 (.slice a1 n1 c1) (ensN P) /\ IntsS w2 (.slice a2 n2 c2) (kidsN P) /\ hi = hiN P /\ bd = bdN P := fun h => ⟨by subst hw2; exact RowS.fits (hyes h).1 ((Grow.refl _).alloc _), by subst hw2; exact RowS.fits (hyes h).2.1 ((Grow.refl _).alloc _), (hyes h).2.2⟩
 have HYes := keep hyes2;have HOk := keep hok;have HO2 := keep hO2;have HG2 := keep hg2;have HGW := keep (Grow.trans hg0 hg2);clear hyes hyes2 hok hb1 hO2 hg2;go_upto_region 2 with fail;rw [<- hw2];clear hw2;have hP2 := HP0.out.fits HG2.out;unfold pgCells at hP2;obtain ⟨p0, p1, p2, p3, p4, p5, _⟩ := pgres hP2;obtain ⟨o0, o1, o2, o3, o4, o5, _⟩ := pgres HO2.out;have hE2 := HE0.out.fits HG2.out;obtain ⟨e0, e1, e2, _⟩ := enres hE2;have hd := HD.out;rw [<- HOk.out] at hd;have HD2 := keep hd;clear hd;cases ok with
 | false =>
  have hno : beyondN P (k, p, s) = (false, 140) := HD2.out;go_wp2_with fail;go_ret2;rw [hno];exact ⟨rfl, HGW.out⟩
 | true =>
  obtain ⟨_, _, h2, h3⟩ := HYes.out rfl;subst h2 h3;have hd := HD2.out;have hie := HIe.out w2
  try dsimp only at hie
  generalize enOk (k, p, s) = A at *;have HIe2 := keep hie;have HD3 := keep hd;clear hie hd;go_wp2_with fail;refine HIe2.out.mono ?_;rintro x w3 ⟨rfl, hb3⟩;cases A with
  | false =>
   have hno : beyondN P (k, p, s) = (false, 140) := HD3.out;go_wp2_with fail;go_ret2;rw [hno];exact ⟨rfl, Grow.trans HGW.out hb3⟩
  | true =>
   have hyes : beyondN P (k, p, s) = (beyN (bdN P) (hiN P) (k, p, s), 0) := HD3.out;have hE3 := hE2.fits hb3;have hO3 := HO2.out.fits hb3;clear p0 p1 p2 p3 p4 p5 e0 e1 e2 o0 o1 o2 o3 o4 o5;obtain ⟨e0, e1, e2, _⟩ := enres hE3;obtain ⟨o0, o1, o2, o3, o4, o5, _⟩ := pgres hO3;have hbe := HBe.out a1 a2 n1 c1 n2 c2 (hiN P) (bdN P) w3
   try dsimp only at hbe
   have HBe2 := keep hbe;have HYs := keep hyes;clear hE3 hO3 hbe hyes hE2 hP2;go_wp2_with fail;refine HBe2.out.mono ?_;rintro x w4 ⟨rfl, hb4⟩;go_wp2_with fail;go_ret2;rw [HYs.out];exact ⟨rfl, Grow.trans (Grow.trans HGW.out hb3) hb4⟩
set_option maxRecDepth 100000 in
set_option maxHeartbeats 4000000 in
theorem entries_node (P : Pg) (iv : Value) (w_ : World) (hin : PgIn w_ iv P) :
  Calls Tryz.prog 144 #[pgV P iv] w_ (EntPost P w_) := by
 have hd : entriesOk P = (openOk P && decide (P.level = 0)) := rfl;have HD := keep hd;clear hd;obtain ⟨w0, hw0⟩ : ∃ w0, w0 = (w_.alloc (.cells (pgCells P iv).toArray 28)) := ⟨_, rfl⟩;have hg0 : Grow w_ w0 := by subst hw0; exact (Grow.refl w_).alloc _
 have hP0 : Blk w0 w_.heap.size 28 (pgCells P iv) := by
  have := Blk.new w_ 28 (pgCells P iv);subst hw0; exact this
 have hop := opened_pg (hin.fits hg0);obtain ⟨ia, ic, rfl⟩ := items_form hin.1;have HOp := keep hop;have HIn := keep hin;have HP0 := keep hP0;clear hop hin;unfold pgCells at hw0 hP0;obtain ⟨p0, p1, p2, p3, p4, p5, _⟩ := pgres hP0;unfold pgV;go_enter Tryz.func144, Tryz.ntmps144;go_upto_region 1 with fail;rw [<- hw0];clear hw0;go_wp2_with fail;refine HOp.out.mono ?_;rintro x w1 ⟨a1, n1, c1, a2, n2, c2, hi, bd, ok, rfl, hok, hyes, hb1⟩;clear p0 p1 p2 p3 p4 p5 hP0;obtain ⟨w2, hw2⟩ : ∃ w2, w2 = w1.alloc (.cells #[.slice a1 n1 c1, .slice a2 n2 c2, .string (str hi.1), .int .i64 hi.2.1, .int .i64 hi.2.2, .bool bd] 151) := ⟨_, rfl⟩;have hg2 : Grow w0 w2 := by subst hw2; exact Grow.alloc hb1 _
 have hO2 : Blk w2 w1.heap.size 151 [.slice a1 n1 c1, .slice a2 n2 c2, .string (str hi.1), .int .i64 hi.2.1, .int .i64 hi.2.2, .bool bd] := by subst hw2; exact Blk.new w1 _ [_, _, _, _, _, _]
 have hyes2 : ok = true -> EnsS w2 (.slice a1 n1 c1) (ensN P) /\ IntsS w2 (.slice a2 n2 c2) (kidsN P) /\ hi = hiN P /\ bd = bdN P := fun h => ⟨by subst hw2; exact RowS.fits (hyes h).1 ((Grow.refl _).alloc _), by subst hw2; exact RowS.fits (hyes h).2.1 ((Grow.refl _).alloc _), (hyes h).2.2⟩
 have HYes := keep hyes2;have HOk := keep hok;have HO2 := keep hO2;have HG2 := keep hg2;have HGW := keep (Grow.trans hg0 hg2);clear hyes hyes2 hok hb1 hO2 hg2;go_upto_region 2 with fail;rw [<- hw2];clear hw2;have hP2 := HP0.out.fits HG2.out;unfold pgCells at hP2;obtain ⟨p0, p1, p2, p3, p4, p5, _⟩ := pgres hP2;obtain ⟨o0, o1, o2, o3, o4, o5, _⟩ := pgres HO2.out;have hd := HD.out;rw [<- HOk.out] at hd;have HD2 := keep hd;clear hd;cases ok with
 | false =>
  have hno : entriesOk P = false := HD2.out;go_wp2_with fail;go_ret2;unfold EntPost;rw [hno, if_neg (by decide)];exact ⟨rfl, HGW.out⟩
 | true =>
  obtain ⟨hes, _, _, _⟩ := HYes.out rfl
  by_cases hlv : P.level = 0
  ·have hyes : entriesOk P = true := by rw [HD2.out, decide_eq_true hlv]; rfl
   have hlv2 : (P.level != 0) = false := by simp [hlv]
   have hform : n1 = (ensN P).length := by
    rcases hes with ⟨h0, _, a, cap, h⟩ | ⟨c, off, cap, blk, f, h, _⟩
    ·simp only [Value.slice.injEq] at h; omega
    ·simp only [Value.slice.injEq] at h; exact h.2.1
   subst hform;have HEs := keep hes;have HYs := keep hyes;clear hlv hes hyes;go_wp2_with fail;go_ret2;unfold EntPost;rw [HYs.out, if_pos rfl];exact ⟨⟨a1, c1, rfl, HEs.out⟩, HGW.out⟩
  ·have hno : entriesOk P = false := by rw [HD2.out, decide_eq_false hlv]; rfl
   have hlv2 : (P.level != 0) = true := by simp [hlv]
   have HNo := keep hno;clear hlv hno;go_wp2_with fail;go_ret2;unfold EntPost;rw [HNo.out, if_neg (by decide)];exact ⟨rfl, HGW.out⟩
end Go.Proofs.YtcdapdcablnhpaaGreat
namespace Go.Proofs.YtcdapdcablnhpaaGreat
open Go.RowKit
def pgOf (l : List En) : Pg := ⟨0, 3, 0, 0, [], l.map fun e => enBytes e []⟩
structure GoodL (l : List En) : Prop where
 sorted : Sorted l
 ok : ∀ e ∈ l, enOk e = true
 fit : fitsP (pgOf l) = true
attribute [local go_sem] givesV lookV knAt hgs
attribute [local simp] eql_entry
attribute [local go_sem] guard_entry
def IdxPost (l : List En) (t : En) (i : Int) : Prop := (i = -1 /\ t ∉ l) \/ ∃ k : Nat, i = k /\ ∃ hk : k < l.length, l[k] = t
set_option maxRecDepth 100000 in
set_option maxHeartbeats 2000000 in
theorem index_any (t : En) (l : List En) (v : Value) (w_ : World) (h : EnsS w_ v l) (hl : l.length <= 1759218604441) :
  Calls Tryz.prog 199 #[v, enV t] w_ fun x w' => ∃ i, x = .returned (.int .i64 i) /\ IdxPost l t i /\ Below w_.heap.size w_ w' := by
 obtain ⟨a, cap, rfl⟩ : ∃ a cap, v = .slice a l.length cap := by
  rcases h with ⟨h1, _, a, cap, h2⟩ | ⟨c, off, cap, blk, f, h1, _⟩
  ·exact ⟨a, cap, by rw [h2, h1]⟩
  ·exact ⟨_, _, h1⟩
 have hcells : ∀ m (hm : m < l.length), ∃ c off, a = some ⟨c, off, none⟩ /\ ∀ u, Grow w_ u -> (u.cell? ⟨c, off + m * 3, none⟩ = some (.string (str l[m].1)) /\ u.cell? ⟨c, off + m * 3 + 1, none⟩ = some (.int .i64 l[m].2.1) /\ u.cell? ⟨c, off + m * 3 + 2, none⟩ = some (.int .i64 l[m].2.2)) := by
  intro m hm;obtain ⟨c, off, cap', e, hc⟩ := ens_cells h.weak (by omega);simp only [Value.slice.injEq] at e;refine ⟨c, off, e.1, fun u hu => ?_⟩;have := hc m hm;exact ⟨(Below.cell hu (World.block_lt_of_cell? w_ _ this.1)).trans this.1, (Below.cell hu (World.block_lt_of_cell? w_ _ this.2.1)).trans this.2.1, (Below.cell hu (World.block_lt_of_cell? w_ _ this.2.2)).trans this.2.2⟩
 obtain ⟨k, p, s⟩ := t;obtain ⟨w0, hw0⟩ : ∃ w0, w0 = (w_.alloc (.cells #[.string (str k), .int .i64 p, .int .i64 s] 103)) := ⟨_, rfl⟩;have hg0 : Grow w_ w0 := by subst hw0; exact (Grow.refl w_).alloc _
 have hT0 : Blk w0 w_.heap.size 103 [.string (str k), .int .i64 p, .int .i64 s] := by
  have := Blk.new w_ 103 [.string (str k), .int .i64 p, .int .i64 s];subst hw0; exact this
 have HCells := keep hcells;have HT := keep (fun (u : World) (hu : Grow w0 u) => Blk.fits hT0 hu);clear h hcells hT0;unfold enV;go_enter Tryz.func199, Tryz.ntmps199;go_upto_region 1 with fail;rw [<- hw0];clear hw0;go_wp2_with fail;go_loopw [8] (fun i wr => ∃ n : Nat, n <= l.length /\ i = .int .i64 n /\ Kept (∀ x (hx : x < l.length), x < n -> l[x] ≠ (k, p, s)) /\ Kept (Grow w0 wr)) (fun i _ => l.length - (intOf i).toNat)
 case atStart => exact ⟨0, Nat.zero_le _, rfl, keep (fun x hx h => absurd h (Nat.not_lt_zero _)), keep (Grow.refl _)⟩
 case round =>
  obtain ⟨n, hn, rfl, H1, HG⟩ := hrel
  by_cases hlt : n < l.length
  ·go_upto_region 4 with fail;obtain ⟨c2, off2, rfl, hcm⟩ := HCells.out n hlt;have HCm := keep (fun (u : World) (hu : Grow wr.drew u) => hcm u (Grow.trans hg0 (Grow.trans HG.out (Grow.undrew hu))));have HTm := keep (fun (u : World) (hu : Grow wr.drew u) => enres (HT.out u (Grow.trans HG.out (Grow.undrew hu))));have hln : ∃ e, e = l[n] := ⟨_, rfl⟩;obtain ⟨e, he⟩ := hln;rw [<- he] at HCm;have He := keep he;clear he hcm;obtain ⟨mk, mp, ms⟩ := e;dsimp only at HCm;go_cut [16] from 11 to 16 (fun sv wx => sv = .bool (sameE (k, p, s) (mk, mp, ms)) /\ Grow wr wx)
   case first =>
    refine rgv 5 (by kernel_rfl) (by kernel_rfl) rfl rfl ?_;intro a0 ha0;have hsz : a0.tmps.size = 19 := (size_at ha0).trans rfl;have s0 := slot_at ha0 0 rfl;have s3 := slot_at ha0 3 rfl;have s5 := slot_at ha0 5 rfl;have HA0 := keep ha0;clear ha0;apply lxv hsz Grow.refl (by kernel_rfl) rfl
    ·intro xs w hw K hK;obtain ⟨c0, c1, c2, _⟩ := HTm.out w hw;go_simp;exact hK
    iterate 2
     apply lxv hsz Grow.refl (by kernel_rfl) rfl
     ·intro xs w hw K hK;go_simp;exact hK
    apply lxv hsz Grow.refl (by kernel_rfl) rfl
    ·intro xs w hw K hK;have q1 : n < l.length := hlt;go_simp;exact hK
    apply lxv hsz Grow.refl (by kernel_rfl) rfl
    ·intro xs w hw K hK;obtain ⟨c0, c1, c2⟩ := HCm.out w hw;go_simp;exact hK
    refine rgd [] (by kernel_rfl) rfl ?_;intro xs w hw hp;have ha0 := HA0.out;clear HA0 hsz s0 s3 s5;clear hp;subst ha0;simp only [putV];have hgw : Grow wr w := hw.undrew;clear hw;go_wp2_with fail
    all_goals go_meet
    all_goals (case rel => exact ⟨rfl, hgw⟩)
   case rest =>
    obtain ⟨rfl, hgw⟩ := hcut;have HG2 := keep (Grow.trans HG.out hgw);clear hgw;generalize hS : sameE (k, p, s) (mk, mp, ms) = S;cases S with
    | true =>
     have hq : (k, p, s) = (mk, mp, ms) := by simpa [sameE] using hS
     have HQ := keep hq;clear hS hq;go_wp2_with fail;go_ret;refine ⟨n, rfl, .inr ⟨n, rfl, hlt, ?_⟩, Grow.trans hg0 HG2.out⟩;rw [HQ.out, He.out]
    | false =>
     have hq : (k, p, s) ≠ (mk, mp, ms) := by simpa [sameE] using hS
     have HQ := keep hq;clear hS hq;go_wp2_with fail;go_roundw
     case rel =>
      refine ⟨n + 1, by omega, by go_num, keep (fun x hx hxn => ?_), HG2⟩
      by_cases e : x = n
      ·subst e;rw [<- He.out];exact HQ.out.symm
      ·exact H1.out x hx (by omega)
     case measure => simp [intOf]; omega
  ·have e : n = l.length := by omega
   subst e;go_wp2_with fail;go_ret;refine ⟨-1, rfl, .inl ⟨rfl, fun hm => ?_⟩, Grow.trans hg0 HG.out⟩;obtain ⟨x, hx, he⟩ := List.mem_iff_getElem.1 hm;exact H1.out x hx hx he
end Go.Proofs.YtcdapdcablnhpaaGreat
namespace Go.Proofs.YtcdapdcablnhpaaGreat
open Go.RowKit
attribute [local go_sem] hgs
end Go.Proofs.YtcdapdcablnhpaaGreat
namespace Go.Proofs.YtcdapdcablnhpaaGreat
open Go.RowKit
attribute [local go_sem] givesV lookV knAt hgs
def SplitPost (A B : Pg) (e : En) (c : Int) (w : World) (x : Ending) (w' : World) : Prop :=
 ∃ av bv, x = .returned (.tuple #[pgV A av, pgV B bv, enV e, .int .i64 c]) /\ ItemsC w' av A.items /\ ItemsC w' bv B.items /\ Below w.heap.size w w'
def splitOk (P : Pg) (r : Int) : Bool := openOk P && (decide (2 <= P.items.length) && inB r 1 65535)
structure Put2 (r1 r2 t : Nat) (vs1 vs2 : List Value) (u v : World) : Prop where
 os : v.os = u.os
 tape : v.tape = u.tape
 output : v.output = u.output
 size : u.heap.size <= v.heap.size
 block : ∀ k, k < u.heap.size -> k ≠ r1 -> k ≠ r2 -> v.heap[k]? = u.heap[k]?
 six1 : (∃ a0 a1 a2 a3 a4 a5, Blk u r1 t [a0, a1, a2, a3, a4, a5]) -> ∃ a0 a1 a2 a3 a4 a5, Blk v r1 t [a0, a1, a2, a3, a4, a5]
 six2 : (∃ a0 a1 a2 a3 a4 a5, Blk u r2 t [a0, a1, a2, a3, a4, a5]) -> ∃ a0 a1 a2 a3 a4 a5, Blk v r2 t [a0, a1, a2, a3, a4, a5]
 vs1 : Blk u r1 t vs1 -> Blk v r1 t vs1
 vs2 : Blk u r2 t vs2 -> Blk v r2 t vs2
theorem Put2.refl {r1 r2 t : Nat} {vs1 vs2 : List Value} (u : World) : Put2 r1 r2 t vs1 vs2 u u := ⟨rfl, rfl, rfl, Nat.le_refl _, fun _ _ _ _ => rfl, id, id, id, id⟩
theorem Put2.trans {r1 r2 t : Nat} {vs1 vs2 : List Value} {u v w : World} (h : Put2 r1 r2 t vs1 vs2 u v) (k : Put2 r1 r2 t vs1 vs2 v w) : Put2 r1 r2 t vs1 vs2 u w :=
 ⟨k.os.trans h.os, k.tape.trans h.tape, k.output.trans h.output, Nat.le_trans h.size k.size, fun i hi h1 h2 => (k.block i (Nat.lt_of_lt_of_le hi h.size) h1 h2).trans (h.block i hi h1 h2), fun x => k.six1 (h.six1 x), fun x => k.six2 (h.six2 x), fun x => k.vs1 (h.vs1 x), fun x => k.vs2 (h.vs2 x)⟩
theorem Put2.undrew {r1 r2 t : Nat} {vs1 vs2 : List Value} {u v : World} (h : Put2 r1 r2 t vs1 vs2 u.drew v) : Put2 r1 r2 t vs1 vs2 u v := ⟨h.os, h.tape, h.output, h.size, h.block, h.six1, h.six2, h.vs1, h.vs2⟩
theorem Put2.blk {r1 r2 t : Nat} {vs1 vs2 : List Value} {u v : World} (h : Put2 r1 r2 t vs1 vs2 u v) {b e : Nat} {cs : List Value} (hb : Blk u b e cs) (h1 : b ≠ r1) (h2 : b ≠ r2) : Blk v b e cs := by
 have := hb.lt; unfold Blk at *; rw [h.block _ this h1 h2]; exact hb
theorem Put2.below {r1 r2 t B : Nat} {vs1 vs2 : List Value} {z u v : World} (h : Put2 r1 r2 t vs1 vs2 u v) (hz : Below B z u) (h1 : B <= r1) (h2 : B <= r2) (hB : B <= u.heap.size) : Below B z v :=
 ⟨h.os.trans hz.os, h.tape.trans hz.tape, h.output.trans hz.output, Nat.le_trans hz.size h.size, fun k hk => (h.block k (by omega) (by omega) (by omega)).trans (hz.block k hk)⟩
theorem Put2.row {r1 r2 t e n : Nat} {vs1 vs2 cs : List Value} {u v : World} {x : Value} (h : Put2 r1 r2 t vs1 vs2 u v) (hr : RowS u e x n cs) (h1 : ∃ cs1, Blk u r1 t cs1) (h2 : ∃ cs2, Blk u r2 t cs2) (he : e ≠ t) : RowS v e x n cs :=
 hr.move fun c blk f hc => by
  obtain ⟨cs1, h1⟩ := h1;obtain ⟨cs2, h2⟩ := h2;rw [h.block c (lt_of_block hc) ?_ ?_]
  ·exact hc
  ·rintro rfl;unfold Blk at h1;rw [h1] at hc;simp at hc;exact he hc.2.1.symm
  ·rintro rfl;unfold Blk at h2;rw [h2] at hc;simp at hc;exact he hc.2.1.symm
theorem Put2.one1 {r1 r2 t : Nat} {vs1 vs2 : List Value} {u v : World} (k : But r1 u v) (h12 : r1 ≠ r2) (h : Blk v r1 t vs1) (hs : ∃ a0 a1 a2 a3 a4 a5, vs1 = [a0, a1, a2, a3, a4, a5]) : Put2 r1 r2 t vs1 vs2 u v :=
 ⟨k.os, k.tape, k.output, k.size, fun i hi h1 _ => k.block i hi h1, fun _ => by obtain ⟨_, _, _, _, _, _, rfl⟩ := hs; exact ⟨_, _, _, _, _, _, h⟩, fun ⟨_, _, _, _, _, _, h2⟩ => ⟨_, _, _, _, _, _, h2.but k h12.symm⟩, fun _ => h, fun h2 => h2.but k h12.symm⟩
theorem Put2.one2 {r1 r2 t : Nat} {vs1 vs2 : List Value} {u v : World} (k : But r2 u v) (h12 : r1 ≠ r2) (h : Blk v r2 t vs2) (hs : ∃ a0 a1 a2 a3 a4 a5, vs2 = [a0, a1, a2, a3, a4, a5]) : Put2 r1 r2 t vs1 vs2 u v :=
 ⟨k.os, k.tape, k.output, k.size, fun i hi _ h2 => k.block i hi h2, fun ⟨_, _, _, _, _, _, h1⟩ => ⟨_, _, _, _, _, _, h1.but k h12⟩, fun _ => by obtain ⟨_, _, _, _, _, _, rfl⟩ := hs; exact ⟨_, _, _, _, _, _, h⟩, fun h1 => h1.but k h12, fun _ => h⟩
theorem decN_ok {l : List UInt8} (h : (decN l).2 = 0) : enOk (decN l).1 = true := by
 unfold decN at *;cases hd : decOkN l with
 | false => rw [hd] at h; simp at h
 | true =>
  simp only [if_true];unfold decOkN at hd;rw [Bool.and_eq_true] at hd;exact hd.2
theorem sub_lo {w : World} {c off cap k : Nat} {l : List (List UInt8)} (h : Items w (.slice (some ⟨c, off, none⟩) l.length cap) l) (hk : k <= l.length) : Items w (.slice (some ⟨c, off, none⟩) k cap) (l.take k) := by
 have hl : (l.take k).length = k := by rw [List.length_take]; omega
 rcases h with ⟨h1, h2, a, cap', h3⟩ | ⟨c', off', cap', h1, h3⟩
 ·have : k = 0 := by omega
  subst this;exact .inl ⟨by simp, by simp [sCells], _, _, rfl⟩
 ·simp only [Value.slice.injEq, Option.some.injEq, Addr.mk.injEq] at h1;obtain ⟨⟨rfl, rfl, _⟩, _, rfl⟩ := h1;refine .inr ⟨c, off, cap, by rw [hl], fun j hj => ?_⟩;rw [sCells_length, hl] at hj;rw [h3 j (by rw [sCells_length]; omega)];simp [sCells]
theorem sub_hi {w : World} {c off cap cap2 k : Nat} {l : List (List UInt8)} (h : Items w (.slice (some ⟨c, off, none⟩) l.length cap) l) (hk : k < l.length) : Items w (.slice (some ⟨c, off + k, none⟩) (l.length - k) cap2) (l.drop k) := by
 have hl : (l.drop k).length = l.length - k := List.length_drop;rcases h with ⟨h1, h2, a, cap', h3⟩ | ⟨c', off', cap', h1, h3⟩
 ·omega
 ·simp only [Value.slice.injEq, Option.some.injEq, Addr.mk.injEq] at h1;obtain ⟨⟨rfl, rfl, _⟩, _, rfl⟩ := h1;refine .inr ⟨c, off + k, cap2, by rw [hl], fun j hj => ?_⟩;rw [sCells_length, hl] at hj;rw [Nat.add_assoc, h3 (k + j) (by rw [sCells_length]; omega)];simp [sCells]
def rootOk (lv left : Int) (e : En) (right : Int) : Bool := inB lv 1 255 && (enOk e && (inB left 1 65535 && inB right 1 65535))
def rootP (lv left : Int) (e : En) (right : Int) : Pg := ⟨0, 3, lv, 0, [], [enBytes leastE [left], enBytes e [right]]⟩
def rootN (lv left : Int) (e : En) (right : Int) : Pg × Int := if rootOk lv left e right then (rootP lv left e right, 0) else (zeroP, 140)
theorem two_items (w : World) (x y : List UInt8) : ItemsC (w.alloc (.cells #[.string (str x), .string (str y)] 9)) (.slice (some ⟨w.heap.size, 0, none⟩) 2 2) [x, y] :=
 ⟨RowS.blk (Blk.new w 9 [.string (str x), .string (str y)]) 2 2 _ 0 (by intro j hj; rw [Nat.zero_add]; rfl), Nat.le_refl 2⟩
set_option maxRecDepth 100000 in
set_option maxHeartbeats 4000000 in
theorem root_any (lv left : Int) (e : En) (right : Int) (w_ : World) :
  Calls Tryz.prog 206 #[.int .i64 lv, .int .i64 left, enV e, .int .i64 right] w_ (PgPost (rootN lv left e right).1 (rootN lv left e right).2 w_) := by
 obtain ⟨k, p, s⟩ := e;obtain ⟨w0, hw0⟩ : ∃ w0, w0 = ((w_.alloc (.cells #[.string (str k), .int .i64 p, .int .i64 s] 103)).alloc (.cells #[.int .i64 0, .int .i64 0, .int .i64 0, .int .i64 0, .string ⟨#[]⟩, .slice none 0 0] 28)) := ⟨_, rfl⟩;have hg0 : Grow w_ w0 := by subst hw0; exact ((Grow.refl w_).alloc _).alloc _
 have hE0 : Blk w0 w_.heap.size 103 [.string (str k), .int .i64 p, .int .i64 s] := by
  have := (Blk.new w_ 103 [.string (str k), .int .i64 p, .int .i64 s]).alloc (.cells #[.int .i64 0, .int .i64 0, .int .i64 0, .int .i64 0, .string ⟨#[]⟩, .slice none 0 0] 28);subst hw0; exact this
 have hR0 : Blk w0 (w_.heap.size + 1) 28 [.int .i64 0, .int .i64 0, .int .i64 0, .int .i64 0, .string ⟨#[]⟩, .slice none 0 0] := by
  have := Blk.new (w_.alloc (.cells #[.string (str k), .int .i64 p, .int .i64 s] 103)) 28 [.int .i64 0, .int .i64 0, .int .i64 0, .int .i64 0, .string ⟨#[]⟩, .slice none 0 0];have e : (w_.alloc (.cells #[.string (str k), .int .i64 p, .int .i64 s] 103)).heap.size = w_.heap.size + 1 := by simp
  rw [e] at this;subst hw0; exact this
 have hzR := hR0.lt;have hie := fun u => isEntry_any (k, p, s) u
 have hi1 := fun u => within_any lv 1 255 u
 have hi2 := fun u => isChild_any left u
 have hi3 := fun u => isChild_any right u
 have hd : rootN lv left (k, p, s) right = if inB lv 1 255 && (enOk (k, p, s) && (inB left 1 65535 && inB right 1 65535)) then (⟨0, 3, lv, 0, [], [enBytes leastE [left], enBytes (k, p, s) [right]]⟩, 0) else (zeroP, 140) := rfl
 have hb1 := fun (u : World) (mv : Value) (hm : IntsS u mv [left]) (hl : inB left 1 65535 = true) => bytes_any leastE mv [left] u (by simp [enFine, leastE]) hm (by simp [inB] at hl ⊢; omega) (by simp)
 have hb2 := fun (u : World) (mv : Value) (he : enOk (k, p, s) = true) (hm : IntsS u mv [right]) (hl : inB right 1 65535 = true) => bytes_any (k, p, s) mv [right] u (enOk_fine he) hm (by simp [inB] at hl ⊢; omega) (by simp)
 unfold enV leastE at hb1;unfold leastE at hd;unfold enV at hie hb2;dsimp only at hie hb1 hb2;generalize hA1 : inB lv 1 255 = A1 at *;generalize hA2 : enOk (k, p, s) = A2 at *;generalize hA3 : inB left 1 65535 = A3 at *;generalize hA4 : inB right 1 65535 = A4 at *;generalize enBytes ([], 0, 0) [left] = Y1 at *;generalize enBytes (k, p, s) [right] = Y2 at *;have HIe := keep hie;have HI1 := keep hi1;have HI2 := keep hi2;have HI3 := keep hi3;have HD := keep hd;have HY1 := keep hb1;have HY2 := keep hb2;have HE0 := keep hE0;have HR0 := keep hR0;have HG0 := keep hg0;obtain ⟨e0, e1, e2, _⟩ := enres hE0;clear hie hi1 hi2 hi3 hd hb1 hb2 hE0 hR0 hg0 hA1 hA2 hA3 hA4;unfold enV;go_enter Tryz.func206, Tryz.ntmps206;go_upto_region 1 with fail;rw [<- hw0];clear hw0;go_cut [27] from 10 to 27 (fun sv wx => sv = .bool (!(A1 && (A2 && (A3 && A4)))) /\ Grow w0 wx)
 case first =>
  cases A1 with
  | false =>
   go_wp2_with fail;refine (HI1.out w0).mono ?_;rintro x w1 ⟨rfl, rfl⟩;go_wp2_with fail
   all_goals go_meet
   all_goals (case rel => exact ⟨rfl, Grow.refl _⟩)
  | true =>
   go_wp2_with fail;refine (HI1.out w0).mono ?_;rintro x w1 ⟨rfl, rfl⟩;go_wp2_with fail;refine (HIe.out w0).mono ?_;rintro x w1 ⟨rfl, hb1⟩;cases A2 with
   | false =>
    go_wp2_with fail
    all_goals go_meet
    all_goals (case rel => exact ⟨rfl, hb1⟩)
   | true =>
    go_wp2_with fail;refine (HI2.out w1).mono ?_;rintro x w2 ⟨rfl, rfl⟩;cases A3 with
    | false =>
     go_wp2_with fail
     all_goals go_meet
     all_goals (case rel => exact ⟨rfl, hb1⟩)
    | true =>
     go_wp2_with fail;refine (HI3.out w1).mono ?_;rintro x w2 ⟨rfl, rfl⟩;go_wp2_with fail
     all_goals go_meet
     all_goals (case rel => exact ⟨rfl, hb1⟩)
 case rest =>
  obtain ⟨rfl, hg3⟩ := hcut;clear e0 e1 e2;generalize wc = w3 at *;have HG3 := keep hg3;have HGW := keep (Grow.trans HG0.out hg3);clear hg3;have hd := HD.out;generalize hM : (A1 && (A2 && (A3 && A4))) = M at *;cases M with
  | false =>
   have HNo := keep (show rootN lv left (k, p, s) right = (zeroP, 140) from hd);clear hd hM;have hR := HR0.out.fits HG3.out;have Hset := keep (pgset hR (.int .i64 0) (.int .i64 0) (.int .i64 0) (.int .i64 0) (.string ⟨#[]⟩) (.slice none 0 0));have Hbut := keep (pgbut w3 (w_.heap.size + 1) (.int .i64 0) (.int .i64 0) (.int .i64 0) (.int .i64 0) (.string ⟨#[]⟩) (.slice none 0 0));have hlt2 := hR.lt;obtain ⟨r0, r1, r2, r3, r4, r5, f0, f1, f2, f3, f4, f5⟩ := pgres hR;clear hR;go_wp2_with fail;rw [HNo.out];refine bodyPost_ret (v := .tuple #[pgV zeroP (.slice none 0 0), .int .i64 140]) ?_ rfl ⟨_, rfl, ItemsC.nil _, But.below HGW.out Hbut.out (by omega) (by omega)⟩;obtain ⟨s0, s1, s2, s3, s4, s5, _⟩ := pgres Hset.out;simp [results, Tryz.results206, go_sem, s0, s1, s2, s3, s4, s5, pgV, zeroP]
   rfl
  | true =>
   have HYes := keep (show rootN lv left (k, p, s) right = (⟨0, 3, lv, 0, [], [Y1, Y2]⟩, 0) from hd);have hm : A1 = true /\ A2 = true /\ A3 = true /\ A4 = true := by simpa [and_assoc] using hM
   obtain ⟨rfl, rfl, rfl, rfl⟩ := hm;have HE7 := keep (fun (u : World) (hu : Grow w3.drew u) => Blk.fits (Blk.drew (HE0.out.fits HG3.out)) hu);have HR3 := keep (HR0.out.fits HG3.out);clear hd hM HD;go_upto_region 3 with fail;refine rgv 11 (by kernel_rfl) (by kernel_rfl) rfl rfl ?_;intro a0 ha0;have hsz : a0.tmps.size = 40 := (size_at ha0).trans rfl;have s0 := slot_at ha0 0 rfl;have s1 := slot_at ha0 1 rfl;have s3 := slot_at ha0 3 rfl;have s6 := slot_at ha0 6 rfl;have HA0 := keep ha0;clear ha0;apply lxv hsz Grow.refl (by kernel_rfl) rfl
   ·intro xs w hw K hK;go_simp;exact hK
   apply lxe hsz [] (by kernel_rfl) rfl
   ·intro xs w hw hp K hK;go_simp;exact (least_any w).mono fun e w' h => ⟨_, h.1, hK _ h.2⟩
   apply lxv hsz Grow.refl (by kernel_rfl) rfl
   ·intro xs w hw K hK;go_simp;exact hK
   refine lxs hsz (fun v u => IntsS u v [left] /\ ∃ a n c, v = .slice a n c) (fun _ _ _ g h => ⟨RowS.fits h.1 g, h.2⟩) [] (by kernel_rfl) rfl ?_ ?_
   ·intro xs w hw hp K hK;go_simp;exact hK _ _ ⟨one_ints w left, _, _, _, rfl⟩ ((Grow.refl _).alloc _)
   apply lxe hsz [(1, true), (3, true)] (by kernel_rfl) rfl
   ·intro xs w hw hp K hK;simp only [hzv] at hp;obtain ⟨h1, h3, a3, n3, c3, h3e⟩ := hp;rw [h3e] at h3;unfold enV at h1;go_simp;exact (HY1.out w _ h3 rfl).mono fun e w' h => ⟨_, h.1, hK _ h.2⟩
   apply lxv hsz Grow.refl (by kernel_rfl) rfl
   ·intro xs w hw K hK;obtain ⟨e0, e1, e2, _⟩ := enres (HE7.out w hw);go_simp;exact hK
   apply lxv hsz Grow.refl (by kernel_rfl) rfl
   ·intro xs w hw K hK;go_simp;exact hK
   refine lxs hsz (fun v u => IntsS u v [right] /\ ∃ a n c, v = .slice a n c) (fun _ _ _ g h => ⟨RowS.fits h.1 g, h.2⟩) [] (by kernel_rfl) rfl ?_ ?_
   ·intro xs w hw hp K hK;go_simp;exact hK _ _ ⟨one_ints w right, _, _, _, rfl⟩ ((Grow.refl _).alloc _)
   apply lxe hsz [(5, true), (7, true)] (by kernel_rfl) rfl
   ·intro xs w hw hp K hK;simp only [hzv] at hp;obtain ⟨h5, h7, a3, n3, c3, h3e⟩ := hp;rw [h3e] at h7;go_simp;exact (HY2.out w _ rfl h7 rfl).mono fun e w' h => ⟨_, h.1, hK _ h.2⟩
   refine lxs hsz (fun v u => ItemsC u v [Y1, Y2] /\ ∃ a n c, v = .slice a n c) (fun _ _ _ g h => ⟨h.1.fits g, h.2⟩) [] (by kernel_rfl) rfl ?_ ?_
   ·intro xs w hw hp K hK;go_simp;exact hK _ _ ⟨two_items w Y1 Y2, _, _, _, rfl⟩ ((Grow.refl _).alloc _)
   refine lxs hsz (fun v u => ∃ a n c, v = .agg #[.int .i64 0, .int .i64 3, .int .i64 lv, .int .i64 0, .string ⟨#[]⟩, .slice a n c] /\ ItemsC u (.slice a n c) [Y1, Y2]) (fun _ _ _ g ⟨a, n, c, h1, h2⟩ => ⟨a, n, c, h1, h2.fits g⟩) [(0, true), (9, true)] (by kernel_rfl) rfl ?_ ?_
   ·intro xs w hw hp K hK;simp only [hzv] at hp;obtain ⟨h0, h9, a3, n3, c3, h3e⟩ := hp;rw [h3e] at h9;go_simp;exact hK _ _ ⟨_, _, _, rfl, h9⟩ (Grow.refl _)
   refine rgd [(10, true)] (by kernel_rfl) rfl ?_;intro xs w hw hp;have ha0 := HA0.out;clear HA0 hsz s0 s1 s3 s6;simp only [hzv] at hp;have h9 := hp;clear hp;subst ha0;simp only [putV];obtain ⟨qa, qn, qc, h9, hit⟩ := h9;simp only [h9];have hgw := hw.undrew;have hR := HR3.out.fits hgw;have hbb : Below w_.heap.size w_ w := Grow.trans HGW.out hgw;obtain ⟨r0, r1, r2, r3, r4, r5, f0, f1, f2, f3, f4, f5⟩ := pgres hR;have Hset := keep (pgset hR (.int .i64 0) (.int .i64 3) (.int .i64 lv) (.int .i64 0) (.string ⟨#[]⟩) (.slice qa qn qc));have Hbut := keep (pgbut w (w_.heap.size + 1) (.int .i64 0) (.int .i64 3) (.int .i64 lv) (.int .i64 0) (.string ⟨#[]⟩) (.slice qa qn qc));have Hit := keep hit;have HR := keep hR;have Hbb := keep hbb;have hlt2 := hR.lt;clear hw h9 hit hR hbb hgw;go_wp2_with fail;rw [HYes.out];refine bodyPost_ret (v := .tuple #[pgV ⟨0, 3, lv, 0, [], [Y1, Y2]⟩ (.slice qa qn qc), .int .i64 0]) ?_ rfl ⟨_, rfl, itemsC_but Hit.out Hbut.out HR.out (by decide), But.below Hbb.out Hbut.out (by omega) (by omega)⟩;obtain ⟨s0, s1, s2, s3, s4, s5, _⟩ := pgres Hset.out;simp [results, Tryz.results206, go_sem, s0, s1, s2, s3, s4, s5, pgV]
   rfl
end Go.Proofs.YtcdapdcablnhpaaGreat
namespace Go.Proofs.YtcdapdcablnhpaaGreat
open Go.RowKit
attribute [local go_sem] hgs
def childOk (P : Pg) (e : En) : Bool := openOk P && (!decide (P.level = 0) && (enOk e && !beyN (bdN P) (hiN P) e))
def childN (P : Pg) (e : En) : Int × Int := if childOk P e then ((kidsN P).getD (posE (ensN P) e - 1) 0, 0) else (0, 140)
theorem least_lt {e : En} (h : enOk e = true) : cmpE leastE e < 0 := by
 obtain ⟨k, p, s⟩ := e;simp only [enOk, inB, Bool.and_eq_true, decide_eq_true_eq] at h;cases k with
 | nil => simp at h
 | cons a k => unfold cmpE leastE or3; simp [Lib.compareBytes]
theorem first_least {P : Pg} (h : openOk P = true) (hlv : P.level ≠ 0) : 0 < P.items.length /\ ∀ hl : 0 < (ensN P).length, (ensN P)[0] = leastE := by
 unfold openOk at h;simp only [Bool.and_eq_true] at h;have hl : 0 < P.items.length := by
  have := h.2.2;rw [decide_eq_false hlv, Bool.false_or, decide_eq_true_eq] at this;exact this
 refine ⟨hl, fun hl2 => ?_⟩;have h1 := okTo_at h.2.1 0 hl;simp only [roundOk, Bool.and_eq_true] at h1;have h2 := h1.1;rw [decide_eq_false hlv, Bool.false_or] at h2;simp at h2;have e1 : (ensN P)[0] = (itemN P.level (P.items.getD 0 [])).1 := by simp [ensN, ensTo, hl]
 rw [e1]
 simpa [hl] using h2
theorem pos_one {P : Pg} {e : En} (h : openOk P = true) (hlv : P.level ≠ 0) (he : enOk e = true) : 1 <= posE (ensN P) e := by
 obtain ⟨h1, h2⟩ := first_least h hlv;have hl : 0 < (ensN P).length := by rw [ensN_length]; exact h1
 unfold posE;refine List.countP_pos_iff.2 ⟨(ensN P)[0], List.getElem_mem hl, ?_⟩;rw [h2 hl];exact decide_eq_true (least_lt he)
theorem kidsN_length {P : Pg} (hlv : P.level ≠ 0) : (kidsN P).length = P.items.length := by
 unfold kidsN kidsTo;rw [if_neg hlv];simp
set_option maxRecDepth 100000 in
set_option maxHeartbeats 4000000 in
theorem child_node (P : Pg) (iv : Value) (e : En) (w_ : World) (hin : PgIn w_ iv P) :
  Calls Tryz.prog 95 #[pgV P iv, enV e] w_ fun x w' => x = .returned (.tuple #[.int .i64 (childN P e).1, .int .i64 (childN P e).2]) /\ Below w_.heap.size w_ w' := by
 have hie := fun u => isEntry_any e u
 have hbe := fun (a1 a2 : Option Addr) (n1 c1 n2 c2 : Nat) (hi : En) (bd : Bool) (u : World) => beyond_any a1 a2 n1 c1 n2 c2 hi e bd u
 have hse := fun (l : List En) (v : Value) (u : World) (h : EnsS u v l) (hl : l.length <= 1759218604441) (hs : Sorted l) => search_any e l v u h hl hs
 have hd : childN P e = if openOk P && (!decide (P.level = 0) && (enOk e && !beyN (bdN P) (hiN P) e)) then ((kidsN P).getD (posE (ensN P) e - 1) 0, 0) else (0, 140) := rfl
 have hpo := fun h1 h2 h3 => pos_one (P := P) (e := e) h1 h2 h3
 unfold enV at hie hbe hse;have HIe := keep hie;have HBe := keep hbe;have HSe := keep hse;have HD := keep hd;have HPo := keep hpo;clear hie hbe hse hd hpo;obtain ⟨k, p, s⟩ := e;obtain ⟨w0, hw0⟩ : ∃ w0, w0 = ((w_.alloc (.cells (pgCells P iv).toArray 28)).alloc (.cells #[.string (str k), .int .i64 p, .int .i64 s] 103)) := ⟨_, rfl⟩;have hg0 : Grow w_ w0 := by subst hw0; exact ((Grow.refl w_).alloc _).alloc _
 have hP0 : Blk w0 w_.heap.size 28 (pgCells P iv) := by
  have := (Blk.new w_ 28 (pgCells P iv)).alloc (.cells #[.string (str k), .int .i64 p, .int .i64 s] 103);subst hw0; exact this
 have hE0 : Blk w0 (w_.heap.size + 1) 103 [.string (str k), .int .i64 p, .int .i64 s] := by
  have := Blk.new (w_.alloc (.cells (pgCells P iv).toArray 28)) 103 [.string (str k), .int .i64 p, .int .i64 s];have e : (w_.alloc (.cells (pgCells P iv).toArray 28)).heap.size = w_.heap.size + 1 := by simp
  rw [e] at this;subst hw0; exact this
 have hop := opened_pg (hin.fits hg0);obtain ⟨ia, ic, rfl⟩ := items_form hin.1;have HOp := keep hop;have HIn := keep hin;have HP0 := keep hP0;have HE0 := keep hE0;clear hop hin hE0;unfold pgCells at hw0 hP0;obtain ⟨p0, p1, p2, p3, p4, p5, _⟩ := pgres hP0;unfold pgV enV;go_enter Tryz.func95, Tryz.ntmps95;go_upto_region 1 with fail;rw [<- hw0];clear hw0;go_wp2_with fail;refine HOp.out.mono ?_;rintro x w1 ⟨a1, n1, c1, a2, n2, c2, hi, bd, ok, rfl, hok, hyes, hb1⟩;clear p0 p1 p2 p3 p4 p5 hP0;obtain ⟨w2, hw2⟩ : ∃ w2, w2 = w1.alloc (.cells #[.slice a1 n1 c1, .slice a2 n2 c2, .string (str hi.1), .int .i64 hi.2.1, .int .i64 hi.2.2, .bool bd] 151) := ⟨_, rfl⟩;have hg2 : Grow w0 w2 := by subst hw2; exact Grow.alloc hb1 _
 have hO2 : Blk w2 w1.heap.size 151 [.slice a1 n1 c1, .slice a2 n2 c2, .string (str hi.1), .int .i64 hi.2.1, .int .i64 hi.2.2, .bool bd] := by subst hw2; exact Blk.new w1 _ [_, _, _, _, _, _]
 have hyes2 : ok = true -> EnsS w2 (.slice a1 n1 c1) (ensN P) /\ IntsS w2 (.slice a2 n2 c2) (kidsN P) /\ hi = hiN P /\ bd = bdN P := fun h => ⟨by subst hw2; exact RowS.fits (hyes h).1 ((Grow.refl _).alloc _), by subst hw2; exact RowS.fits (hyes h).2.1 ((Grow.refl _).alloc _), (hyes h).2.2⟩
 have HYes := keep hyes2;have HOk := keep hok;have HO2 := keep hO2;have HG2 := keep hg2;have HGW := keep (Grow.trans hg0 hg2);clear hyes hyes2 hok hb1 hO2 hg2;go_upto_region 2 with fail;rw [<- hw2];clear hw2;have hP2 := HP0.out.fits HG2.out;unfold pgCells at hP2;obtain ⟨p0, p1, p2, p3, p4, p5, _⟩ := pgres hP2;obtain ⟨o0, o1, o2, o3, o4, o5, _⟩ := pgres HO2.out;have hE2 := HE0.out.fits HG2.out;obtain ⟨e0, e1, e2, _⟩ := enres hE2;have hHIe := HIe.out;have hHBe := HBe.out;have hHSe := HSe.out;have hHPo := HPo.out
 try dsimp only at hHIe
 try dsimp only at hHBe
 try dsimp only at hHSe
 have HIe := keep hHIe;have HBe := keep hHBe;have HSe := keep hHSe;clear hHIe hHBe hHSe;go_cut [31] from 15 to 31 (fun sv wx => sv = .bool (!(ok && (!decide (P.level = 0) && (enOk (k, p, s) && !beyN bd hi (k, p, s))))) /\ Grow w2 wx)
 case first =>
  clear hHPo;cases ok with
  | false =>
   go_wp2_with fail
   all_goals go_meet
   all_goals (case rel => exact ⟨rfl, Grow.refl _⟩)
  | true =>
   by_cases hlv : P.level = 0
   ·have hlv2 : (P.level == 0) = true := by simp [hlv]
    have HLv := keep hlv;clear hlv;go_wp2_with fail
    all_goals go_meet
    all_goals (case rel => exact ⟨by simp [HLv.out], Grow.refl _⟩)
   ·have hlv2 : (P.level == 0) = false := by simp [hlv]
    have HLv := keep hlv;clear hlv;generalize enOk (k, p, s) = A at *;go_wp2_with fail;refine (HIe.out w2).mono ?_;rintro x w3 ⟨rfl, hb3⟩;cases A with
    | false =>
     go_wp2_with fail
     all_goals go_meet
     all_goals (case rel => exact ⟨by simp, hb3⟩)
    | true =>
     have hE3 := hE2.fits hb3;have hO3 := HO2.out.fits hb3;clear e0 e1 e2 o0 o1 o2 o3 o4 o5;obtain ⟨e0, e1, e2, _⟩ := enres hE3;obtain ⟨o0, o1, o2, o3, o4, o5, _⟩ := pgres hO3;have hbe := HBe.out a1 a2 n1 c1 n2 c2 hi bd w3;generalize beyN bd hi (k, p, s) = B at *;have HB := keep hbe;clear hE3 hO3 hbe;go_wp2_with fail;refine HB.out.mono ?_;rintro x w4 ⟨rfl, hb4⟩;go_wp2_with fail
     all_goals go_meet
     all_goals (case rel => exact ⟨by simp [HLv.out], Grow.trans hb3 hb4⟩)
 case rest =>
  obtain ⟨rfl, hg3⟩ := hcut;clear p0 p1 p2 p3 p4 p5 e0 e1 e2 o0 o1 o2 o3 o4 o5 hP2 hE2;generalize wc = w3 at *;have HG3 := keep (Grow.trans HG2.out hg3);have HGW3 := keep (Grow.trans HGW.out hg3);generalize hM : (ok && (!decide (P.level = 0) && (enOk (k, p, s) && !beyN bd hi (k, p, s)))) = M;cases M with
  | false =>
   have hno : childN P (k, p, s) = (0, 140) := by
    rw [HD.out, <- HOk.out];cases ok with
    | false => rfl
    | true =>
     obtain ⟨_, _, h2, h3⟩ := HYes.out rfl;rw [<- h2, <- h3, hM]
     rfl
   have HNo := keep hno;clear hM hno hg3 hHPo;go_wp2_with fail;go_ret2;rw [HNo.out];exact ⟨rfl, HGW3.out⟩
  | true =>
   have hm : ok = true /\ P.level ≠ 0 /\ enOk (k, p, s) = true /\ beyN bd hi (k, p, s) = false := by simpa [and_assoc] using hM
   obtain ⟨rfl, hlv, hen, hbe⟩ := hm;obtain ⟨hes, hks, rfl, rfl⟩ := HYes.out rfl;have hes3 : EnsS w3 (.slice a1 n1 c1) (ensN P) := RowS.fits hes hg3;have hks3 : IntsS w3 (.slice a2 n2 c2) (kidsN P) := RowS.fits hks hg3;have hopen : openOk P = true := HOk.out.symm;have hd2 : childN P (k, p, s) = ((kidsN P).getD (posE (ensN P) (k, p, s) - 1) 0, 0) := by
    rw [HD.out, hopen, hM.symm.trans (by rfl)];simp [hlv, hen, hbe]
   have hp1 := HPo.out hopen hlv hen;have hp2 := posE_le (ensN P) (k, p, s);rw [ensN_length] at hp2;have hp3 := kidsN_length hlv;have hp4 := (open_fine hopen).1;have hsc := HSe.out (ensN P) (.slice a1 n1 c1) w3 hes3 (by rw [ensN_length]; omega) (open_sorted hopen);have hE3 := HE0.out.fits HG3.out;have hO3 := HO2.out.fits hg3;generalize posE (ensN P) (k, p, s) = J at *;obtain ⟨e0, e1, e2, _⟩ := enres hE3;obtain ⟨o0, o1, o2, o3, o4, o5, _⟩ := pgres hO3;have HSc := keep hsc;have HD2 := keep hd2;have HKs := keep hks3;have HO3 := keep hO3;clear hM hlv hen hbe hes hes3 hopen hd2 hsc hg3 hE3 hO3 hHPo hks hks3;go_wp2_with fail;refine HSc.out.mono ?_;rintro x w4 ⟨rfl, hb4⟩;clear e0 e1 e2 o0 o1 o2 o3 o4 o5;have hO4 := HO3.out.fits hb4;obtain ⟨o0, o1, o2, o3, o4, o5, _⟩ := pgres hO4;have hks4 : IntsS w4 (.slice a2 n2 c2) (kidsN P) := RowS.fits HKs.out hb4;obtain ⟨a, cap, he, hcc⟩ := ints_form hks4.weak;simp only [Value.slice.injEq] at he;obtain ⟨rfl, rfl, rfl⟩ := he;obtain ⟨cc, co, rfl, hcell⟩ := hcc (J - 1) (by omega);have HGW4 := keep (Grow.trans HGW3.out hb4);have hjm : wrap64 ((J : Int) - 1) = (J : Int) - 1 := by
    rw [show (J : Int) - 1 = ((J - 1 : Nat) : Int) by omega];exact wrap64_small _ (by omega)
   have hj0 : (0 : Int) <= (J : Int) - 1 := by omega
   have hjn : (J : Int) - 1 < ((kidsN P).length : Int) := by omega
   clear hO4 hks4 hcc hb4 hp1 hp2 hp3 hp4;go_wp2_with fail;go_ret2;rw [HD2.out];exact ⟨rfl, HGW4.out⟩
end Go.Proofs.YtcdapdcablnhpaaGreat
namespace Go.Proofs.YtcdapdcablnhpaaGreat
open Go.RowKit
attribute [local simp] eql_entry
attribute [local go_sem] guard_entry
theorem pgIn_of {w : World} {iv : Value} {P : Pg} (h : ItemsC w iv P.items) (hs : (P.items.all fun x => decide (x.length <= 1000)) = true) (hh : P.high.length <= 1000) (hl : P.items.length <= 1000) (hlsn : P.lsn <= 9223372036854775807) : PgIn w iv P :=
 ⟨h.1.weak, fun x hx => by have := List.all_eq_true.1 hs x hx; simp only [decide_eq_true_eq] at this; omega, by omega, by omega, hlsn⟩
end Go.Proofs.YtcdapdcablnhpaaGreat
namespace Go.Proofs.YtcdapdcablnhpaaGreat
open Go.RowKit
attribute [local go_sem] givesV lookV knAt hgs
end Go.Proofs.YtcdapdcablnhpaaGreat
namespace Go.Proofs.YtcdapdcablnhpaaGreat
open Go.RowKit
attribute [local go_sem] hgs
set_option maxRecDepth 100000 in
set_option maxHeartbeats 4000000 in
theorem split_no (P : Pg) (iv : Value) (r : Int) (w_ : World) (hin : PgIn w_ iv P) (hsp : splitOk P r = false) :
  Calls Tryz.prog 204 #[pgV P iv, .int .i64 r] w_ (SplitPost zeroP zeroP leastE 140 w_) := by
 obtain ⟨w0, hw0⟩ : ∃ w0, w0 = ((((w_.alloc (.cells (pgCells P iv).toArray 28)).alloc (.cells #[.int .i64 0, .int .i64 0, .int .i64 0, .int .i64 0, .string ⟨#[]⟩, .slice none 0 0] 28)).alloc (.cells #[.int .i64 0, .int .i64 0, .int .i64 0, .int .i64 0, .string ⟨#[]⟩, .slice none 0 0] 28)).alloc (.cells #[.string ⟨#[]⟩, .int .i64 0, .int .i64 0] 103)) := ⟨_, rfl⟩;have hg0 : Grow w_ w0 := by subst hw0; exact ((((Grow.refl w_).alloc _).alloc _).alloc _).alloc _
 have hP0 : Blk w0 w_.heap.size 28 (pgCells P iv) := by
  have := (((Blk.new w_ 28 (pgCells P iv)).alloc (.cells #[.int .i64 0, .int .i64 0, .int .i64 0, .int .i64 0, .string ⟨#[]⟩, .slice none 0 0] 28)).alloc (.cells #[.int .i64 0, .int .i64 0, .int .i64 0, .int .i64 0, .string ⟨#[]⟩, .slice none 0 0] 28)).alloc (.cells #[.string ⟨#[]⟩, .int .i64 0, .int .i64 0] 103);subst hw0; exact this
 have hA0 : Blk w0 (w_.heap.size + 1) 28 [.int .i64 0, .int .i64 0, .int .i64 0, .int .i64 0, .string ⟨#[]⟩, .slice none 0 0] := by
  have := ((Blk.new (w_.alloc (.cells (pgCells P iv).toArray 28)) 28 [.int .i64 0, .int .i64 0, .int .i64 0, .int .i64 0, .string ⟨#[]⟩, .slice none 0 0]).alloc (.cells #[.int .i64 0, .int .i64 0, .int .i64 0, .int .i64 0, .string ⟨#[]⟩, .slice none 0 0] 28)).alloc (.cells #[.string ⟨#[]⟩, .int .i64 0, .int .i64 0] 103);have e : (w_.alloc (.cells (pgCells P iv).toArray 28)).heap.size = w_.heap.size + 1 := by simp
  rw [e] at this;subst hw0; exact this
 have hB0 : Blk w0 (w_.heap.size + 2) 28 [.int .i64 0, .int .i64 0, .int .i64 0, .int .i64 0, .string ⟨#[]⟩, .slice none 0 0] := by
  have := (Blk.new ((w_.alloc (.cells (pgCells P iv).toArray 28)).alloc (.cells #[.int .i64 0, .int .i64 0, .int .i64 0, .int .i64 0, .string ⟨#[]⟩, .slice none 0 0] 28)) 28 [.int .i64 0, .int .i64 0, .int .i64 0, .int .i64 0, .string ⟨#[]⟩, .slice none 0 0]).alloc (.cells #[.string ⟨#[]⟩, .int .i64 0, .int .i64 0] 103);have e : ((w_.alloc (.cells (pgCells P iv).toArray 28)).alloc (.cells #[.int .i64 0, .int .i64 0, .int .i64 0, .int .i64 0, .string ⟨#[]⟩, .slice none 0 0] 28)).heap.size = w_.heap.size + 2 := by simp
  rw [e] at this;subst hw0; exact this
 have hR0 : Blk w0 (w_.heap.size + 3) 103 [.string ⟨#[]⟩, .int .i64 0, .int .i64 0] := by
  have := Blk.new (((w_.alloc (.cells (pgCells P iv).toArray 28)).alloc (.cells #[.int .i64 0, .int .i64 0, .int .i64 0, .int .i64 0, .string ⟨#[]⟩, .slice none 0 0] 28)).alloc (.cells #[.int .i64 0, .int .i64 0, .int .i64 0, .int .i64 0, .string ⟨#[]⟩, .slice none 0 0] 28)) 103 [.string ⟨#[]⟩, .int .i64 0, .int .i64 0];have e : (((w_.alloc (.cells (pgCells P iv).toArray 28)).alloc (.cells #[.int .i64 0, .int .i64 0, .int .i64 0, .int .i64 0, .string ⟨#[]⟩, .slice none 0 0] 28)).alloc (.cells #[.int .i64 0, .int .i64 0, .int .i64 0, .int .i64 0, .string ⟨#[]⟩, .slice none 0 0] 28)).heap.size = w_.heap.size + 3 := by simp
  rw [e] at this;subst hw0; exact this
 have hzR := hR0.lt;have hop := opened_pg (hin.fits hg0);obtain ⟨ia, ic, rfl⟩ := items_form hin.1;have hic := fun u => isChild_any r u
 have hd : (openOk P && (decide (2 <= P.items.length) && inB r 1 65535)) = false := hsp;generalize inB r 1 65535 = IB at *;have HIc := keep hic;have HOp := keep hop;have HD := keep hd;have HIn := keep hin;have HP0 := keep hP0;have HA0 := keep hA0;have HB0 := keep hB0;have HR0 := keep hR0;clear hop hin hA0 hB0 hR0 hsp hd hic;unfold pgCells at hw0 hP0;obtain ⟨p0, p1, p2, p3, p4, p5, _⟩ := pgres hP0;unfold pgV;go_enter Tryz.func204, Tryz.ntmps204;go_upto_region 1 with fail;rw [<- hw0];clear hw0;go_wp2_with fail;refine HOp.out.mono ?_;rintro x w1 ⟨a1, n1, c1, a2, n2, c2, hi, bd, ok, rfl, hok, hyes, hb1⟩;have hd := HD.out;rw [<- hok] at hd;have HD2 := keep hd;clear p0 p1 p2 p3 p4 p5 hP0 hyes hok hd HD;obtain ⟨w2, hw2⟩ : ∃ w2, w2 = w1.alloc (.cells #[.slice a1 n1 c1, .slice a2 n2 c2, .string (str hi.1), .int .i64 hi.2.1, .int .i64 hi.2.2, .bool bd] 151) := ⟨_, rfl⟩;have hg2 : Grow w0 w2 := by subst hw2; exact Grow.alloc hb1 _
 have HG2 := keep hg2;have HGW := keep (Grow.trans hg0 hg2);clear hb1 hg2;go_upto_region 2 with fail;rw [<- hw2];clear hw2;have hP2 := HP0.out.fits HG2.out;unfold pgCells at hP2;obtain ⟨p0, p1, p2, p3, p4, p5, _⟩ := pgres hP2;clear hP2;cases ok with
 | false =>
  have hA2 := HA0.out.fits HG2.out;have hB2 := HB0.out.fits HG2.out;have hR2 := HR0.out.fits HG2.out;have HsA := keep (pgset hA2 (.int .i64 0) (.int .i64 0) (.int .i64 0) (.int .i64 0) (.string ⟨#[]⟩) (.slice none 0 0));have HbA := keep (pgbut w2 (w_.heap.size + 1) (.int .i64 0) (.int .i64 0) (.int .i64 0) (.int .i64 0) (.string ⟨#[]⟩) (.slice none 0 0));have hBA := hB2.but HbA.out (by omega);have hRA := hR2.but HbA.out (by omega);have HsB := keep (pgset hBA (.int .i64 0) (.int .i64 0) (.int .i64 0) (.int .i64 0) (.string ⟨#[]⟩) (.slice none 0 0));have HbB := keep (pgbut ((((((w2.setCell ⟨w_.heap.size + 1, 0, none⟩ (.int .i64 0)).setCell ⟨w_.heap.size + 1, 1, none⟩ (.int .i64 0)).setCell ⟨w_.heap.size + 1, 2, none⟩ (.int .i64 0)).setCell ⟨w_.heap.size + 1, 3, none⟩ (.int .i64 0)).setCell ⟨w_.heap.size + 1, 4, none⟩ (.string ⟨#[]⟩)).setCell ⟨w_.heap.size + 1, 5, none⟩ (.slice none 0 0)) (w_.heap.size + 2) (.int .i64 0) (.int .i64 0) (.int .i64 0) (.int .i64 0) (.string ⟨#[]⟩) (.slice none 0 0));have hRB := hRA.but HbB.out (by omega);have HsR := keep (enset hRB (.string ⟨#[]⟩) (.int .i64 0) (.int .i64 0))
  have HbR := keep (enbut ((((((((((((w2.setCell ⟨w_.heap.size + 1, 0, none⟩ (.int .i64 0)).setCell ⟨w_.heap.size + 1, 1, none⟩ (.int .i64 0)).setCell ⟨w_.heap.size + 1, 2, none⟩ (.int .i64 0)).setCell ⟨w_.heap.size + 1, 3, none⟩ (.int .i64 0)).setCell ⟨w_.heap.size + 1, 4, none⟩ (.string ⟨#[]⟩)).setCell ⟨w_.heap.size + 1, 5, none⟩ (.slice none 0 0)).setCell ⟨w_.heap.size + 2, 0, none⟩ (.int .i64 0)).setCell ⟨w_.heap.size + 2, 1, none⟩ (.int .i64 0)).setCell ⟨w_.heap.size + 2, 2, none⟩ (.int .i64 0)).setCell ⟨w_.heap.size + 2, 3, none⟩ (.int .i64 0)).setCell ⟨w_.heap.size + 2, 4, none⟩ (.string ⟨#[]⟩)).setCell ⟨w_.heap.size + 2, 5, none⟩ (.slice none 0 0)) (w_.heap.size + 3) (.string ⟨#[]⟩) (.int .i64 0) (.int .i64 0));have HfA := keep ((HsA.out.but HbB.out (by omega)).but HbR.out (by omega));have HfB := keep (HsB.out.but HbR.out (by omega));have hlt2 := hR2.lt;obtain ⟨r0, r1, r2, r3, r4, r5, f0, f1, f2, f3, f4, f5⟩ := pgres hA2;obtain ⟨s0, s1, s2, s3, s4, s5, g0, g1, g2, g3, g4, g5⟩ := pgres hB2;obtain ⟨t0, t1, t2, h0, h1, h2⟩ := enres hR2;clear hA2 hB2 hR2 hBA hRA hRB;go_wp2_with fail;have hb1 := But.below HGW.out HbA.out (by omega) (by omega);have hb2 := But.below hb1 HbB.out (by omega) hb1.size;have hb3 := But.below hb2 HbR.out (by omega) hb2.size;refine bodyPost_ret (v := .tuple #[pgV zeroP (.slice none 0 0), pgV zeroP (.slice none 0 0), enV leastE, .int .i64 140]) ?_ rfl ⟨_, _, rfl, ItemsC.nil _, ItemsC.nil _, hb3⟩;obtain ⟨x0, x1, x2, _⟩ := enres HsR.out
  obtain ⟨y0, y1, y2, y3, y4, y5, _⟩ := pgres HfA.out;obtain ⟨z0, z1, z2, z3, z4, z5, _⟩ := pgres HfB.out;simp [results, Tryz.results204, go_sem, x0, x1, x2, y0, y1, y2, y3, y4, y5, z0, z1, z2, z3, z4, z5, pgV, enV, zeroP, leastE]
  rfl
 | true =>
  by_cases hlen : (P.items.length : Int) < 2
  ·have hA2 := HA0.out.fits HG2.out;have hB2 := HB0.out.fits HG2.out;have hR2 := HR0.out.fits HG2.out;have HsA := keep (pgset hA2 (.int .i64 0) (.int .i64 0) (.int .i64 0) (.int .i64 0) (.string ⟨#[]⟩) (.slice none 0 0));have HbA := keep (pgbut w2 (w_.heap.size + 1) (.int .i64 0) (.int .i64 0) (.int .i64 0) (.int .i64 0) (.string ⟨#[]⟩) (.slice none 0 0));have hBA := hB2.but HbA.out (by omega);have hRA := hR2.but HbA.out (by omega);have HsB := keep (pgset hBA (.int .i64 0) (.int .i64 0) (.int .i64 0) (.int .i64 0) (.string ⟨#[]⟩) (.slice none 0 0));have HbB := keep (pgbut ((((((w2.setCell ⟨w_.heap.size + 1, 0, none⟩ (.int .i64 0)).setCell ⟨w_.heap.size + 1, 1, none⟩ (.int .i64 0)).setCell ⟨w_.heap.size + 1, 2, none⟩ (.int .i64 0)).setCell ⟨w_.heap.size + 1, 3, none⟩ (.int .i64 0)).setCell ⟨w_.heap.size + 1, 4, none⟩ (.string ⟨#[]⟩)).setCell ⟨w_.heap.size + 1, 5, none⟩ (.slice none 0 0)) (w_.heap.size + 2) (.int .i64 0) (.int .i64 0) (.int .i64 0) (.int .i64 0) (.string ⟨#[]⟩) (.slice none 0 0));have hRB := hRA.but HbB.out (by omega);have HsR := keep (enset hRB (.string ⟨#[]⟩) (.int .i64 0) (.int .i64 0))
   have HbR := keep (enbut ((((((((((((w2.setCell ⟨w_.heap.size + 1, 0, none⟩ (.int .i64 0)).setCell ⟨w_.heap.size + 1, 1, none⟩ (.int .i64 0)).setCell ⟨w_.heap.size + 1, 2, none⟩ (.int .i64 0)).setCell ⟨w_.heap.size + 1, 3, none⟩ (.int .i64 0)).setCell ⟨w_.heap.size + 1, 4, none⟩ (.string ⟨#[]⟩)).setCell ⟨w_.heap.size + 1, 5, none⟩ (.slice none 0 0)).setCell ⟨w_.heap.size + 2, 0, none⟩ (.int .i64 0)).setCell ⟨w_.heap.size + 2, 1, none⟩ (.int .i64 0)).setCell ⟨w_.heap.size + 2, 2, none⟩ (.int .i64 0)).setCell ⟨w_.heap.size + 2, 3, none⟩ (.int .i64 0)).setCell ⟨w_.heap.size + 2, 4, none⟩ (.string ⟨#[]⟩)).setCell ⟨w_.heap.size + 2, 5, none⟩ (.slice none 0 0)) (w_.heap.size + 3) (.string ⟨#[]⟩) (.int .i64 0) (.int .i64 0));have HfA := keep ((HsA.out.but HbB.out (by omega)).but HbR.out (by omega));have HfB := keep (HsB.out.but HbR.out (by omega));have hlt2 := hR2.lt;obtain ⟨r0, r1, r2, r3, r4, r5, f0, f1, f2, f3, f4, f5⟩ := pgres hA2;obtain ⟨s0, s1, s2, s3, s4, s5, g0, g1, g2, g3, g4, g5⟩ := pgres hB2;obtain ⟨t0, t1, t2, h0, h1, h2⟩ := enres hR2;clear hA2 hB2 hR2 hBA hRA hRB;go_wp2_with fail;have hb1 := But.below HGW.out HbA.out (by omega) (by omega);have hb2 := But.below hb1 HbB.out (by omega) hb1.size;have hb3 := But.below hb2 HbR.out (by omega) hb2.size;refine bodyPost_ret (v := .tuple #[pgV zeroP (.slice none 0 0), pgV zeroP (.slice none 0 0), enV leastE, .int .i64 140]) ?_ rfl ⟨_, _, rfl, ItemsC.nil _, ItemsC.nil _, hb3⟩;obtain ⟨x0, x1, x2, _⟩ := enres HsR.out
   obtain ⟨y0, y1, y2, y3, y4, y5, _⟩ := pgres HfA.out;obtain ⟨z0, z1, z2, z3, z4, z5, _⟩ := pgres HfB.out;simp [results, Tryz.results204, go_sem, x0, x1, x2, y0, y1, y2, y3, y4, y5, z0, z1, z2, z3, z4, z5, pgV, enV, zeroP, leastE]
   rfl
  ·have hib : IB = false := by
    have := HD2.out;rw [Bool.true_and, decide_eq_true (show 2 <= P.items.length by omega), Bool.true_and] at this;exact this
   subst hib;have hA2 := HA0.out.fits HG2.out;have hB2 := HB0.out.fits HG2.out;have hR2 := HR0.out.fits HG2.out;have HsA := keep (pgset hA2 (.int .i64 0) (.int .i64 0) (.int .i64 0) (.int .i64 0) (.string ⟨#[]⟩) (.slice none 0 0));have HbA := keep (pgbut w2 (w_.heap.size + 1) (.int .i64 0) (.int .i64 0) (.int .i64 0) (.int .i64 0) (.string ⟨#[]⟩) (.slice none 0 0));have hBA := hB2.but HbA.out (by omega);have hRA := hR2.but HbA.out (by omega);have HsB := keep (pgset hBA (.int .i64 0) (.int .i64 0) (.int .i64 0) (.int .i64 0) (.string ⟨#[]⟩) (.slice none 0 0));have HbB := keep (pgbut ((((((w2.setCell ⟨w_.heap.size + 1, 0, none⟩ (.int .i64 0)).setCell ⟨w_.heap.size + 1, 1, none⟩ (.int .i64 0)).setCell ⟨w_.heap.size + 1, 2, none⟩ (.int .i64 0)).setCell ⟨w_.heap.size + 1, 3, none⟩ (.int .i64 0)).setCell ⟨w_.heap.size + 1, 4, none⟩ (.string ⟨#[]⟩)).setCell ⟨w_.heap.size + 1, 5, none⟩ (.slice none 0 0)) (w_.heap.size + 2) (.int .i64 0) (.int .i64 0) (.int .i64 0) (.int .i64 0) (.string ⟨#[]⟩) (.slice none 0 0));have hRB := hRA.but HbB.out (by omega);have HsR := keep (enset hRB (.string ⟨#[]⟩) (.int .i64 0) (.int .i64 0))
   have HbR := keep (enbut ((((((((((((w2.setCell ⟨w_.heap.size + 1, 0, none⟩ (.int .i64 0)).setCell ⟨w_.heap.size + 1, 1, none⟩ (.int .i64 0)).setCell ⟨w_.heap.size + 1, 2, none⟩ (.int .i64 0)).setCell ⟨w_.heap.size + 1, 3, none⟩ (.int .i64 0)).setCell ⟨w_.heap.size + 1, 4, none⟩ (.string ⟨#[]⟩)).setCell ⟨w_.heap.size + 1, 5, none⟩ (.slice none 0 0)).setCell ⟨w_.heap.size + 2, 0, none⟩ (.int .i64 0)).setCell ⟨w_.heap.size + 2, 1, none⟩ (.int .i64 0)).setCell ⟨w_.heap.size + 2, 2, none⟩ (.int .i64 0)).setCell ⟨w_.heap.size + 2, 3, none⟩ (.int .i64 0)).setCell ⟨w_.heap.size + 2, 4, none⟩ (.string ⟨#[]⟩)).setCell ⟨w_.heap.size + 2, 5, none⟩ (.slice none 0 0)) (w_.heap.size + 3) (.string ⟨#[]⟩) (.int .i64 0) (.int .i64 0));have HfA := keep ((HsA.out.but HbB.out (by omega)).but HbR.out (by omega));have HfB := keep (HsB.out.but HbR.out (by omega));have hlt2 := hR2.lt;obtain ⟨r0, r1, r2, r3, r4, r5, f0, f1, f2, f3, f4, f5⟩ := pgres hA2;obtain ⟨s0, s1, s2, s3, s4, s5, g0, g1, g2, g3, g4, g5⟩ := pgres hB2;obtain ⟨t0, t1, t2, h0, h1, h2⟩ := enres hR2;clear hA2 hB2 hR2 hBA hRA hRB;go_wp2_with fail;refine (HIc.out w2).mono ?_;rintro x w3 ⟨rfl, rfl⟩;go_wp2_with fail;have hb1 := But.below HGW.out HbA.out (by omega) (by omega);have hb2 := But.below hb1 HbB.out (by omega) hb1.size;have hb3 := But.below hb2 HbR.out (by omega) hb2.size
   refine bodyPost_ret (v := .tuple #[pgV zeroP (.slice none 0 0), pgV zeroP (.slice none 0 0), enV leastE, .int .i64 140]) ?_ rfl ⟨_, _, rfl, ItemsC.nil _, ItemsC.nil _, hb3⟩;obtain ⟨x0, x1, x2, _⟩ := enres HsR.out;obtain ⟨y0, y1, y2, y3, y4, y5, _⟩ := pgres HfA.out;obtain ⟨z0, z1, z2, z3, z4, z5, _⟩ := pgres HfB.out;simp [results, Tryz.results204, go_sem, x0, x1, x2, y0, y1, y2, y3, y4, y5, z0, z1, z2, z3, z4, z5, pgV, enV, zeroP, leastE]
   rfl
end Go.Proofs.YtcdapdcablnhpaaGreat
