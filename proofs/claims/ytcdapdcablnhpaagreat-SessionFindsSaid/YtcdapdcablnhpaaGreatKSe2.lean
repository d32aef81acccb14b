import Derived.Test.YtcdapdcablnhpaaGreatKWc6
import Derived.Test.YtcdapdcablnhpaaGreatKBf11
import Derived.Test.YtcdapdcablnhpaaGreatKLexr
import Derived.Test.YtcdapdcablnhpaaGreatKBl1
import Derived.Test.YtcdapdcablnhpaaGreatKHl1
namespace Go.Proofs.YtcdapdcablnhpaaGreat
open Go.RowKit
def seesB (v : Vw) (x : Int) : Bool := if x = 0 then false else if x = v.own then true else if v.active.contains x || !beforeB v.m x v.next then false else decide (statusS v x = 2)
def visB (v : Vw) (t : Tup) : Bool := if !t.frozen && !seesB v t.xmin then false else !seesB v t.xmax
def unseenB (v : Vw) (x : Int) : Bool := (!decide (x = 0) && !seesB v x) && decide (statusS v x = 2)
def newerB (v : Vw) (t : Tup) : Bool := (!t.frozen && unseenB v t.xmin) || unseenB v t.xmax
def atS (P : Pg) (slot : Int) : Tup × Bool := if P.kind = 2 /\ 0 <= slot /\ slot < P.items.length then ((decS (P.items.getD slot.toNat [])).getD noTup, (decS (P.items.getD slot.toNat [])).isSome) else (noTup, false)
def lookS (P : Pg) (slot : Int) (key : List UInt8) : Tup × Bool := if (atS P slot).2 = true /\ (atS P slot).1.key = key then ((atS P slot).1, true) else (noTup, false)
def slotS (P : Pg) : Nat := P.items.findIdx (·.isEmpty)
def layB (P : Pg) (slot : Int) (item : List UInt8) : Bool :=
 if slot = P.items.length then fitsP { P with items := P.items ++ [item] } else decide (0 <= slot /\ slot < P.items.length) && fitsP { P with items := P.items.set slot.toNat item }
structure Rcd where
 kind : Int
 xid : Int
 page : Int
 slot : Int
 old : Int
 new : Int
 data : List UInt8
 imgs : List (Int × Pg)
def noRd : Rcd := ⟨0, 0, 0, 0, 0, 0, [], []⟩
def insH (P : Pg) (n own : Int) (key val : List UInt8) : Rcd × Int :=
 if P.kind ≠ 2 then (noRd, 120)
 else if tupOk own 0 (str key) (str val) = false then (noRd, 110)
 else if layB P (slotS P) (tupS own.toNat 0 false key val) = false then (noRd, 121)
 else (⟨1, own, n, slotS P, 0, 0, tupS own.toNat 0 false key val, []⟩, 0)
abbrev Rw := List UInt8 × List UInt8
structure Pl where
 call : Int
 key : List UInt8
 upk : List UInt8
 val : List UInt8
 n : Int
 own : Int
 wk : Int
 wkey : List UInt8
 wsz : Int
 wpg : Int
 st : Nat
 re : Int
 rf : Bool
 rv : List UInt8
 rr : List Rw
 rows : List Rw
 seen : Int
 left : List En
 right : Int
 hit : Bool
 one : En
 level : Int
 ent : En
 item : List UInt8
def Pl.writes (S : Pl) : Bool := decide (S.call = 3) || decide (S.call = 4)
def Pl.see (S : Pl) (p : Int) (s : Nat) : Pl := { S with wk := 3, wkey := [], wsz := 0, wpg := p, st := s }
def Pl.fin (S : Pl) (e : Int) (f : Bool) (v : List UInt8) (r : List Rw) : Pl := { S with wk := 4, wkey := [], wsz := 0, wpg := 0, st := 0, re := e, rf := f, rv := v, rr := r }
def Pl.odd (S : Pl) : Pl := S.fin 60 false [] []
def Pl.down (S : Pl) (s : Nat) : Pl := { S with seen := 0 }.see 1 s
def Pl.look (S : Pl) : Pl := S.down 1
def Pl.way (S : Pl) (P : Pg) (level : Int) (e : En) : Pl × Bool :=
 if (wayN P level e).2.2 ≠ 0 \/ ((wayN P level e).2.1 = false /\ 4096 <= S.seen + 1) then ({ S with seen := S.seen + 1 }.odd, false)
 else if (wayN P level e).2.1 = false then ({ S with seen := S.seen + 1, wpg := (wayN P level e).1 }, false)
 else ({ S with seen := S.seen + 1 }, true)
def Pl.write (S : Pl) : Pl :=
 if S.call = 4 then S.fin 0 S.hit [] []
 else { S with st := 0, wk := 2, wkey := [], wsz := if tupOk S.own 0 (str S.key) (str S.val) then (tupS S.own.toNat 0 false S.key S.val).length else 0, wpg := 0 }
def Pl.next (S : Pl) : Pl :=
 match S.left with
 | e :: _ => S.see e.2.1 3
 | [] => if S.right ≠ 0 then S.see S.right 2 else if S.writes = false then S.fin 0 false [] S.rows else if S.hit then S.see S.one.2.1 4 else S.write
def Pl.upto (S : Pl) : List UInt8 := if S.call ≠ 5 then S.key ++ [0] else S.upk
def Pl.gather (S : Pl) (P : Pg) : Pl :=
 if entC P ≠ 0 then S.odd else { S with left := hitsL P S.key S.upto, right := if hitsM P S.upto then P.right else 0 }.next
def Pl.begins (S : Pl) : List UInt8 := if S.key = [] then [0] else S.key
def Pl.descend (S : Pl) (P : Pg) : Pl := if (S.way P 0 (S.begins, 0, 0)).2 then (S.way P 0 (S.begins, 0, 0)).1.gather P else (S.way P 0 (S.begins, 0, 0)).1
def Pl.inspect (S : Pl) (v : Vw) (P : Pg) : Pl :=
 match S.left with
 | [] => S
 | e :: l =>
  if ((lookS P e.2.2 e.1).2 && S.writes) && newerB v (lookS P e.2.2 e.1).1 then { S with left := l }.fin 180 false [] []
  else if ((lookS P e.2.2 e.1).2 && visB v (lookS P e.2.2 e.1).1) = false then { S with left := l }.next
  else if S.writes then { S with left := l, hit := true, one := e }.next
  else if S.call = 2 then { S with left := l }.fin 0 true (lookS P e.2.2 e.1).1.val []
  else if ((S.rows ++ [((lookS P e.2.2 e.1).1.key, (lookS P e.2.2 e.1).1.val)]).length : Int) = S.n then { S with left := l, rows := S.rows ++ [((lookS P e.2.2 e.1).1.key, (lookS P e.2.2 e.1).1.val)] }.fin 0 false [] (S.rows ++ [((lookS P e.2.2 e.1).1.key, (lookS P e.2.2 e.1).1.val)])
  else { S with left := l, rows := S.rows ++ [((lookS P e.2.2 e.1).1.key, (lookS P e.2.2 e.1).1.val)] }.next
def markH (P : Pg) (n slot own : Int) : Rcd × Int :=
 if (atS P slot).2 = false then (noRd, 120)
 else if own < 1 \/ own = (atS P slot).1.xmax then (noRd, 1)
 else if tupOk (atS P slot).1.xmin own (str (atS P slot).1.key) (str (atS P slot).1.val) = false then (noRd, 1)
 else if layB P slot (tupS (atS P slot).1.xmin own.toNat (atS P slot).1.frozen (atS P slot).1.key (atS P slot).1.val) = false then (noRd, 121)
 else (⟨2, own, n, slot, (atS P slot).1.xmax, own, [], []⟩, 0)
def Pl.finish (S : Pl) (P : Pg) : Pl × Rcd × Bool :=
 if (markH P S.wpg S.one.2.2 S.own).2 ≠ 0 then (S.fin (markH P S.wpg S.one.2.2 S.own).2 false [] [], noRd, false) else (S.write, (markH P S.wpg S.one.2.2 S.own).1, true)
def Pl.lay (S : Pl) (P : Pg) : Pl × Rcd × Bool :=
 if (insH P S.wpg S.own S.key S.val).2 = 121 then (S.write, noRd, false)
 else if (insH P S.wpg S.own S.key S.val).2 ≠ 0 then (S.odd, noRd, false)
 else ({ S with level := 0, ent := (S.key, S.wpg, (insH P S.wpg S.own S.key S.val).1.slot), item := (encN (S.key, S.wpg, (insH P S.wpg S.own S.key S.val).1.slot)).1 }.down 6, (insH P S.wpg S.own S.key S.val).1, true)
def rdOf (R : Int × Int × List UInt8 × List (Int × Pg)) (own : Int) : Rcd := ⟨R.1, own, R.2.1, 0, 0, 0, R.2.2.1, R.2.2.2⟩
def Pl.new (call : Int) (key upk val : List UInt8) (n own : Int) : Pl := ⟨call, key, upk, val, n, own, 0, [], 0, 0, 0, 0, false, [], [], [], 0, [], 0, false, leastE, 0, leastE, []⟩
def isKeyB (key : List UInt8) : Bool := decide (0 < key.length) && decide (key.length <= 24)
def rightB (call : Int) (key upk val : List UInt8) (n own : Int) : Bool :=
 if call = 2 then isKeyB key else if call = 3 then (isKeyB key && decide (val.length <= 64)) && decide (0 < own) else if call = 4 then isKeyB key && decide (0 < own)
 else if call = 5 then ((decide (key.length <= 24) && decide (upk.length <= 24)) && decide (0 < n)) && decide (n <= 16) else false
def startS (call : Int) (key upk val : List UInt8) (n own : Int) : Pl := if (Pl.new call key upk val n own).writes then { Pl.new call key upk val n own with wk := 1, wkey := key, wsz := 0, wpg := 0 } else (Pl.new call key upk val n own).look
set_option maxRecDepth 100000 in
set_option maxHeartbeats 1000000 in
theorem sees_any (v : Vw) (av rv iv : Value) (x : Int) (w : World) (hv : VwIn w v av rv iv) :
  Calls Tryz.prog 241 #[vwV v av rv iv, .int .i64 x] w fun e w' => e = .returned (.bool (seesB v x)) /\ Below w.heap.size w w' := by
 obtain ⟨w0, hw0⟩ : ∃ w0, w0 = w.alloc (.cells (vwCells v av rv iv).toArray 40) := ⟨_, rfl⟩;have hg0 : Grow w w0 := by subst hw0; exact (Grow.refl w).alloc _
 have hB0 : Blk w0 w.heap.size 40 (vwCells v av rv iv) := by subst hw0; exact Blk.new w _ _
 have hc := contains_any av v.active x w0 (hv.act.fits hg0) hv.actl;have hbe := fun (u : World) => before_any v.m x v.next u
 have hst := fun (u : World) (hu : Grow w u) => status_any v av rv iv x u (hv.fits hu)
 have hd : seesB v x = if x = 0 then false else if x = v.own then true else if v.active.contains x || !beforeB v.m x v.next then false else decide (statusS v x = 2) := rfl
 have h2 : ((statusS v x : Int) == 2) = decide (statusS v x = 2) := by
  rw [show (2 : Int) = ((2 : Nat) : Int) from rfl, u8_eq]
  rfl
 obtain ⟨iva, ivc, rfl⟩ := items_form hv.items;obtain ⟨rva, rvc, rfl, _⟩ := ints_form hv.run;obtain ⟨ava, avc, rfl, _⟩ := ints_form hv.act;generalize statusS v x = S at *;generalize beforeB v.m x v.next = B at *;generalize seesB v x = R at *;have HC := keep hc;have HBe := keep hbe;have HSt := keep hst;have HD := keep hd;have H2 := keep h2;have HB0 := keep hB0;have HG0 := keep hg0;clear hc hbe hst hd h2 hv hg0;unfold vwV at *;unfold vwCells at hw0 hB0;obtain ⟨c0, c1, c2, c3, c4, c5, c6, c7, c8, c9, c10⟩ := vwres hB0;clear hB0;go_enter Tryz.func241, Tryz.ntmps241;go_upto_region 1 with fail;rw [<- hw0];clear hw0
 by_cases h0 : x = 0
 ·have e0 : (x == 0) = true := by simpa using h0
  have HR := keep (show R = false by rw [HD.out, if_pos h0]);clear h0;go_wp2_with fail;go_ret;exact ⟨by rw [HR.out]; rfl, HG0.out⟩
 ·have e0 : (x == 0) = false := by simpa using h0
  by_cases h1 : x = v.own
  ·have e1 : (x == v.own) = true := by simpa using h1
   have HR := keep (show R = true by rw [HD.out, if_neg h0, if_pos h1]);clear h0 h1;go_wp2_with fail;go_ret;exact ⟨by rw [HR.out]; rfl, HG0.out⟩
  ·have e1 : (x == v.own) = false := by simpa using h1
   have HD2 := keep (show R = if v.active.contains x || !B then false else decide (S = 2) by rw [HD.out, if_neg h0, if_neg h1]);clear h0 h1 HD;go_wp2_with fail;refine HC.out.mono ?_;rintro e w1 ⟨rfl, hb1⟩;have HG1 := keep (show Grow w0 w1 from hb1);clear c0 c1 c2 c3 c4 c5 c6 c7 c8 c9 c10 hb1 HC;have hB1 := HB0.out.fits HG1.out;unfold vwCells at hB1;obtain ⟨c0, c1, c2, c3, c4, c5, c6, c7, c8, c9, c10⟩ := vwres hB1;clear hB1;generalize v.active.contains x = C at *;cases C with
   | true =>
    go_wp2_with fail;go_ret;exact ⟨by rw [HD2.out]; rfl, Grow.trans HG0.out HG1.out⟩
   | false =>
    go_wp2_with fail;refine (HBe.out w1).mono ?_;rintro e w2 ⟨rfl, hb2⟩;have HG2 := keep (Grow.trans HG1.out hb2);clear c0 c1 c2 c3 c4 c5 c6 c7 c8 c9 c10 hb2 HBe;have hB2 := HB0.out.fits HG2.out;unfold vwCells at hB2;obtain ⟨c0, c1, c2, c3, c4, c5, c6, c7, c8, c9, c10⟩ := vwres hB2;clear hB2;cases B with
    | false =>
     go_wp2_with fail;go_ret;exact ⟨by rw [HD2.out]; rfl, Grow.trans HG0.out HG2.out⟩
    | true =>
     go_wp2_with fail;refine (HSt.out w2 (Grow.trans HG0.out HG2.out)).mono ?_;rintro e w3 ⟨rfl, hb3⟩;have HG3 := keep (Grow.trans HG2.out hb3);clear c0 c1 c2 c3 c4 c5 c6 c7 c8 c9 c10 hb3 HSt;go_wp2_with fail;go_ret;exact ⟨by rw [HD2.out]; simp [H2.out], Grow.trans HG0.out HG3.out⟩
theorem vt_new (v : Vw) (av rv iv : Value) (t : Tup) (w w1 : World) (h : w1 = (w.alloc (.cells (vwCells v av rv iv).toArray 40)).alloc (.cells (tuCells t).toArray 44)) : Grow w w1 /\ Blk w1 w.heap.size 40 (vwCells v av rv iv) /\ Blk w1 (w.heap.size + 1) 44 (tuCells t) := by
 refine ⟨?_, ?_, ?_⟩
 ·subst h; exact ((Grow.refl w).alloc _).alloc _
 ·subst h; exact (Blk.new w _ _).alloc _
 ·have := Blk.new (w.alloc (.cells (vwCells v av rv iv).toArray 40)) 44 (tuCells t);have e : (w.alloc (.cells (vwCells v av rv iv).toArray 40)).heap.size = w.heap.size + 1 := by simp
  rw [e] at this;subst h; exact this
set_option maxRecDepth 100000 in
set_option maxHeartbeats 1000000 in
theorem visible_any (v : Vw) (av rv iv : Value) (t : Tup) (w : World) (hv : VwIn w v av rv iv) :
  Calls Tryz.prog 234 #[vwV v av rv iv, tupV t] w fun e w' => e = .returned (.bool (visB v t)) /\ Below w.heap.size w w' := by
 obtain ⟨w1, hw1⟩ : ∃ w1, w1 = (w.alloc (.cells (vwCells v av rv iv).toArray 40)).alloc (.cells (tuCells t).toArray 44) := ⟨_, rfl⟩;obtain ⟨hg1, hB1, hT1⟩ := vt_new v av rv iv t w w1 hw1;have h1 := fun (u : World) (hu : Grow w u) => sees_any v av rv iv t.xmin u (hv.fits hu)
 have h2 := fun (u : World) (hu : Grow w u) => sees_any v av rv iv t.xmax u (hv.fits hu)
 have hd : visB v t = if !t.frozen && !seesB v t.xmin then false else !seesB v t.xmax := rfl
 obtain ⟨iva, ivc, rfl⟩ := items_form hv.items;obtain ⟨rva, rvc, rfl, _⟩ := ints_form hv.run;obtain ⟨ava, avc, rfl, _⟩ := ints_form hv.act;unfold tuCells at hw1;unfold tupV;generalize seesB v t.xmin = X at *;generalize seesB v t.xmax = Y at *;generalize visB v t = R at *;have H1 := keep h1;have H2 := keep h2;have HB1 := keep hB1;have HT1 := keep hT1;have HG1 := keep hg1;clear h1 h2 hv hg1;unfold tuCells at hT1;generalize t.frozen = F at *;have HD := keep hd;clear hd;unfold vwV at *;unfold vwCells at hw1 hB1;obtain ⟨c0, c1, c2, c3, c4, c5, c6, c7, c8, c9, c10⟩ := vwres hB1;obtain ⟨d0, d1, d2, d3, d4⟩ := tures hT1;clear hB1 hT1;go_enter Tryz.func234, Tryz.ntmps234;go_upto_region 1 with fail;rw [<- hw1];clear hw1;cases F with
 | true =>
  go_wp2_with fail;refine (H2.out w1 (Grow.trans HG1.out (Grow.refl w1))).mono ?_;rintro e w2 ⟨rfl, hb⟩;have HG2 := keep (Grow.trans (Grow.refl w1) hb);clear hb H2;clear c0 c1 c2 c3 c4 c5 c6 c7 c8 c9 c10 d0 d1 d2 d3 d4;go_wp2_with fail;go_ret;exact ⟨by rw [HD.out]; simp, Grow.trans HG1.out HG2.out⟩
 | false =>
  go_wp2_with fail;refine (H1.out w1 (Grow.trans HG1.out (Grow.refl w1))).mono ?_;rintro e w2 ⟨rfl, hb⟩;have HG2 := keep (Grow.trans (Grow.refl w1) hb);clear hb H1;clear c0 c1 c2 c3 c4 c5 c6 c7 c8 c9 c10 d0 d1 d2 d3 d4;have hB := HB1.out.fits HG2.out;have hT := HT1.out.fits HG2.out;unfold vwCells at hB;unfold tuCells at hT;obtain ⟨c0, c1, c2, c3, c4, c5, c6, c7, c8, c9, c10⟩ := vwres hB;obtain ⟨d0, d1, d2, d3, d4⟩ := tures hT;clear hB hT;cases X with
  | false =>
   go_wp2_with fail;go_ret;exact ⟨by rw [HD.out]; simp, Grow.trans HG1.out HG2.out⟩
  | true =>
   go_wp2_with fail;refine (H2.out w2 (Grow.trans HG1.out HG2.out)).mono ?_;rintro e w3 ⟨rfl, hb⟩;have HG3 := keep (Grow.trans HG2.out hb);clear hb H2;clear c0 c1 c2 c3 c4 c5 c6 c7 c8 c9 c10 d0 d1 d2 d3 d4;go_wp2_with fail;go_ret;exact ⟨by rw [HD.out]; simp, Grow.trans HG1.out HG3.out⟩
set_option maxRecDepth 100000 in
set_option maxHeartbeats 1000000 in
theorem unseen_any (v : Vw) (av rv iv : Value) (x : Int) (w : World) (hv : VwIn w v av rv iv) :
  Calls Tryz.prog 242 #[vwV v av rv iv, .int .i64 x] w fun e w' => e = .returned (.bool (unseenB v x)) /\ Below w.heap.size w w' := by
 obtain ⟨w0, hw0⟩ : ∃ w0, w0 = w.alloc (.cells (vwCells v av rv iv).toArray 40) := ⟨_, rfl⟩;have hg0 : Grow w w0 := by subst hw0; exact (Grow.refl w).alloc _
 have hB0 : Blk w0 w.heap.size 40 (vwCells v av rv iv) := by subst hw0; exact Blk.new w _ _
 have hse := fun (u : World) (hu : Grow w u) => sees_any v av rv iv x u (hv.fits hu)
 have hst := fun (u : World) (hu : Grow w u) => status_any v av rv iv x u (hv.fits hu)
 have hd : unseenB v x = ((!decide (x = 0) && !seesB v x) && decide (statusS v x = 2)) := rfl;have h2 : ((statusS v x : Int) == 2) = decide (statusS v x = 2) := by
  rw [show (2 : Int) = ((2 : Nat) : Int) from rfl, u8_eq]
  rfl
 obtain ⟨iva, ivc, rfl⟩ := items_form hv.items;obtain ⟨rva, rvc, rfl, _⟩ := ints_form hv.run;obtain ⟨ava, avc, rfl, _⟩ := ints_form hv.act;generalize statusS v x = S at *;generalize seesB v x = X at *;generalize unseenB v x = R at *;have HSe := keep hse;have HSt := keep hst;have HD := keep hd;have H2 := keep h2;have HB0 := keep hB0;have HG0 := keep hg0;clear hse hst hd h2 hv hg0;unfold vwV at *;unfold vwCells at hw0 hB0;obtain ⟨c0, c1, c2, c3, c4, c5, c6, c7, c8, c9, c10⟩ := vwres hB0;clear hB0;go_enter Tryz.func242, Tryz.ntmps242;go_upto_region 1 with fail;rw [<- hw0];clear hw0
 by_cases h0 : x = 0
 ·have e0 : (x != 0) = false := by simpa using h0
  have HR := keep (show R = false by rw [HD.out, decide_eq_true h0]; rfl);clear h0;go_wp2_with fail;go_ret;exact ⟨by rw [HR.out]; rfl, HG0.out⟩
 ·have e0 : (x != 0) = true := by simpa using h0
  have HR := keep (show R = (!X && decide (S = 2)) by rw [HD.out, decide_eq_false h0]; rfl);clear h0;go_wp2_with fail;refine (HSe.out w0 HG0.out).mono ?_;rintro e w1 ⟨rfl, hb1⟩;have HG1 := keep (show Grow w0 w1 from hb1);clear c0 c1 c2 c3 c4 c5 c6 c7 c8 c9 c10 hb1 HSe;have hB1 := HB0.out.fits HG1.out;unfold vwCells at hB1;obtain ⟨c0, c1, c2, c3, c4, c5, c6, c7, c8, c9, c10⟩ := vwres hB1;clear hB1;cases X with
  | true =>
   go_wp2_with fail;go_ret;exact ⟨by rw [HR.out]; rfl, Grow.trans HG0.out HG1.out⟩
  | false =>
   go_wp2_with fail;refine (HSt.out w1 (Grow.trans HG0.out HG1.out)).mono ?_;rintro e w2 ⟨rfl, hb2⟩;have HG2 := keep (Grow.trans HG1.out hb2);clear c0 c1 c2 c3 c4 c5 c6 c7 c8 c9 c10 hb2 HSt;go_wp2_with fail;go_ret;exact ⟨by rw [HR.out]; simp [H2.out], Grow.trans HG0.out HG2.out⟩
set_option maxRecDepth 100000 in
set_option maxHeartbeats 1000000 in
theorem newer_any (v : Vw) (av rv iv : Value) (t : Tup) (w : World) (hv : VwIn w v av rv iv) :
  Calls Tryz.prog 235 #[vwV v av rv iv, tupV t] w fun e w' => e = .returned (.bool (newerB v t)) /\ Below w.heap.size w w' := by
 obtain ⟨w1, hw1⟩ : ∃ w1, w1 = (w.alloc (.cells (vwCells v av rv iv).toArray 40)).alloc (.cells (tuCells t).toArray 44) := ⟨_, rfl⟩;obtain ⟨hg1, hB1, hT1⟩ := vt_new v av rv iv t w w1 hw1;have h1 := fun (u : World) (hu : Grow w u) => unseen_any v av rv iv t.xmin u (hv.fits hu)
 have h2 := fun (u : World) (hu : Grow w u) => unseen_any v av rv iv t.xmax u (hv.fits hu)
 have hd : newerB v t = ((!t.frozen && unseenB v t.xmin) || unseenB v t.xmax) := rfl;obtain ⟨iva, ivc, rfl⟩ := items_form hv.items;obtain ⟨rva, rvc, rfl, _⟩ := ints_form hv.run;obtain ⟨ava, avc, rfl, _⟩ := ints_form hv.act;unfold tuCells at hw1;unfold tupV;generalize unseenB v t.xmin = X at *;generalize unseenB v t.xmax = Y at *;generalize newerB v t = R at *;have H1 := keep h1;have H2 := keep h2;have HB1 := keep hB1;have HT1 := keep hT1;have HG1 := keep hg1;clear h1 h2 hv hg1;unfold tuCells at hT1;generalize t.frozen = F at *;have HD := keep hd;clear hd;unfold vwV at *;unfold vwCells at hw1 hB1;obtain ⟨c0, c1, c2, c3, c4, c5, c6, c7, c8, c9, c10⟩ := vwres hB1;obtain ⟨d0, d1, d2, d3, d4⟩ := tures hT1;clear hB1 hT1;go_enter Tryz.func235, Tryz.ntmps235;go_upto_region 1 with fail;rw [<- hw1];clear hw1;cases F with
 | true =>
  go_wp2_with fail;refine (H2.out w1 (Grow.trans HG1.out (Grow.refl w1))).mono ?_;rintro e w2 ⟨rfl, hb⟩;have HG2 := keep (Grow.trans (Grow.refl w1) hb);clear hb H2;clear c0 c1 c2 c3 c4 c5 c6 c7 c8 c9 c10 d0 d1 d2 d3 d4;go_wp2_with fail;go_ret;exact ⟨by rw [HD.out]; simp, Grow.trans HG1.out HG2.out⟩
 | false =>
  go_wp2_with fail;refine (H1.out w1 (Grow.trans HG1.out (Grow.refl w1))).mono ?_;rintro e w2 ⟨rfl, hb⟩;have HG2 := keep (Grow.trans (Grow.refl w1) hb);clear hb H1;clear c0 c1 c2 c3 c4 c5 c6 c7 c8 c9 c10 d0 d1 d2 d3 d4;have hB := HB1.out.fits HG2.out;have hT := HT1.out.fits HG2.out;unfold vwCells at hB;unfold tuCells at hT;obtain ⟨c0, c1, c2, c3, c4, c5, c6, c7, c8, c9, c10⟩ := vwres hB;obtain ⟨d0, d1, d2, d3, d4⟩ := tures hT;clear hB hT;cases X with
  | true =>
   go_wp2_with fail;go_ret;exact ⟨by rw [HD.out]; simp, Grow.trans HG1.out HG2.out⟩
  | false =>
   go_wp2_with fail;refine (H2.out w2 (Grow.trans HG1.out HG2.out)).mono ?_;rintro e w3 ⟨rfl, hb⟩;have HG3 := keep (Grow.trans HG2.out hb);clear hb H2;clear c0 c1 c2 c3 c4 c5 c6 c7 c8 c9 c10 d0 d1 d2 d3 d4;go_wp2_with fail;go_ret;exact ⟨by rw [HD.out]; simp, Grow.trans HG1.out HG3.out⟩
theorem tu_new (w : World) (u : World) (cs : List Value) (h : u = w.alloc (.cells cs.toArray 44)) : Blk u w.heap.size 44 cs /\ Grow w u := by
 subst h;exact ⟨Blk.new w _ cs, (Grow.refl w).alloc _⟩
theorem item_cell {w : World} {iv : Value} {l : List (List UInt8)} (h : Items w iv l) {k : Nat} (hk : k < l.length) : ∃ c off cap, iv = .slice (some ⟨c, off, none⟩) l.length cap /\ ∀ u, Grow w u -> u.cell? ⟨c, off + k, none⟩ = some (.string (str l[k])) := by
 obtain ⟨c, off, cap, e, hc⟩ := items_cells h (by omega);exact ⟨c, off, cap, e, fun u hu => (hu.cell (World.block_lt_of_cell? w _ (hc k hk))).trans (hc k hk)⟩
theorem atS_no {P : Pg} {slot : Int} (h : ¬ (P.kind = 2 /\ 0 <= slot /\ slot < P.items.length)) : atS P slot = (noTup, false) := by unfold atS; rw [if_neg h]
theorem atS_at {P : Pg} {k : Nat} (h2 : P.kind = 2) (hk : k < P.items.length) : atS P (k : Int) = ((decS P.items[k]).getD noTup, (decS P.items[k]).isSome) := by
 unfold atS;rw [if_pos ⟨h2, by omega, by omega⟩, Int.toNat_natCast];have : P.items.getD k [] = P.items[k] := by simp [hk]
 rw [this]
set_option maxRecDepth 100000 in
set_option maxHeartbeats 2000000 in
theorem at_any (P : Pg) (iv : Value) (slot : Int) (w_ : World) (hin : PgIn w_ iv P) :
  Calls Tryz.prog 240 #[pgV P iv, .int .i64 slot] w_ fun x w' => x = .returned (.tuple #[tupV (atS P slot).1, .bool (atS P slot).2]) /\ Below w_.heap.size w_ w' := by
 obtain ⟨w0, hw0⟩ : ∃ w0, w0 = (w_.alloc (.cells (pgCells P iv).toArray 28)).alloc (.cells #[.int .i64 0, .int .i64 0, .bool false, .string ⟨#[]⟩, .string ⟨#[]⟩] 44) := ⟨_, rfl⟩;have hg0 : Grow w_ w0 := by subst hw0; exact ((Grow.refl w_).alloc _).alloc _
 have hP0 : Blk w0 w_.heap.size 28 (pgCells P iv) := by subst hw0; exact (Blk.new w_ _ _).alloc _
 have hT0 : Blk w0 (w_.heap.size + 1) 44 [.int .i64 0, .int .i64 0, .bool false, .string ⟨#[]⟩, .string ⟨#[]⟩] := by
  have := Blk.new (w_.alloc (.cells (pgCells P iv).toArray 28)) 44 [.int .i64 0, .int .i64 0, .bool false, .string ⟨#[]⟩, .string ⟨#[]⟩];have e : (w_.alloc (.cells (pgCells P iv).toArray 28)).heap.size = w_.heap.size + 1 := by simp
  rw [e] at this;subst hw0; exact this
 obtain ⟨ia, ic, rfl⟩ := items_form hin.1;obtain ⟨R, hR⟩ : ∃ R, atS P slot = R := ⟨_, rfl⟩;rw [hR];have HR := keep hR;clear hR;have HP0 := keep hP0;have HT0 := keep hT0;have HG0 := keep hg0;have HIn := keep hin;unfold pgCells at hw0 hP0;obtain ⟨p0, p1, p2, p3, p4, p5, _⟩ := pgres hP0;obtain ⟨d0, d1, d2, d3, d4⟩ := tures hT0;have z0 := hT0.free 0;have z1 := hT0.free 1;have z2 := hT0.free 2;have z3 := hT0.free 3;have z4 := hT0.free 4;clear hP0 hT0 hg0 hin;unfold pgV;go_enter Tryz.func240, Tryz.ntmps240;go_upto_region 1 with fail;rw [<- hw0];clear hw0
 by_cases hok : P.kind = 2 /\ 0 <= slot /\ slot < P.items.length
 ·obtain ⟨h1, h2, h3⟩ := hok;obtain ⟨k, rfl⟩ := Int.eq_ofNat_of_zero_le h2;have hk : k < P.items.length := by omega
  have hr : R = ((decS P.items[k]).getD noTup, (decS P.items[k]).isSome) := by rw [<- HR.out]; exact atS_at h1 hk
  obtain ⟨c, off, cap, e5, hc⟩ := item_cell HIn.out.1 hk;simp only [Value.slice.injEq] at e5;obtain ⟨rfl, -, rfl⟩ := e5;have q0 := hc w0 HG0.out;have hde := fun (u : World) => tdecode_any (str P.items[k]) u (by have := HIn.out.2.1 P.items[k] (List.getElem_mem hk); simp; omega)
  unfold DecPost tupV at hde;simp only [str_toList] at hde;obtain ⟨item, hitem⟩ : ∃ i, P.items[k] = i := ⟨_, rfl⟩;rw [hitem] at q0 hde hr;clear hitem;obtain ⟨o, ho⟩ : ∃ o, decS item = o := ⟨_, rfl⟩;simp only [ho] at hde hr;clear ho;obtain ⟨T, hT⟩ : ∃ T, o.getD noTup = T := ⟨_, rfl⟩;obtain ⟨cd, hcd⟩ : ∃ cd : Int, (if o.isSome = true then (0 : Int) else 110) = cd := ⟨_, rfl⟩;obtain ⟨bb, hbb⟩ : ∃ b, o.isSome = b := ⟨_, rfl⟩;have hcz : (cd == 0) = bb := by subst hcd hbb; cases o <;> rfl
  simp only [hcd, hT] at hde;rw [hT, hbb] at hr;clear hT hcd hbb;have HDe := keep hde;have HRR := keep hr;clear hr;have e1 : (P.kind != 2) = false := by simp [h1]
  have e2 : decide ((k : Int) < 0) = false := decide_eq_false (by omega);have e3 : decide (P.items.length <= k) = false := decide_eq_false (by omega);clear hde h1 h2 h3 hc;go_wp2_with fail;refine (HDe.out w0).mono ?_;rintro x w1 ⟨rfl, hb1⟩;have HG1 := keep (show Grow w0 w1 from hb1);clear p0 p1 p2 p3 p4 p5 d0 d1 d2 d3 d4 z0 z1 z2 z3 z4 q0 hb1 HDe;have hT1 := HT0.out.fits HG1.out;obtain ⟨d0, d1, d2, d3, d4⟩ := tures hT1;have z0 := hT1.free 0;have z1 := hT1.free 1;have z2 := hT1.free 2;have z3 := hT1.free 3;have z4 := hT1.free 4;have hl1 := hT1.lt;clear hT1 d0 d1 d2 d3 d4 z0 z1 z2 z3 z4;go_upto_region 4 with fail;obtain ⟨w2, hw2⟩ : ∃ w2, w2 = w1.alloc (.cells #[.int .i64 T.xmin, .int .i64 T.xmax, .bool T.frozen, .string (str T.key), .string (str T.val)] 44) := ⟨_, rfl⟩;rw [<- hw2];obtain ⟨hB2, hg2⟩ := tu_new w1 w2 [.int .i64 T.xmin, .int .i64 T.xmax, .bool T.frozen, .string (str T.key), .string (str T.val)] hw2;have HG2 := keep (Grow.trans HG1.out hg2);have hT2 := HT0.out.fits HG2.out;obtain ⟨x0, x1, x2, x3, x4⟩ := tures hB2;obtain ⟨d0, d1, d2, d3, d4⟩ := tures hT2;have z0 := hT2.free 0;have z1 := hT2.free 1;have z2 := hT2.free 2;have z3 := hT2.free 3;have z4 := hT2.free 4;have HT2 := keep hT2;clear hw2 hB2 hg2 hT2;go_wp2_with fail;have hga := Grow.trans HG0.out HG2.out;have Hset := keep (set5 HT2.out (.int .i64 T.xmin) (.int .i64 T.xmax) (.bool T.frozen) (.string (str T.key)) (.string (str T.val)))
  have Hbut := keep (but5 w2 (w_.heap.size + 1) (.int .i64 T.xmin) (.int .i64 T.xmax) (.bool T.frozen) (.string (str T.key)) (.string (str T.val)));refine bodyPost_ret (v := .tuple #[tupV T, .bool bb]) ?_ rfl ⟨by rw [HRR.out], But.below hga Hbut.out (by omega) hga.size⟩;obtain ⟨s0, s1, s2, s3, s4⟩ := tures Hset.out;clear z0 z1 z2 z3 z4 x0 x1 x2 x3 x4 d0 d1 d2 d3 d4;simp [results, Tryz.results240, go_sem, s0, s1, s2, s3, s4, tupV]
 ·have HRR := keep (show R = (noTup, false) by rw [<- HR.out]; exact atS_no hok)
  by_cases h1 : P.kind = 2
  ·have e1 : (P.kind != 2) = false := by simp [h1]
   by_cases h2 : slot < 0
   ·have e2 : decide (slot < 0) = true := decide_eq_true h2;clear hok h1 h2;go_wp2_with fail;have Hset := keep (set5 HT0.out (.int .i64 0) (.int .i64 0) (.bool false) (.string ⟨#[]⟩) (.string ⟨#[]⟩));have Hbut := keep (but5 w0 (w_.heap.size + 1) (.int .i64 0) (.int .i64 0) (.bool false) (.string ⟨#[]⟩) (.string ⟨#[]⟩));refine bodyPost_ret (v := .tuple #[tupV noTup, .bool false]) ?_ rfl ⟨by rw [HRR.out], But.below HG0.out Hbut.out (by omega) HG0.out.size⟩;obtain ⟨s0, s1, s2, s3, s4⟩ := tures Hset.out;clear z0 z1 z2 z3 z4 d0 d1 d2 d3 d4 p0 p1 p2 p3 p4 p5;simp [results, Tryz.results240, go_sem, s0, s1, s2, s3, s4, tupV, noTup]
    try rfl
   ·have e2 : decide (slot < 0) = false := decide_eq_false h2
    have e3 : decide ((P.items.length : Int) <= slot) = true := decide_eq_true (by
     rcases Decidable.em ((P.items.length : Int) <= slot) with h | h
     ·exact h
     ·exact absurd ⟨h1, by omega, by omega⟩ hok)
    clear hok h1 h2;go_wp2_with fail;have Hset := keep (set5 HT0.out (.int .i64 0) (.int .i64 0) (.bool false) (.string ⟨#[]⟩) (.string ⟨#[]⟩));have Hbut := keep (but5 w0 (w_.heap.size + 1) (.int .i64 0) (.int .i64 0) (.bool false) (.string ⟨#[]⟩) (.string ⟨#[]⟩));refine bodyPost_ret (v := .tuple #[tupV noTup, .bool false]) ?_ rfl ⟨by rw [HRR.out], But.below HG0.out Hbut.out (by omega) HG0.out.size⟩;obtain ⟨s0, s1, s2, s3, s4⟩ := tures Hset.out;clear z0 z1 z2 z3 z4 d0 d1 d2 d3 d4 p0 p1 p2 p3 p4 p5;simp [results, Tryz.results240, go_sem, s0, s1, s2, s3, s4, tupV, noTup]
    try rfl
  ·have e1 : (P.kind != 2) = true := by simpa using h1
   clear hok h1;go_wp2_with fail;have Hset := keep (set5 HT0.out (.int .i64 0) (.int .i64 0) (.bool false) (.string ⟨#[]⟩) (.string ⟨#[]⟩));have Hbut := keep (but5 w0 (w_.heap.size + 1) (.int .i64 0) (.int .i64 0) (.bool false) (.string ⟨#[]⟩) (.string ⟨#[]⟩));refine bodyPost_ret (v := .tuple #[tupV noTup, .bool false]) ?_ rfl ⟨by rw [HRR.out], But.below HG0.out Hbut.out (by omega) HG0.out.size⟩;obtain ⟨s0, s1, s2, s3, s4⟩ := tures Hset.out;clear z0 z1 z2 z3 z4 d0 d1 d2 d3 d4 p0 p1 p2 p3 p4 p5;simp [results, Tryz.results240, go_sem, s0, s1, s2, s3, s4, tupV, noTup]
   try rfl
set_option maxRecDepth 100000 in
set_option maxHeartbeats 2000000 in
theorem look_any (P : Pg) (iv : Value) (slot : Int) (key : List UInt8) (w_ : World) (hin : PgIn w_ iv P) :
  Calls Tryz.prog 233 #[pgV P iv, .int .i64 slot, .string (str key)] w_ fun x w' => x = .returned (.tuple #[tupV (lookS P slot key).1, .bool (lookS P slot key).2]) /\ Below w_.heap.size w_ w' := by
 obtain ⟨w0, hw0⟩ : ∃ w0, w0 = (w_.alloc (.cells (pgCells P iv).toArray 28)).alloc (.cells #[.int .i64 0, .int .i64 0, .bool false, .string ⟨#[]⟩, .string ⟨#[]⟩] 44) := ⟨_, rfl⟩;have hg0 : Grow w_ w0 := by subst hw0; exact ((Grow.refl w_).alloc _).alloc _
 have hP0 : Blk w0 w_.heap.size 28 (pgCells P iv) := by subst hw0; exact (Blk.new w_ _ _).alloc _
 have hT0 : Blk w0 (w_.heap.size + 1) 44 [.int .i64 0, .int .i64 0, .bool false, .string ⟨#[]⟩, .string ⟨#[]⟩] := by
  have := Blk.new (w_.alloc (.cells (pgCells P iv).toArray 28)) 44 [.int .i64 0, .int .i64 0, .bool false, .string ⟨#[]⟩, .string ⟨#[]⟩];have e : (w_.alloc (.cells (pgCells P iv).toArray 28)).heap.size = w_.heap.size + 1 := by simp
  rw [e] at this;subst hw0; exact this
 obtain ⟨ia, ic, rfl⟩ := items_form hin.1;have hat := at_any P (.slice ia P.items.length ic) slot w0 (hin.fits hg0);obtain ⟨R, hR⟩ : ∃ R, lookS P slot key = R := ⟨_, rfl⟩;have hr : R = if (atS P slot).2 = true /\ (atS P slot).1.key = key then ((atS P slot).1, true) else (noTup, false) := by rw [<- hR]; rfl
 rw [hR];clear hR;obtain ⟨A, hA⟩ : ∃ A, atS P slot = A := ⟨_, rfl⟩;rw [hA] at hat hr;clear hA;obtain ⟨T, b⟩ := A;dsimp only at hat hr;unfold pgV tupV at hat;have HAt := keep hat;have HR := keep hr;have HT0 := keep hT0;have HG0 := keep hg0;unfold pgCells at hw0 hP0;obtain ⟨p0, p1, p2, p3, p4, p5, _⟩ := pgres hP0;clear hP0 hT0 hg0 hin hat hr;unfold pgV;go_enter Tryz.func233, Tryz.ntmps233;go_upto_region 1 with fail;rw [<- hw0];clear hw0;go_wp2_with fail;refine HAt.out.mono ?_;rintro x w1 ⟨rfl, hb1⟩;have HG1 := keep (show Grow w0 w1 from hb1);clear p0 p1 p2 p3 p4 p5 hb1 HAt;go_upto_region 2 with fail;obtain ⟨w2, hw2⟩ : ∃ w2, w2 = w1.alloc (.cells #[.int .i64 T.xmin, .int .i64 T.xmax, .bool T.frozen, .string (str T.key), .string (str T.val)] 44) := ⟨_, rfl⟩;rw [<- hw2];obtain ⟨hB2, hg2⟩ := tu_new w1 w2 [.int .i64 T.xmin, .int .i64 T.xmax, .bool T.frozen, .string (str T.key), .string (str T.val)] hw2;have HG2 := keep (Grow.trans HG1.out hg2);have hT2 := HT0.out.fits HG2.out;obtain ⟨x0, x1, x2, x3, x4⟩ := tures hB2;obtain ⟨d0, d1, d2, d3, d4⟩ := tures hT2;have z0 := hT2.free 0;have z1 := hT2.free 1;have z2 := hT2.free 2;have z3 := hT2.free 3;have z4 := hT2.free 4;have HT2 := keep hT2;have hga := Grow.trans HG0.out HG2.out;clear hw2 hB2 hg2 hT2;cases b with
 | false =>
  have HRR := keep (show R = (noTup, false) by rw [HR.out]; simp);go_wp2_with fail;have Hset := keep (set5 HT2.out (.int .i64 0) (.int .i64 0) (.bool false) (.string ⟨#[]⟩) (.string ⟨#[]⟩));have Hbut := keep (but5 w2 (w_.heap.size + 1) (.int .i64 0) (.int .i64 0) (.bool false) (.string ⟨#[]⟩) (.string ⟨#[]⟩));refine bodyPost_ret (v := .tuple #[tupV noTup, .bool false]) ?_ rfl ⟨by rw [HRR.out], But.below hga Hbut.out (by omega) (hga).size⟩;obtain ⟨s0, s1, s2, s3, s4⟩ := tures Hset.out;clear z0 z1 z2 z3 z4 d0 d1 d2 d3 d4 x0 x1 x2 x3 x4;simp [results, Tryz.results233, go_sem, s0, s1, s2, s3, s4, tupV, noTup]
  try rfl
 | true =>
  by_cases hk : T.key = key
  ·have HRR := keep (show R = (T, true) by rw [HR.out, if_pos ⟨rfl, hk⟩]);have hk2 : (str T.key).toList = (str key).toList := by rw [hk]
   have HK := keep hk;clear hk;have hk3 : ((str T.key).toList == (str key).toList) = true := by rw [hk2]; simp
   clear hk2;go_wp2_with fail;have Hset := keep (set5 HT2.out (.int .i64 T.xmin) (.int .i64 T.xmax) (.bool T.frozen) (.string (str T.key)) (.string (str T.val)));have Hbut := keep (but5 w2 (w_.heap.size + 1) (.int .i64 T.xmin) (.int .i64 T.xmax) (.bool T.frozen) (.string (str T.key)) (.string (str T.val)));refine bodyPost_ret (v := .tuple #[tupV T, .bool true]) ?_ rfl ⟨by rw [HRR.out], But.below hga Hbut.out (by omega) (hga).size⟩;obtain ⟨s0, s1, s2, s3, s4⟩ := tures Hset.out;clear z0 z1 z2 z3 z4 d0 d1 d2 d3 d4 x0 x1 x2 x3 x4;simp [results, Tryz.results233, go_sem, s0, s1, s2, s3, s4, tupV]
   try rfl
  ·have HRR := keep (show R = (noTup, false) by rw [HR.out, if_neg (fun h => hk h.2)]);have hk3 : ((str T.key).toList == (str key).toList) = false := by
    rw [str_list, str_list]
    simpa using hk
   clear hk;go_wp2_with fail;have Hset := keep (set5 HT2.out (.int .i64 0) (.int .i64 0) (.bool false) (.string ⟨#[]⟩) (.string ⟨#[]⟩));have Hbut := keep (but5 w2 (w_.heap.size + 1) (.int .i64 0) (.int .i64 0) (.bool false) (.string ⟨#[]⟩) (.string ⟨#[]⟩));refine bodyPost_ret (v := .tuple #[tupV noTup, .bool false]) ?_ rfl ⟨by rw [HRR.out], But.below hga Hbut.out (by omega) (hga).size⟩;obtain ⟨s0, s1, s2, s3, s4⟩ := tures Hset.out;clear z0 z1 z2 z3 z4 d0 d1 d2 d3 d4 x0 x1 x2 x3 x4;simp [results, Tryz.results233, go_sem, s0, s1, s2, s3, s4, tupV, noTup]
   try rfl
def rwC (r : Rw) : List Value := [.string (str r.1), .string (str r.2)]
def rwCells (l : List Rw) : List Value := l.flatMap rwC
@[simp] theorem rwCells_length (l : List Rw) : (rwCells l).length = 2 * l.length := by
 induction l with
 | nil => rfl
 | cons x r ih => rw [show rwCells (x :: r) = rwC x ++ rwCells r from rfl, List.length_append, ih, List.length_cons, show (rwC x).length = 2 from rfl]; omega
theorem rwCells_append (a b : List Rw) : rwCells (a ++ b) = rwCells a ++ rwCells b := by simp [rwCells]
def OwnR (N : Nat) (w : World) (v : Value) (l : List Rw) : Prop := w.ownsRow N 46 2 v l.length (rwCells l)
def RowsW (w : World) (v : Value) (l : List Rw) : Prop := Row w 46 v l.length (rwCells l)
def plCells (S : Pl) (pv rv ov lv : Value) : List Value :=
 [.int .u8 S.call, .string (str S.key), .string (str S.upk), .string (str S.val), .int .i64 S.n, .int .i64 S.own,
  .int .i64 S.wk, .string (str S.wkey), .int .i64 S.wsz, .int .i64 S.wpg, pv, .int .i64 S.re, .bool S.rf, .string (str S.rv), rv, ov,
  .int .i64 S.seen, lv, .int .i64 S.right, .bool S.hit, .string (str S.one.1), .int .i64 S.one.2.1, .int .i64 S.one.2.2,
  .int .i64 S.level, .string (str S.ent.1), .int .i64 S.ent.2.1, .int .i64 S.ent.2.2, .string (str S.item)]
structure Sel (bs pb : Nat) (w w' : World) : Prop where
 os : w'.os = w.os
 tape : w'.tape = w.tape
 output : w'.output = w.output
 size : w.heap.size <= w'.heap.size
 low : ∀ k, k < bs -> k ≠ pb -> w'.heap[k]? = w.heap[k]?
 typ : ∀ (c : Nat) (blk : Array Value) (t : Nat) (f : Nat × Nat), w.heap[c]? = some (.cells blk t f) -> t ≠ 111 -> t ≠ 46 -> w'.heap[c]? = some (.cells blk t f)
 plans : ∀ (c : Nat) (blk : Array Value) (f : Nat × Nat), w.heap[c]? = some (.cells blk 111 f) -> c ≠ pb -> w'.heap[c]? = some (.cells blk 111 f)
theorem Sel.refl (bs pb : Nat) (w : World) : Sel bs pb w w := ⟨rfl, rfl, rfl, Nat.le_refl _, fun _ _ _ => rfl, fun _ _ _ _ h _ _ => h, fun _ _ _ h _ => h⟩
theorem Sel.trans {bs pb : Nat} {u v w : World} (h : Sel bs pb u v) (k : Sel bs pb v w) : Sel bs pb u w :=
 ⟨k.os.trans h.os, k.tape.trans h.tape, k.output.trans h.output, Nat.le_trans h.size k.size, fun i hi hn => (k.low i hi hn).trans (h.low i hi hn), fun c blk t f hc h1 h2 => k.typ c blk t f (h.typ c blk t f hc h1 h2) h1 h2, fun c blk f hc hn => k.plans c blk f (h.plans c blk f hc hn) hn⟩
theorem Sel.of_grow {bs pb : Nat} {w w' : World} (hb : bs <= w.heap.size) (g : Grow w w') : Sel bs pb w w' :=
 ⟨g.os, g.tape, g.output, g.size, fun k hk _ => g.block k (by omega), fun c blk t f hc _ _ => by rw [g.block c (lt_of_block hc)]; exact hc, fun c blk f hc _ => by rw [g.block c (lt_of_block hc)]; exact hc⟩
theorem Sel.but {bs pb b t : Nat} {w w' : World} {cs : List Value} (k : But b w w') (hB : Blk w b t cs) (ht : (t = 111 /\ b = pb) \/ (t = 46 /\ bs <= b)) (h2 : bs <= w.heap.size) : Sel bs pb w w' := by
 refine ⟨k.os, k.tape, k.output, k.size, fun i hi hn => k.block i (by omega) ?_, fun c blk t' f hc n1 n2 => ?_, fun c blk f hc hn => ?_⟩
 ·rcases ht with ⟨_, rfl⟩ | ⟨_, h⟩
  ·exact hn
  ·omega
 ·rw [k.block c (lt_of_block hc) ?_]
  ·exact hc
  ·rintro rfl;unfold Blk at hB;rw [hB] at hc;simp at hc;rcases ht with ⟨rfl, _⟩ | ⟨rfl, _⟩
   ·exact n1 hc.2.1.symm
   ·exact n2 hc.2.1.symm
 ·rw [k.block c (lt_of_block hc) ?_]
  ·exact hc
  ·rintro rfl;unfold Blk at hB;rw [hB] at hc;simp at hc;rcases ht with ⟨rfl, rfl⟩ | ⟨rfl, _⟩
   ·exact hn rfl
   ·exact absurd hc.2.1 (by decide)
end Go.Proofs.YtcdapdcablnhpaaGreat
