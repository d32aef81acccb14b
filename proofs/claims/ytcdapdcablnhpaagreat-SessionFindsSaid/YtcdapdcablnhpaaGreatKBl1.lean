import Derived.Test.YtcdapdcablnhpaaGreatKLexn
import Derived.Test.YtcdapdcablnhpaaGreatKRu3
import Derived.Test.YtcdapdcablnhpaaGreatKCg2
import Derived.Test.YtcdapdcablnhpaaGreatKRk4
import Derived.Test.YtcdapdcablnhpaaGreatKHl1
import Derived.Test.YtcdapdcablnhpaaGreatKRk2
import Derived.Deep.CutRange
namespace Go.Proofs.YtcdapdcablnhpaaGreat
open Go.RowKit
attribute [local go_sem] givesV lookV knAt hgs
def entL (P : Pg) : List En := if entriesOk P then ensN P else []
def entC (P : Pg) : Int := if entriesOk P then 0 else 140
theorem ent_uni {P : Pg} {w w' : World} {x : Ending} (h : EntPost P w x w') : ∃ a c, x = .returned (.tuple #[.slice a (entL P).length c, .int .i64 (entC P)]) /\ EnsS w' (.slice a (entL P).length c) (entL P) /\ Below w.heap.size w w' := by
 unfold EntPost at h;unfold entL entC;obtain ⟨h1, h2⟩ := h;cases hE : entriesOk P with
 | false =>
  rw [hE, if_neg (by decide)] at h1;exact ⟨none, 0, h1, .inl ⟨rfl, rfl, _, _, rfl⟩, h2⟩
 | true =>
  rw [hE, if_pos rfl] at h1;obtain ⟨a, c, h3, h4⟩ := h1;exact ⟨a, c, h3, h4, h2⟩
theorem entL_len (P : Pg) : (entL P).length <= 255 := by
 unfold entL
 split
 ·rename_i h
  unfold entriesOk at h;rw [Bool.and_eq_true] at h;rw [ensN_length];exact (open_fine h.1).1
 ·simp
end Go.Proofs.YtcdapdcablnhpaaGreat
namespace Go.Proofs.YtcdapdcablnhpaaGreat
open Go.RowKit
attribute [local go_sem] hgs
def wayN (P : Pg) (lv : Int) (e : En) : Int × Bool × Int :=
 if openOk P && (decide (0 <= lv) && decide (lv <= P.level)) then (if (beyondN P e).1 then (P.right, false, 0) else if P.level = lv then (0, true, 0) else ((childN P e).1, false, (childN P e).2)) else (0, false, 140)
def WayPost (P : Pg) (lv : Int) (e : En) (w : World) (x : Ending) (w' : World) : Prop := x = .returned (.tuple #[.int .i64 (wayN P lv e).1, .bool (wayN P lv e).2.1, .int .i64 (wayN P lv e).2.2]) /\ Below w.heap.size w w'
theorem pe_new (P : Pg) (iv : Value) (k : List UInt8) (p s : Int) (w_ w0 : World) (h : w0 = (w_.alloc (.cells (pgCells P iv).toArray 28)).alloc (.cells #[.string (str k), .int .i64 p, .int .i64 s] 103)) :
  Grow w_ w0 /\ Blk w0 w_.heap.size 28 (pgCells P iv) /\ Blk w0 (w_.heap.size + 1) 103 [.string (str k), .int .i64 p, .int .i64 s] := by
 refine ⟨?_, ?_, ?_⟩
 ·subst h; exact ((Grow.refl w_).alloc _).alloc _
 ·have := (Blk.new w_ 28 (pgCells P iv)).alloc (.cells #[.string (str k), .int .i64 p, .int .i64 s] 103);subst h; exact this
 ·have := Blk.new (w_.alloc (.cells (pgCells P iv).toArray 28)) 103 [.string (str k), .int .i64 p, .int .i64 s];have e : (w_.alloc (.cells (pgCells P iv).toArray 28)).heap.size = w_.heap.size + 1 := by simp
  rw [e] at this;subst h; exact this
theorem way_no {P : Pg} {lv : Int} {e : En} {w w' : World} {x : Ending} (h : openOk P = false \/ lv < 0 \/ P.level < lv) (hx : x = .returned (.tuple #[.int .i64 0, .bool false, .int .i64 140])) (hb : Below w.heap.size w w') : WayPost P lv e w x w' := by
 refine ⟨?_, hb⟩;rw [hx];have : (openOk P && (decide (0 <= lv) && decide (lv <= P.level))) = false := by
  rcases h with h | h | h
  ·rw [h]; rfl
  ·rw [decide_eq_false (by omega), Bool.false_and, Bool.and_false]
  ·rw [decide_eq_false (show ¬ lv <= P.level by omega), Bool.and_false, Bool.and_false]
 simp [wayN, this]
theorem way_yes {P : Pg} {lv : Int} {e : En} (h : openOk P = true) (h0 : ¬ lv < 0) (h1 : ¬ P.level < lv) : wayN P lv e = if (beyondN P e).1 then (P.right, false, 0) else if P.level = lv then (0, true, 0) else ((childN P e).1, false, (childN P e).2) := by
 unfold wayN;rw [h, decide_eq_true (show 0 <= lv by omega), decide_eq_true (show lv <= P.level by omega)]
 rfl
theorem beyond_code {P : Pg} {e : En} : (beyondN P e).1 = true -> (beyondN P e).2 = 0 := by
 unfold beyondN
 split <;> simp
set_option maxRecDepth 100000 in
set_option maxHeartbeats 4000000 in
theorem way_any (P : Pg) (iv : Value) (lv : Int) (e : En) (w_ : World) (hin : PgIn w_ iv P) :
  Calls Tryz.prog 50 #[pgV P iv, .int .i64 lv, enV e] w_ (WayPost P lv e w_) := by
 obtain ⟨ia, ic, rfl⟩ := items_form hin.1;have hck := fun (u : World) (hu : Grow w_ u) => check_node P (.slice ia P.items.length ic) u (hin.fits hu)
 have hbe := fun (u : World) (hu : Grow w_ u) => beyond_node P (.slice ia P.items.length ic) e u (hin.fits hu)
 have hch := fun (u : World) (hu : Grow w_ u) => child_node P (.slice ia P.items.length ic) e u (hin.fits hu)
 have hbc := beyond_code (P := P) (e := e);have hno := fun (w' : World) (h : openOk P = false \/ lv < 0 \/ P.level < lv) => way_no (e := e) (w := w_) (w' := w') h rfl
 have hyes := fun (h : openOk P = true) (h0 : ¬ lv < 0) (h1 : ¬ P.level < lv) => way_yes (e := e) h h0 h1
 have hpost : ∀ (x : Ending) (w' : World), WayPost P lv e w_ x w' ↔ (x = .returned (.tuple #[.int .i64 (wayN P lv e).1, .bool (wayN P lv e).2.1, .int .i64 (wayN P lv e).2.2]) /\ Below w_.heap.size w_ w') := fun _ _ => Iff.rfl
 obtain ⟨k, p, s⟩ := e;generalize beyondN P (k, p, s) = B at *;generalize childN P (k, p, s) = H at *;generalize wayN P lv (k, p, s) = Y at *;obtain ⟨b1, b2⟩ := B;obtain ⟨h1, h2⟩ := H;obtain ⟨y1, y2, y3⟩ := Y;dsimp only at hbe hch hbc hyes hpost;unfold ChkPost pgV at hck;unfold pgV enV at hbe hch;dsimp only at hbe hch;obtain ⟨w0, hw0⟩ : ∃ w0, w0 = ((w_.alloc (.cells (pgCells P (.slice ia P.items.length ic)).toArray 28)).alloc (.cells #[.string (str k), .int .i64 p, .int .i64 s] 103)) := ⟨_, rfl⟩;obtain ⟨hg0, hP0, hE0⟩ := pe_new P _ k p s w_ w0 hw0;have HCk := keep hck;have HBe := keep hbe;have HCh := keep hch;have HBc := keep hbc;have HNo := keep hno;have HYes := keep hyes;have HPost := keep hpost;have HP0 := keep hP0;have HE0 := keep hE0;have HG0 := keep hg0;clear hck hbe hch hbc hno hyes hpost hin hE0 hg0;unfold pgCells at hw0 hP0;obtain ⟨p0, p1, p2, p3, p4, p5, _⟩ := pgres hP0;clear hP0;unfold pgV enV;go_enter Tryz.func50, Tryz.ntmps50;go_upto_region 1 with fail;rw [<- hw0];clear hw0
 by_cases hl0 : lv < 0
 ·go_wp2_with fail;go_ret3;exact HNo.out w0 (.inr (.inl hl0)) HG0.out
 ·by_cases hl1 : P.level < lv
  ·go_wp2_with fail;go_ret3;exact HNo.out w0 (.inr (.inr hl1)) HG0.out
  ·go_wp2_with fail;refine (HCk.out w0 HG0.out).mono ?_;rintro x w1 ⟨rfl, hb1⟩;have HG1 := keep (Grow.trans HG0.out hb1);have hP1 := HP0.out.fits hb1;have hE1 := HE0.out.fits hb1;clear p0 p1 p2 p3 p4 p5 hb1;cases hO : openOk P with
   | false =>
    simp only [Bool.false_eq_true, if_false];have HO := keep hO;clear hO hP1 hE1;go_wp2_with fail;go_ret3;exact HNo.out w1 (.inl HO.out) HG1.out
   | true =>
    simp only [if_true];have HY := keep (HYes.out hO hl0 hl1);have HP1 := keep hP1;have HE1 := keep hE1;obtain ⟨p0, p1, p2, p3, p4, p5, _⟩ := pgres hP1;obtain ⟨c0, c1, c2, _⟩ := enres hE1;clear hP1 hE1 HYes HNo hO HCk;go_wp2_with fail;refine (HBe.out w1 HG1.out).mono ?_;rintro x w2 ⟨rfl, hb2⟩;have HG2 := keep (Grow.trans HG1.out hb2);have hP2 := HP1.out.fits hb2;have hE2 := HE1.out.fits hb2;clear p0 p1 p2 p3 p4 p5 c0 c1 c2 hb2;obtain ⟨p0, p1, p2, p3, p4, p5, _⟩ := pgres hP2;obtain ⟨c0, c1, c2, _⟩ := enres hE2;clear hP2 hE2;cases b1 with
    | true =>
     have hc : b2 = 0 := HBc.out rfl;subst hc;have hy := HY.out;rw [if_pos rfl] at hy;have HY2 := keep hy;clear hy HY HBc;go_wp2_with fail;go_ret3;refine (HPost.out _ _).2 ⟨?_, HG2.out⟩;have hy := HY2.out;simp only [Prod.mk.injEq] at hy;rw [hy.1, hy.2.1, hy.2.2]
     rfl
    | false =>
     have hy := HY.out;rw [if_neg (by decide)] at hy
     by_cases hlv : P.level = lv
     ·rw [if_pos hlv] at hy;have HY2 := keep hy;clear hy HY HBc
      by_cases hb0 : b2 = 0
      ·go_wp2_with fail;go_ret3;refine (HPost.out _ _).2 ⟨?_, HG2.out⟩;have hy := HY2.out;simp only [Prod.mk.injEq] at hy;rw [hy.1, hy.2.1, hy.2.2]
       rfl
      ·go_wp2_with fail;go_ret3;refine (HPost.out _ _).2 ⟨?_, HG2.out⟩;have hy := HY2.out;simp only [Prod.mk.injEq] at hy;rw [hy.1, hy.2.1, hy.2.2]
       rfl
     ·rw [if_neg hlv] at hy;have HY2 := keep hy;clear hy HY HBc
      by_cases hb0 : b2 = 0
      ·go_wp2_with fail;refine (HCh.out w2 HG2.out).mono ?_;rintro x w3 ⟨rfl, hb3⟩;go_wp2_with fail;go_ret3;refine (HPost.out _ _).2 ⟨?_, Grow.trans HG2.out hb3⟩;have hy := HY2.out;simp only [Prod.mk.injEq] at hy;rw [hy.1, hy.2.1, hy.2.2]
       rfl
      ·go_wp2_with fail;refine (HCh.out w2 HG2.out).mono ?_;rintro x w3 ⟨rfl, hb3⟩;go_wp2_with fail;go_ret3;refine (HPost.out _ _).2 ⟨?_, Grow.trans HG2.out hb3⟩;have hy := HY2.out;simp only [Prod.mk.injEq] at hy;rw [hy.1, hy.2.1, hy.2.2]
       rfl
end Go.Proofs.YtcdapdcablnhpaaGreat
