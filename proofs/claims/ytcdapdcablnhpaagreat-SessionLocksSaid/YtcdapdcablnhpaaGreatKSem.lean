import Derived.Test.YtcdapdcablnhpaaGreatKSe5
import Derived.Test.YtcdapdcablnhpaaGreatKSe2
import Derived.Laws.EntriesVeiled
import Derived.Test.YtcdapdcablnhpaaGreatKBl1
import Derived.Test.YtcdapdcablnhpaaGreatKLexn
import Derived.Test.YtcdapdcablnhpaaGreatKCg2
import Derived.Test.YtcdapdcablnhpaaGreatKLexr
import Derived.Test.YtcdapdcablnhpaaGreatKBe9
import Derived.Laws.OwnMore
import Derived.Deep.CutRange
import Derived.Test.YtcdapdcablnhpaaGreatKCg9
import Derived.BigQuiet
namespace Go.Proofs.YtcdapdcablnhpaaGreat
open Go.RowKit
def stageV (pb st : Nat) : Value := match st with
 | 1 => .func (.func 92) #[.pointer (some ⟨pb, 0, none⟩)] #[]
 | 2 => .func (.func 143) #[.pointer (some ⟨pb, 0, none⟩)] #[]
 | 3 => .func (.func 222) #[.pointer (some ⟨pb, 0, none⟩)] #[]
 | 4 => .func (.func 223) #[.pointer (some ⟨pb, 0, none⟩)] #[]
 | 5 => .func (.func 53) #[.pointer (some ⟨pb, 0, none⟩)] #[]
 | 6 => .func (.func 102) #[.pointer (some ⟨pb, 0, none⟩)] #[]
 | _ => .nilFunc
structure PlR (bs : Nat) (w : World) (S : Pl) (rv ov lv : Value) : Prop where
 rr : RowS w 46 rv S.rr.length (rwCells S.rr)
 rows : OwnR bs w ov S.rows
 left : EnsS w lv S.left /\ Capd lv
 none : S.rows = [] -> ov = .slice none 0 0
structure PlT (bs pb : Nat) (w : World) (S : Pl) : Prop where
 low : bs <= w.heap.size
 tab : ∃ rv ov lv, Blk w pb 111 (plCells S (stageV pb S.st) rv ov lv) /\ PlR bs w S rv ov lv
theorem PlR.fits {bs : Nat} {w w' : World} {S : Pl} {rv ov lv : Value} (h : PlR bs w S rv ov lv) (g : Grow w w') : PlR bs w' S rv ov lv := ⟨RowS.fits h.rr g, owns_fits h.rows g, ⟨RowS.fits h.left.1 g, h.left.2⟩, h.none⟩
theorem PlT.fits {bs pb : Nat} {w w' : World} {S : Pl} (h : PlT bs pb w S) (g : Grow w w') : PlT bs pb w' S := by
 obtain ⟨rv, ov, lv, h1, h2⟩ := h.tab;exact ⟨Nat.le_trans h.low g.size, rv, ov, lv, h1.fits g, h2.fits g⟩
theorem plan_own_ne {w : World} {b e s n c : Nat} {v : Value} {xs cs : List Value} (h : w.ownsRow b e s v n xs) (hb : Blk w c 111 cs) (ht : 111 ≠ e) : v.ownBlock ≠ some c := by
 rcases h.2 with ⟨h0, _⟩ | ⟨g, cap, cur, h0, _, hh, _⟩
 ·rw [h0]; exact fun h => by cases h
 ·rw [h0];intro e;have e9 : g = c := Option.some.inj e;subst e9;unfold Blk at hb;rw [hh] at hb;cases hb
  exact ht rfl
theorem PlR.but {bs pb : Nat} {w w' : World} {S : Pl} {rv ov lv : Value} {cs : List Value} (h : PlR bs w S rv ov lv) (k : But pb w w') (hb : Blk w pb 111 cs) : PlR bs w' S rv ov lv := by
 refine ⟨h.rr.but k ?_, owns_but h.rows k (plan_own_ne h.rows hb (by decide)), ⟨h.left.1.but k ?_, h.left.2⟩, h.none⟩
 ·intro blk f hc;unfold Blk at hb;rw [hb] at hc;simp at hc
 ·intro blk f hc;unfold Blk at hb;rw [hb] at hc;simp at hc
set_option maxRecDepth 100000 in
set_option maxHeartbeats 2000000 in
theorem writes_any (bs pb : Nat) (S : Pl) (w_ : World) (h : PlT bs pb w_ S) :
  Calls Tryz.prog 46 #[.pointer (some ⟨pb, 0, none⟩)] w_ fun x w' => x = .returned (.bool S.writes) /\ Below w_.heap.size w_ w' := by
 obtain ⟨rv, ov, lv, hB, -⟩ := h.tab;have c0 := hB.cell 0 (by simp [plCells]);simp only [plCells, List.getElem_cons_zero] at c0;obtain ⟨R, hR⟩ : ∃ R, S.writes = R := ⟨_, rfl⟩;have hr : R = ((S.call == 3) || (S.call == 4)) := by
  rw [<- hR];unfold Pl.writes;rw [Bool.eq_iff_iff];simp
 rw [hR];have HR := keep hr;clear hR hr hB h;go_enter Tryz.func46, Tryz.ntmps46;cases h3 : (S.call == 3) with
 | true =>
  go_wp2_with fail;go_ret;exact ⟨by rw [HR.out, h3]; rfl, Below.refl _ _⟩
 | false =>
  go_wp2_with fail;go_ret;exact ⟨by rw [HR.out, h3]; rfl, Below.refl _ _⟩
def PlPost (bs pb : Nat) (S : Pl) (w : World) (x : Ending) (w' : World) : Prop := x = .returned (.tuple #[]) /\ PlT bs pb w' S /\ Sel bs pb w w'
set_option maxRecDepth 100000 in
set_option maxHeartbeats 2000000 in
theorem see_any (bs pb : Nat) (S : Pl) (p : Int) (st : Nat) (w_ : World) (h : PlT bs pb w_ S) :
  Calls Tryz.prog 52 #[.pointer (some ⟨pb, 0, none⟩), .int .i64 p, stageV pb st] w_ (PlPost bs pb (S.see p st) w_) := by
 obtain ⟨rv, ov, lv, hB, hP⟩ := h.tab;have HB := keep hB;have HP := keep hP;have HL := keep h.low;have c6 := hB.cell 6 (by simp [plCells]);have c7 := hB.cell 7 (by simp [plCells]);have c8 := hB.cell 8 (by simp [plCells]);have c9 := hB.cell 9 (by simp [plCells]);have c10 := hB.cell 10 (by simp [plCells]);simp only [plCells, List.getElem_cons_zero, List.getElem_cons_succ] at c6 c7 c8 c9 c10;have z6 := hB.free 6;have z7 := hB.free 7;have z8 := hB.free 8;have z9 := hB.free 9;have z10 := hB.free 10;obtain ⟨sv, hsv⟩ : ∃ sv, stageV pb st = sv := ⟨_, rfl⟩;have hfin : ∀ w', w' = ((((w_.setCell ⟨pb, 6, none⟩ (.int .i64 3)).setCell ⟨pb, 7, none⟩ (.string ⟨#[]⟩)).setCell ⟨pb, 8, none⟩ (.int .i64 0)).setCell ⟨pb, 9, none⟩ (.int .i64 p)).setCell ⟨pb, 10, none⟩ sv -> PlPost bs pb (S.see p st) w_ (.returned (.tuple #[])) w' := by
  rintro w' rfl;have k := (((((But.refl pb w_).setCell 6 (.int .i64 3)).setCell 7 (.string ⟨#[]⟩)).setCell 8 (.int .i64 0)).setCell 9 (.int .i64 p)).setCell 10 sv;have hB' := ((((hB.set 6 (.int .i64 3)).set 7 (.string ⟨#[]⟩)).set 8 (.int .i64 0)).set 9 (.int .i64 p)).set 10 sv;refine ⟨rfl, ⟨Nat.le_trans h.low k.size, rv, ov, lv, ?_, ?_⟩, Sel.but k hB (.inl ⟨rfl, rfl⟩) h.low⟩
  ·rw [show (S.see p st).st = st from rfl, hsv];exact hB'
  ·have h2 := hP.but k hB;exact ⟨h2.rr, h2.rows, h2.left, h2.none⟩
 rw [hsv];have HFin := keep hfin;have hsv2 : sv = .nilFunc \/ ∃ f, sv = .func (.func f) #[.pointer (some ⟨pb, 0, none⟩)] #[] := by
  rw [<- hsv];unfold stageV
  split
  all_goals first | exact .inl rfl | exact .inr ⟨_, rfl⟩
 clear hB hP h hsv hfin;rcases hsv2 with rfl | ⟨f, rfl⟩
 ·go_enter Tryz.func52, Tryz.ntmps52;go_wp2_with fail;refine bodyPost_ret (v := .tuple #[]) ?_ rfl (HFin.out _ rfl);simp [results, Tryz.results52, go_sem]
 ·go_enter Tryz.func52, Tryz.ntmps52;go_wp2_with fail;refine bodyPost_ret (v := .tuple #[]) ?_ rfl (HFin.out _ rfl);simp [results, Tryz.results52, go_sem]
def rpV (e : Int) (f : Bool) (v : List UInt8) (rv : Value) : Value := .agg #[.int .i64 e, .bool f, .string (str v), rv]
set_option maxRecDepth 100000 in
set_option maxHeartbeats 4000000 in
theorem end_any (bs pb : Nat) (S : Pl) (e : Int) (f : Bool) (v : List UInt8) (rw' : Value) (rs : List Rw) (w_ : World) (h : PlT bs pb w_ S) (hr : RowS w_ 46 rw' rs.length (rwCells rs)) :
  Calls Tryz.prog 54 #[.pointer (some ⟨pb, 0, none⟩), rpV e f v rw'] w_ (PlPost bs pb (S.fin e f v rs) w_) := by
 obtain ⟨ra, rn, rc, hrv⟩ : ∃ a n c, rw' = .slice a n c := by
  rcases hr with ⟨_, _, a, c, e⟩ | ⟨c, off, cap, blk, f, e, _⟩
  ·exact ⟨a, 0, c, e⟩
  ·exact ⟨_, _, _, e⟩
 obtain ⟨w0, hw0⟩ : ∃ w0, w0 = w_.alloc (.cells #[.int .i64 e, .bool f, .string (str v), rw'] 56) := ⟨_, rfl⟩;have hg0 : Grow w_ w0 := by subst hw0; exact (Grow.refl w_).alloc _
 have hR0 : Blk w0 w_.heap.size 56 [.int .i64 e, .bool f, .string (str v), rw'] := by subst hw0; exact Blk.new w_ _ [_, _, _, _]
 have h0 := h.fits hg0;obtain ⟨rv, ov, lv, hB, hP⟩ := h0.tab;have r0 := hR0.cell 0 (by simp);have r1 := hR0.cell 1 (by simp);have r2 := hR0.cell 2 (by simp);have r3 := hR0.cell 3 (by simp);simp only [List.getElem_cons_zero, List.getElem_cons_succ] at r0 r1 r2 r3;have c6 := hB.cell 6 (by simp [plCells]);have c7 := hB.cell 7 (by simp [plCells]);have c8 := hB.cell 8 (by simp [plCells]);have c9 := hB.cell 9 (by simp [plCells]);have c10 := hB.cell 10 (by simp [plCells]);have c11 := hB.cell 11 (by simp [plCells]);have c12 := hB.cell 12 (by simp [plCells]);have c13 := hB.cell 13 (by simp [plCells]);have c14 := hB.cell 14 (by simp [plCells]);simp only [plCells, List.getElem_cons_zero, List.getElem_cons_succ] at c6 c7 c8 c9 c10 c11 c12 c13 c14;have z6 := hB.free 6;have z7 := hB.free 7;have z8 := hB.free 8;have z9 := hB.free 9;have z10 := hB.free 10;have z11 := hB.free 11;have z12 := hB.free 12;have z13 := hB.free 13;have z14 := hB.free 14;have hlt := hB.lt;have hne : pb ≠ w_.heap.size := by
  rintro rfl;unfold Blk at hB hR0;rw [hB] at hR0;simp at hR0
 have hfin : ∀ w', w' = ((((((((w0.setCell ⟨pb, 6, none⟩ (.int .i64 4)).setCell ⟨pb, 7, none⟩ (.string ⟨#[]⟩)).setCell ⟨pb, 8, none⟩ (.int .i64 0)).setCell ⟨pb, 9, none⟩ (.int .i64 0)).setCell ⟨pb, 10, none⟩ .nilFunc).setCell ⟨pb, 11, none⟩ (.int .i64 e)).setCell ⟨pb, 12, none⟩ (.bool f)).setCell ⟨pb, 13, none⟩ (.string (str v))).setCell ⟨pb, 14, none⟩ rw' -> PlPost bs pb (S.fin e f v rs) w_ (.returned (.tuple #[])) w' := by
  rintro w' rfl;have k := (((((((((But.refl pb w0).setCell 6 (.int .i64 4)).setCell 7 (.string ⟨#[]⟩)).setCell 8 (.int .i64 0)).setCell 9 (.int .i64 0)).setCell 10 .nilFunc).setCell 11 (.int .i64 e)).setCell 12 (.bool f)).setCell 13 (.string (str v))).setCell 14 rw';have hB' := ((((((((hB.set 6 (.int .i64 4)).set 7 (.string ⟨#[]⟩)).set 8 (.int .i64 0)).set 9 (.int .i64 0)).set 10 .nilFunc).set 11 (.int .i64 e)).set 12 (.bool f)).set 13 (.string (str v))).set 14 rw';have h2 := hP.but k hB;refine ⟨rfl, ⟨Nat.le_trans h0.low k.size, rw', ov, lv, hB', ⟨?_, h2.rows, h2.left, h2.none⟩⟩, (Sel.of_grow h.low hg0).trans (Sel.but k hB (.inl ⟨rfl, rfl⟩) h0.low)⟩;refine (hr.fits hg0).but k ?_;intro blk f hc;unfold Blk at hB;rw [hB] at hc;simp at hc
 have HFin := keep hfin;subst hrv;clear hB hP h h0 hfin hr hg0 hR0;unfold rpV;go_enter Tryz.func54, Tryz.ntmps54;go_upto_region 1 with fail;rw [<- hw0];clear hw0;go_wp2_with fail;refine bodyPost_ret (v := .tuple #[]) ?_ rfl (HFin.out _ rfl);simp [results, Tryz.results54, go_sem]
theorem str_nilS : str [] = ⟨#[]⟩ := rfl
theorem rows_nilS (w : World) : RowS w 46 (.slice none 0 0) ([] : List Rw).length (rwCells []) := RowS.nil _ _ _ _
set_option maxRecDepth 100000 in
set_option maxHeartbeats 2000000 in
theorem odd_any (bs pb : Nat) (S : Pl) (w_ : World) (h : PlT bs pb w_ S) :
  Calls Tryz.prog 100 #[.pointer (some ⟨pb, 0, none⟩)] w_ (PlPost bs pb S.odd w_) := by
 have he := end_any bs pb S 60 false [] (.slice none 0 0) [] w_ h (rows_nilS _);unfold rpV at he;rw [str_nilS] at he;have HE := keep he;clear he h;unfold Pl.odd;unfold PlPost at HE;go_enter Tryz.func100, Tryz.ntmps100;go_wp2_with fail;refine HE.out.mono ?_;rintro x w1 ⟨rfl, h1, h2⟩;go_wp2_with fail;refine bodyPost_ret (v := .tuple #[]) ?_ rfl (show PlPost _ _ _ _ _ _ from ⟨rfl, h1, h2⟩);simp [results, Tryz.results100, go_sem]
set_option maxRecDepth 100000 in
set_option maxHeartbeats 2000000 in
theorem down_any (bs pb : Nat) (S : Pl) (st : Nat) (w_ : World) (h : PlT bs pb w_ S) :
  Calls Tryz.prog 91 #[.pointer (some ⟨pb, 0, none⟩), stageV pb st] w_ (PlPost bs pb (S.down st) w_) := by
 obtain ⟨rv, ov, lv, hB, hP⟩ := h.tab;have c16 := hB.cell 16 (by simp [plCells]);simp only [plCells, List.getElem_cons_zero, List.getElem_cons_succ] at c16;have z16 := hB.free 16;obtain ⟨w1, hw1⟩ : ∃ w1, w1 = w_.setCell ⟨pb, 16, none⟩ (.int .i64 0) := ⟨_, rfl⟩;have hT : PlT bs pb w1 { S with seen := 0 } /\ Sel bs pb w_ w1 := by
  have k := (But.refl pb w_).setCell 16 (.int .i64 0);have hB' := hB.set 16 (.int .i64 0);have h2 := hP.but k hB;subst hw1;exact ⟨⟨Nat.le_trans h.low k.size, rv, ov, lv, hB', ⟨h2.rr, h2.rows, h2.left, h2.none⟩⟩, Sel.but k hB (.inl ⟨rfl, rfl⟩) h.low⟩
 have hse := see_any bs pb { S with seen := 0 } 1 st w1 hT.1;have HSl := keep hT.2;unfold PlPost at hse;unfold Pl.down;obtain ⟨sv, hsv⟩ : ∃ sv, stageV pb st = sv := ⟨_, rfl⟩;have hsv2 : sv = .nilFunc \/ ∃ f, sv = .func (.func f) #[.pointer (some ⟨pb, 0, none⟩)] #[] := by
  rw [<- hsv];unfold stageV
  split
  all_goals first | exact .inl rfl | exact .inr ⟨_, rfl⟩
 rw [hsv] at hse ⊢;have HSe := keep hse;clear hsv hse hT hB hP h;rcases hsv2 with rfl | ⟨f, rfl⟩
 ·go_enter Tryz.func91, Tryz.ntmps91;go_upto_region 1 with fail;rw [<- hw1];clear hw1;go_wp2_with fail;refine HSe.out.mono ?_;rintro x w2 ⟨rfl, h1, h2⟩;go_wp2_with fail;refine bodyPost_ret (v := .tuple #[]) ?_ rfl (show PlPost _ _ _ _ _ _ from ⟨rfl, h1, HSl.out.trans h2⟩);simp [results, Tryz.results91, go_sem]
 ·go_enter Tryz.func91, Tryz.ntmps91;go_upto_region 1 with fail;rw [<- hw1];clear hw1;go_wp2_with fail;refine HSe.out.mono ?_;rintro x w2 ⟨rfl, h1, h2⟩;go_wp2_with fail;refine bodyPost_ret (v := .tuple #[]) ?_ rfl (show PlPost _ _ _ _ _ _ from ⟨rfl, h1, HSl.out.trans h2⟩);simp [results, Tryz.results91, go_sem]
set_option maxRecDepth 100000 in
set_option maxHeartbeats 2000000 in
theorem pllook_any (bs pb : Nat) (S : Pl) (w_ : World) (h : PlT bs pb w_ S) :
  Calls Tryz.prog 47 #[.pointer (some ⟨pb, 0, none⟩)] w_ (PlPost bs pb S.look w_) := by
 have hmf : ∀ (fn : Fn) (first cap : Array Value) (w : World), (Instr.makeFunc fn first cap).run Tryz.prog w = .ok (.func fn first cap) w := fun _ _ _ _ => rfl
 have hd := down_any bs pb S 1 w_ h;unfold stageV PlPost at hd;have HD := keep hd;clear hd h;unfold Pl.look;go_enter Tryz.func47, Tryz.ntmps47;go_wp2_with fail;refine HD.out.mono ?_;rintro x w1 ⟨rfl, h1, h2⟩;go_wp2_with fail;refine bodyPost_ret (v := .tuple #[]) ?_ rfl (show PlPost _ _ _ _ _ _ from ⟨rfl, h1, h2⟩);simp [results, Tryz.results47, go_sem]
def WyPost (bs pb : Nat) (S : Pl) (b : Bool) (w : World) (x : Ending) (w' : World) : Prop := x = .returned (.bool b) /\ PlT bs pb w' S /\ Sel bs pb w w'
set_option maxRecDepth 100000 in
set_option maxHeartbeats 4000000 in
theorem plway_any (bs pb : Nat) (S : Pl) (P : Pg) (iv : Value) (level : Int) (e : En) (w_ : World) (h : PlT bs pb w_ S) (hin : PgIn w_ iv P) (hs : 0 <= S.seen /\ S.seen <= 4096) :
  Calls Tryz.prog 142 #[.pointer (some ⟨pb, 0, none⟩), pgV P iv, .int .i64 level, enV e] w_ (WyPost bs pb (S.way P level e).1 (S.way P level e).2 w_) := by
 obtain ⟨ia, ic, rfl⟩ := items_form hin.1;have hw := fun (u : World) (hu : Grow w_ u) => way_any P _ level e u (hin.fits hu)
 obtain ⟨R, hR⟩ : ∃ R, S.way P level e = R := ⟨_, rfl⟩;have hr : R = if (wayN P level e).2.2 ≠ 0 \/ ((wayN P level e).2.1 = false /\ 4096 <= S.seen + 1) then ({ S with seen := S.seen + 1 }.odd, false)
   else if (wayN P level e).2.1 = false then ({ S with seen := S.seen + 1, wpg := (wayN P level e).1 }, false) else ({ S with seen := S.seen + 1 }, true) := by rw [<- hR]; rfl
 rw [hR];clear hR;unfold WayPost at hw;generalize wayN P level e = Y at *;obtain ⟨y1, y2, y3⟩ := Y;obtain ⟨k, p, s⟩ := e;obtain ⟨R1, R2⟩ := R;dsimp only at hw hr ⊢;obtain ⟨w0, hw0⟩ : ∃ w0, w0 = (w_.alloc (.cells (pgCells P (.slice ia P.items.length ic)).toArray 28)).alloc (.cells #[.string (str k), .int .i64 p, .int .i64 s] 103) := ⟨_, rfl⟩;obtain ⟨hg0, hP0, hE0⟩ := pe_new P _ k p s w_ w0 hw0;unfold pgV enV at hw;dsimp only at hw;have HW := keep hw;have HR := keep hr;have HG0 := keep hg0;have HT := keep h;have hsw : IntKind.i64.wrap (S.seen + 1) = S.seen + 1 := by rw [IntKind.wrap_i64]; omega
 have hsw2 : wrap64 (S.seen + 1) = S.seen + 1 := by unfold wrap64; omega
 clear hw hr hg0 hin h;unfold pgCells at hw0 hP0;obtain ⟨p0, p1, p2, p3, p4, p5, _⟩ := pgres hP0;obtain ⟨e0, e1, e2, _⟩ := enres hE0;clear hP0 hE0;unfold pgV enV;go_enter Tryz.func142, Tryz.ntmps142;go_upto_region 1 with fail;rw [<- hw0];clear hw0;go_wp2_with fail;refine (HW.out w0 HG0.out).mono ?_;rintro x w1 ⟨rfl, hb1⟩;have HG1 := keep (Grow.trans HG0.out hb1);have hT1 := HT.out.fits HG1.out;obtain ⟨rv, ov, lv, hB, hP⟩ := hT1.tab;have c16 := hB.cell 16 (by simp [plCells]);simp only [plCells, List.getElem_cons_zero, List.getElem_cons_succ] at c16;have z16 := hB.free 16;clear p0 p1 p2 p3 p4 p5 e0 e1 e2 hb1 HW;go_upto_region 3 with fail;obtain ⟨w2, hw2⟩ : ∃ w2, w2 = w1.setCell ⟨pb, 16, none⟩ (.int .i64 (S.seen + 1)) := ⟨_, rfl⟩;rw [<- hw2];have hT2 : PlT bs pb w2 { S with seen := S.seen + 1 } /\ Sel bs pb w1 w2 := by
  have kk := (But.refl pb w1).setCell 16 (.int .i64 (S.seen + 1));have hB' := hB.set 16 (.int .i64 (S.seen + 1));have h2 := hP.but kk hB;subst hw2;exact ⟨⟨Nat.le_trans hT1.low kk.size, rv, ov, lv, hB', ⟨h2.rr, h2.rows, h2.left, h2.none⟩⟩, Sel.but kk hB (.inl ⟨rfl, rfl⟩) hT1.low⟩
 have hB2 := hB.set 16 (.int .i64 (S.seen + 1));have hB3 : Blk w2 pb 111 (plCells { S with seen := S.seen + 1 } (stageV pb S.st) rv ov lv) := by subst hw2; exact hB2
 have hP2 : PlR bs w2 { S with seen := S.seen + 1 } rv ov lv := by
  have kk := (But.refl pb w1).setCell 16 (.int .i64 (S.seen + 1));have h2 := hP.but kk hB;subst hw2;exact ⟨h2.rr, h2.rows, h2.left, h2.none⟩
 have c16 := hB3.cell 16 (by simp [plCells]);have c9 := hB3.cell 9 (by simp [plCells]);simp only [plCells, List.getElem_cons_zero, List.getElem_cons_succ] at c16 c9;have z9 := hB3.free 9;have hod := odd_any bs pb { S with seen := S.seen + 1 } w2 hT2.1;unfold PlPost at hod;have HOd := keep hod;have HT2 := keep hT2.1;have HSl := keep ((Sel.of_grow HT.out.low HG1.out).trans hT2.2);have HB3 := keep hB3;have HP2 := keep hP2;clear hw2 hB2 hB3 hP2 hT2 hod hB hP hT1 z16 hsw hsw2 hs
 by_cases h3 : y3 = 0
 ·have e3 : (y3 != 0) = false := by simp [h3]
  cases y2 with
  | true =>
   have HRR := keep (show R1 = { S with seen := S.seen + 1 } /\ R2 = true by
    have := HR.out;rw [if_neg (by simp [h3]), if_neg (by simp)] at this
    exact Prod.mk.inj this)
   clear h3;obtain ⟨r2, hr2⟩ := HRR.out;subst hr2;go_wp2_with fail;go_ret;exact (show WyPost _ _ _ _ _ _ _ from ⟨rfl, HT2.out, HSl.out⟩)
  | false =>
   by_cases hg : 4096 <= S.seen + 1
   ·have eG : decide (4096 <= S.seen + 1) = true := decide_eq_true hg
    have HRR := keep (show R1 = { S with seen := S.seen + 1 }.odd /\ R2 = false by
     have := HR.out;rw [if_pos (.inr ⟨rfl, hg⟩)] at this
     exact Prod.mk.inj this)
    clear h3 hg;obtain ⟨r2, hr2⟩ := HRR.out;subst hr2;go_wp2_with fail;refine HOd.out.mono ?_;rintro x w3 ⟨rfl, h1, h2⟩;go_wp2_with fail;go_ret;exact (show WyPost _ _ _ _ _ _ _ from ⟨rfl, by rw [HRR.out.1]; exact h1, (HSl.out.trans h2)⟩)
   ·have eG : decide (4096 <= S.seen + 1) = false := decide_eq_false hg
    have HRR := keep (show R1 = { S with seen := S.seen + 1, wpg := y1 } /\ R2 = false by
     have := HR.out;rw [if_neg (by simp [h3, hg]), if_pos rfl] at this
     exact Prod.mk.inj this)
    clear h3 hg;obtain ⟨r2, hr2⟩ := HRR.out;subst hr2;go_wp2_with fail;go_ret;have kk := (But.refl pb w2).setCell 9 (.int .i64 y1);have hB4 := HB3.out.set 9 (.int .i64 y1);have h4 := HP2.out.but kk HB3.out;exact (show WyPost _ _ _ _ _ _ _ from ⟨rfl, ⟨Nat.le_trans HT2.out.low kk.size, rv, ov, lv, hB4, ⟨h4.rr, h4.rows, h4.left, h4.none⟩⟩, HSl.out.trans (Sel.but kk HB3.out (.inl ⟨rfl, rfl⟩) HT2.out.low)⟩)
 ·have e3 : (y3 != 0) = true := by simpa using h3
  have HRR := keep (show R1 = { S with seen := S.seen + 1 }.odd /\ R2 = false by
   have := HR.out;rw [if_pos (.inl h3)] at this
   exact Prod.mk.inj this)
  clear h3;obtain ⟨r2, hr2⟩ := HRR.out;subst hr2;go_wp2_with fail;refine HOd.out.mono ?_;rintro x w3 ⟨rfl, h1, h2⟩;go_wp2_with fail;go_ret;exact (show WyPost _ _ _ _ _ _ _ from ⟨rfl, by rw [HRR.out.1]; exact h1, (HSl.out.trans h2)⟩)
attribute [local go_sem] givesV lookV knAt hgs
set_option maxRecDepth 100000 in
set_option maxHeartbeats 2000000 in
theorem version_any (bs pb : Nat) (S : Pl) (w_ : World) (h : PlT bs pb w_ S) :
  Calls Tryz.prog 98 #[.pointer (some ⟨pb, 0, none⟩)] w_ fun x w' => x = .returned (.agg #[.int .i64 S.own, .int .i64 0, .bool false, .string (str S.key), .string (str S.val)]) /\ Below w_.heap.size w_ w' := by
 obtain ⟨rv, ov, lv, hB, -⟩ := h.tab;obtain ⟨w0, hw0⟩ : ∃ w0, w0 = w_.alloc (.cells #[.int .i64 0, .int .i64 0, .bool false, .string ⟨#[]⟩, .string ⟨#[]⟩] 44) := ⟨_, rfl⟩;obtain ⟨hT0, hg0⟩ := tu_new w_ w0 [.int .i64 0, .int .i64 0, .bool false, .string ⟨#[]⟩, .string ⟨#[]⟩] hw0;have HG0 := keep hg0;have HT0 := keep hT0
 have HX := keep (fun (u : World) (hu : Grow w0 u) => (show u.cell? ⟨pb, 5, none⟩ = some (.int .i64 S.own) /\ u.cell? ⟨pb, 1, none⟩ = some (.string (str S.key)) /\ u.cell? ⟨pb, 3, none⟩ = some (.string (str S.val)) from
  ⟨(hB.fits (Grow.trans hg0 hu)).cell 5 (by simp [plCells]), (hB.fits (Grow.trans hg0 hu)).cell 1 (by simp [plCells]), (hB.fits (Grow.trans hg0 hu)).cell 3 (by simp [plCells])⟩))
 clear hB h hg0 hT0;go_enter Tryz.func98, Tryz.ntmps98;go_upto_region 1 with fail;rw [<- hw0];clear hw0;refine rgv 15 (by kernel_rfl) (by kernel_rfl) rfl rfl ?_;intro a0 ha0;have hsz : a0.tmps.size = 18 := (size_at ha0).trans rfl;have s0 := slot_at ha0 0 rfl;have HA0 := keep ha0;clear ha0
 iterate 3
  apply lxv hsz Grow.refl (by kernel_rfl) rfl
  ·intro xs w hw K hK;go_simp;exact hK
 apply lxv hsz Grow.refl (by kernel_rfl) rfl
 ·intro xs w hw K hK;obtain ⟨v0, -⟩ := HX.out w (Grow.undrew hw);go_simp;exact hK
 iterate 4
  apply lxv hsz Grow.refl (by kernel_rfl) rfl
  ·intro xs w hw K hK;go_simp;exact hK
 apply lxv hsz Grow.refl (by kernel_rfl) rfl
 ·intro xs w hw K hK;obtain ⟨-, v1, -⟩ := HX.out w (Grow.undrew hw);go_simp;exact hK
 iterate 4
  apply lxv hsz Grow.refl (by kernel_rfl) rfl
  ·intro xs w hw K hK;go_simp;exact hK
 apply lxv hsz Grow.refl (by kernel_rfl) rfl
 ·intro xs w hw K hK;obtain ⟨-, -, v2⟩ := HX.out w (Grow.undrew hw);go_simp;exact hK
 apply lxv hsz Grow.refl (by kernel_rfl) rfl
 ·intro xs w hw K hK;go_simp;exact hK
 refine rgd [] (by kernel_rfl) rfl ?_;intro xs w hw hp;have ha0 := HA0.out;clear HA0 hsz s0;clear hp;subst ha0;simp only [putV];have hg := hw.undrew;have hga := Grow.trans HG0.out hg;have hT2 := HT0.out.fits hg;obtain ⟨d0, d1, d2, d3, d4⟩ := tures hT2;have z0 := hT2.free 0;have z1 := hT2.free 1;have z2 := hT2.free 2;have z3 := hT2.free 3;have z4 := hT2.free 4;have HT2 := keep hT2;clear hw hT2;go_frame;go_wp2_with fail;have Hset := keep (set5 HT2.out (.int .i64 S.own) (.int .i64 0) (.bool false) (.string (str S.key)) (.string (str S.val)));have Hbut := keep (but5 w w_.heap.size (.int .i64 S.own) (.int .i64 0) (.bool false) (.string (str S.key)) (.string (str S.val)));refine bodyPost_ret (v := .agg #[.int .i64 S.own, .int .i64 0, .bool false, .string (str S.key), .string (str S.val)]) ?_ rfl ⟨rfl, But.below hga Hbut.out (Nat.le_refl _) hga.size⟩;obtain ⟨s0, s1, s2, s3, s4⟩ := tures Hset.out;clear z0 z1 z2 z3 z4 d0 d1 d2 d3 d4;simp [results, Tryz.results98, go_sem, s0, s1, s2, s3, s4]
end Go.Proofs.YtcdapdcablnhpaaGreat
namespace Go.Proofs.YtcdapdcablnhpaaGreat
open Go.RowKit
def Pl.bytes (S : Pl) : List UInt8 := if tupOk S.own 0 (str S.key) (str S.val) then tupS S.own.toNat 0 false S.key S.val else []
theorem encode_pl (S : Pl) (w : World) : Calls Tryz.prog 41 #[.agg #[.int .i64 S.own, .int .i64 0, .bool false, .string (str S.key), .string (str S.val)]] w fun e w' => (∃ c : Int, e = .returned (.tuple #[.string (str S.bytes), .int .i64 c])) /\ Below w.heap.size w w' := by
 unfold Pl.bytes;cases h : tupOk S.own 0 (str S.key) (str S.val) with
 | false =>
  refine (enc_bad S.own 0 false (str S.key) (str S.val) w h).mono ?_;rintro e w' ⟨rfl, hb⟩;exact ⟨⟨_, rfl⟩, hb⟩
 | true =>
  have hn : S.own = ((S.own.toNat : Nat) : Int) := by
   unfold tupOk at h;simp at h;omega
  rw [if_pos rfl];have h2 := enc_no S.own.toNat 0 (str S.key) (str S.val) w (by rw [<- hn]; exact h);rw [<- hn] at h2;refine h2.mono ?_;rintro e w' ⟨rfl, hb⟩;exact ⟨⟨_, rfl⟩, hb⟩
theorem write_yes {S : Pl} (h : S.call = 4) : S.write = S.fin 0 S.hit [] [] := by unfold Pl.write; rw [if_pos h]
theorem write_no {S : Pl} (h : S.call ≠ 4) : S.write = { S with st := 0, wk := 2, wkey := [], wsz := S.bytes.length, wpg := 0 } := by
 unfold Pl.write Pl.bytes;rw [if_neg h]
 split <;> rfl
set_option maxRecDepth 100000 in
set_option maxHeartbeats 4000000 in
theorem plwrite_any (bs pb : Nat) (S : Pl) (w_ : World) (h : PlT bs pb w_ S) :
  Calls Tryz.prog 99 #[.pointer (some ⟨pb, 0, none⟩)] w_ (PlPost bs pb S.write w_) := by
 have hT := keep h;obtain ⟨rv, ov, lv, hB, -⟩ := h.tab;have c0 := hB.cell 0 (by simp [plCells]);have c19 := hB.cell 19 (by simp [plCells]);simp only [plCells, List.getElem_cons_zero, List.getElem_cons_succ] at c0 c19
 by_cases h4 : S.call = 4
 ·rw [write_yes h4];have e4 : (S.call == 4) = true := by simpa using h4
  have he := end_any bs pb S 0 S.hit [] (.slice none 0 0) [] w_ h (rows_nilS _);unfold rpV at he;rw [str_nilS] at he;have HE := keep he;clear he h hB h4;unfold PlPost at HE;go_enter Tryz.func99, Tryz.ntmps99;go_wp2_with fail;refine HE.out.mono ?_;rintro x w1 ⟨rfl, h1, h2⟩;go_wp2_with fail;refine bodyPost_ret (v := .tuple #[]) ?_ rfl (show PlPost _ _ _ _ _ _ from ⟨rfl, h1, h2⟩);simp [results, Tryz.results99, go_sem]
 ·rw [write_no h4];have e4 : (S.call == 4) = false := by simpa using h4
  have HV := keep (version_any bs pb S w_ h);have HEn := keep (fun u => encode_pl S u);have hsl : (S.bytes.length : Int) <= 4611686018427387904 -> True := fun _ => trivial
  generalize hby : S.bytes = by' at *
  clear h hB h4 hsl hby;go_enter Tryz.func99, Tryz.ntmps99;go_wp2_with fail;refine HV.out.mono ?_;rintro x w1 ⟨rfl, hb1⟩;clear c0 c19 HV;have HG1 := keep hb1;clear hb1;go_wp2_with fail;refine (HEn.out w1).mono ?_;rintro x w2 ⟨⟨cd, rfl⟩, hb2⟩;have HG2 := keep (Grow.trans HG1.out hb2);clear hb2 HEn;have hT2 := hT.out.fits HG2.out;obtain ⟨rv, ov, lv, hB, hP⟩ := hT2.tab;have c6 := hB.cell 6 (by simp [plCells]);have c7 := hB.cell 7 (by simp [plCells]);have c8 := hB.cell 8 (by simp [plCells]);have c9 := hB.cell 9 (by simp [plCells]);have c10 := hB.cell 10 (by simp [plCells]);simp only [plCells, List.getElem_cons_zero, List.getElem_cons_succ] at c6 c7 c8 c9 c10;have z6 := hB.free 6;have z7 := hB.free 7;have z8 := hB.free 8;have z9 := hB.free 9;have z10 := hB.free 10;have hfin : ∀ w', w' = ((((w2.setCell ⟨pb, 10, none⟩ .nilFunc).setCell ⟨pb, 6, none⟩ (.int .i64 2)).setCell ⟨pb, 7, none⟩ (.string ⟨#[]⟩)).setCell ⟨pb, 8, none⟩ (.int .i64 (by'.length : Int))).setCell ⟨pb, 9, none⟩ (.int .i64 0) -> PlPost bs pb { S with st := 0, wk := 2, wkey := [], wsz := by'.length, wpg := 0 } w_ (.returned (.tuple #[])) w' := by
   rintro w' rfl;have k := (((((But.refl pb w2).setCell 10 .nilFunc).setCell 6 (.int .i64 2)).setCell 7 (.string ⟨#[]⟩)).setCell 8 (.int .i64 (by'.length : Int))).setCell 9 (.int .i64 0);have hB' := ((((hB.set 10 .nilFunc).set 6 (.int .i64 2)).set 7 (.string ⟨#[]⟩)).set 8 (.int .i64 (by'.length : Int))).set 9 (.int .i64 0);have h2 := hP.but k hB;exact ⟨rfl, ⟨Nat.le_trans hT2.low k.size, rv, ov, lv, hB', ⟨h2.rr, h2.rows, h2.left, h2.none⟩⟩, (Sel.of_grow hT.out.low HG2.out).trans (Sel.but k hB (.inl ⟨rfl, rfl⟩) hT2.low)⟩
  have HFin := keep hfin;clear hfin hB hP hT2;go_wp2_with fail;refine bodyPost_ret (v := .tuple #[]) ?_ rfl (HFin.out _ rfl);simp [results, Tryz.results99, go_sem]
theorem next_left {S : Pl} (h : 0 < S.left.length) : S.next = S.see S.left[0].2.1 3 := by
 unfold Pl.next
 split
 ·rename_i e l he
  simp [he]
 ·rename_i he
  rw [he] at h;simp at h
theorem next_none {S : Pl} (h : ¬ 0 < S.left.length) : S.next = if S.right ≠ 0 then S.see S.right 2 else if S.writes = false then S.fin 0 false [] S.rows else if S.hit then S.see S.one.2.1 4 else S.write := by
 have he : S.left = [] := List.eq_nil_of_length_eq_zero (by omega);unfold Pl.next;rw [he]
set_option maxRecDepth 100000 in
set_option maxHeartbeats 4000000 in
theorem plnext_any (bs pb : Nat) (S : Pl) (w_ : World) (h : PlT bs pb w_ S) :
  Calls Tryz.prog 198 #[.pointer (some ⟨pb, 0, none⟩)] w_ (PlPost bs pb S.next w_) := by
 have hmf : ∀ (fn : Fn) (first cap : Array Value) (w : World), (Instr.makeFunc fn first cap).run Tryz.prog w = .ok (.func fn first cap) w := fun _ _ _ _ => rfl
 have HT := keep h;obtain ⟨rv, ov, lv, hB, hP⟩ := h.tab;have c5 := hB.cell 15 (by simp [plCells]);have c17 := hB.cell 17 (by simp [plCells]);have c18 := hB.cell 18 (by simp [plCells]);have c19 := hB.cell 19 (by simp [plCells]);have c21 := hB.cell 21 (by simp [plCells]);simp only [plCells, List.getElem_cons_zero, List.getElem_cons_succ] at c5 c17 c18 c19 c21;obtain ⟨la, lc, hlv⟩ := en_form hP.left.1.weak
 by_cases hl : 0 < S.left.length
 ·rw [next_left hl];obtain ⟨c1, off1, cap1, e1, hc1⟩ := en_at hP.left.1.weak hl;have q := (hc1 w_ (Grow.refl _)).2.1;rw [Nat.zero_mul, Nat.add_zero] at q;have hs := see_any bs pb S S.left[0].2.1 3 w_ h;unfold stageV PlPost at hs;have HS := keep hs;rw [e1] at c17;have hlp : decide (0 < S.left.length) = true := decide_eq_true hl;clear hs h hB hP hlv c5 c18 c19 c21 hc1 e1;go_enter Tryz.func198, Tryz.ntmps198;go_wp2_with fail;refine HS.out.mono ?_;rintro x w1 ⟨rfl, h1, h2⟩;go_wp2_with fail;refine bodyPost_ret (v := .tuple #[]) ?_ rfl (show PlPost _ _ _ _ _ _ from ⟨rfl, h1, h2⟩);simp [results, Tryz.results198, go_sem]
 ·rw [next_none hl];have hlp : decide (0 < S.left.length) = false := decide_eq_false hl;rw [hlv] at c17
  by_cases hr : S.right = 0
  ·have er : (S.right != 0) = false := by simp [hr]
   rw [if_neg (fun h => h hr)];obtain ⟨R, hR⟩ : ∃ R, (if S.writes = false then S.fin 0 false [] S.rows else if S.hit then S.see S.one.2.1 4 else S.write) = R := ⟨_, rfl⟩;rw [hR];have HRR := keep hR;clear hR;have HW := keep (writes_any bs pb S w_ h);have he := fun (u : World) (hu : Grow w_ u) (o : Value) (ho : OwnR bs u o S.rows) => end_any bs pb S 0 false [] o S.rows u (h.fits hu) (own_rowO ho)
   have hs := fun (u : World) (hu : Grow w_ u) => see_any bs pb S S.one.2.1 4 u (h.fits hu)
   have HWr := keep (fun (u : World) (hu : Grow w_ u) => plwrite_any bs pb S u (h.fits hu));unfold stageV PlPost at hs;unfold rpV PlPost at he;simp only [str_nilS] at he;have HE := keep he;have HS := keep hs;obtain ⟨oa, on, oc, hov⟩ : ∃ a n c, ov = .slice a n c := by
    obtain ⟨a, c, e⟩ := own_form hP.rows;exact ⟨_, _, _, e⟩
   subst hov;have HB := keep hB;have HO := keep hP.rows;generalize S.writes = W at *;clear he hs h hB hP hlv hr hl;go_enter Tryz.func198, Tryz.ntmps198;go_wp2_with fail;refine HW.out.mono ?_;rintro x w1 ⟨rfl, hb1⟩;have HG := keep (show Grow w_ w1 from hb1);have HSl := keep (Sel.of_grow (pb := pb) HT.out.low hb1);clear c5 c17 c18 c19 c21 hb1 HW;have hB1 := HB.out.fits HG.out;have c15 := hB1.cell 15 (by simp [plCells]);have c19 := hB1.cell 19 (by simp [plCells]);have c21 := hB1.cell 21 (by simp [plCells]);simp only [plCells, List.getElem_cons_zero, List.getElem_cons_succ] at c15 c19 c21;clear hB1;cases W with
   | false =>
    have HR2 := keep (show S.fin 0 false [] S.rows = R by have h := HRR.out; rw [if_pos rfl] at h; exact h);go_wp2_with fail;refine (HE.out w1 HG.out _ (owns_fits HO.out HG.out)).mono ?_;rintro x w2 ⟨rfl, h1, h2⟩;go_wp2_with fail;refine bodyPost_ret (v := .tuple #[]) ?_ rfl (show PlPost _ _ _ _ _ _ from ⟨rfl, by rw [<- HR2.out]; exact h1, HSl.out.trans h2⟩);simp [results, Tryz.results198, go_sem]
   | true =>
    cases hh : S.hit with
    | true =>
     rw [hh] at c19;have HR2 := keep (show S.see S.one.2.1 4 = R by have h := HRR.out; rw [if_neg (by simp), if_pos hh] at h; exact h);clear hh;go_wp2_with fail;refine (HS.out w1 HG.out).mono ?_;rintro x w2 ⟨rfl, h1, h2⟩;go_wp2_with fail;refine bodyPost_ret (v := .tuple #[]) ?_ rfl (show PlPost _ _ _ _ _ _ from ⟨rfl, by rw [<- HR2.out]; exact h1, HSl.out.trans h2⟩);simp [results, Tryz.results198, go_sem]
    | false =>
     rw [hh] at c19;have HR2 := keep (show S.write = R by have h := HRR.out; rw [if_neg (by simp), if_neg (by rw [hh]; simp)] at h; exact h);clear hh;go_wp2_with fail;refine (HWr.out w1 HG.out).mono ?_;rintro x w2 ⟨rfl, h1, h2⟩;go_wp2_with fail;refine bodyPost_ret (v := .tuple #[]) ?_ rfl (show PlPost _ _ _ _ _ _ from ⟨rfl, by rw [<- HR2.out]; exact h1, HSl.out.trans h2⟩);simp [results, Tryz.results198, go_sem]
  ·have er : (S.right != 0) = true := by simpa using hr
   rw [if_pos hr];have hs := see_any bs pb S S.right 2 w_ h;unfold stageV PlPost at hs;have HS := keep hs;clear hs h hB hP hlv c5 c19 c21 hl hr;go_enter Tryz.func198, Tryz.ntmps198;go_wp2_with fail;refine HS.out.mono ?_;rintro x w1 ⟨rfl, h1, h2⟩;go_wp2_with fail;refine bodyPost_ret (v := .tuple #[]) ?_ rfl (show PlPost _ _ _ _ _ _ from ⟨rfl, h1, h2⟩);simp [results, Tryz.results198, go_sem]
def Pl.fail (S : Pl) (e : Int) : Pl := if S.wk = 4 then S else S.fin e false [] []
def Pl.space (S : Pl) (p : Int) : Pl := if S.wk = 2 then S.see p 5 else S
set_option maxRecDepth 100000 in
set_option maxHeartbeats 2000000 in
theorem plfail_any (bs pb : Nat) (S : Pl) (e : Int) (w_ : World) (h : PlT bs pb w_ S) :
  Calls Tryz.prog 24 #[.pointer (some ⟨pb, 0, none⟩), .int .i64 e] w_ (PlPost bs pb (S.fail e) w_) := by
 obtain ⟨rv, ov, lv, hB, -⟩ := h.tab;have c6 := hB.cell 6 (by simp [plCells]);simp only [plCells, List.getElem_cons_zero, List.getElem_cons_succ] at c6;have he := end_any bs pb S e false [] (.slice none 0 0) [] w_ h (rows_nilS _);unfold rpV PlPost at he;rw [str_nilS] at he
 by_cases h4 : S.wk = 4
 ·rw [show S.fail e = S by unfold Pl.fail; rw [if_pos h4]];have e4 : (S.wk != 4) = false := by simp [h4]
  have hT := keep h;clear he h hB h4;go_enter Tryz.func24, Tryz.ntmps24;go_wp2_with fail;refine bodyPost_ret (v := .tuple #[]) ?_ rfl (show PlPost _ _ _ _ _ _ from ⟨rfl, hT.out, Sel.refl _ _ _⟩);simp [results, Tryz.results24, go_sem]
 ·rw [show S.fail e = S.fin e false [] [] by unfold Pl.fail; rw [if_neg h4]];have e4 : (S.wk != 4) = true := by simpa using h4
  have HE := keep he;clear he h hB h4;go_enter Tryz.func24, Tryz.ntmps24;go_wp2_with fail;refine HE.out.mono ?_;rintro x w1 ⟨rfl, h1, h2⟩;go_wp2_with fail;refine bodyPost_ret (v := .tuple #[]) ?_ rfl (show PlPost _ _ _ _ _ _ from ⟨rfl, h1, h2⟩);simp [results, Tryz.results24, go_sem]
set_option maxRecDepth 100000 in
set_option maxHeartbeats 2000000 in
theorem plspace_any (bs pb : Nat) (S : Pl) (p : Int) (w_ : World) (h : PlT bs pb w_ S) :
  Calls Tryz.prog 21 #[.pointer (some ⟨pb, 0, none⟩), .int .i64 p] w_ (PlPost bs pb (S.space p) w_) := by
 have hmf : ∀ (fn : Fn) (first cap : Array Value) (w : World), (Instr.makeFunc fn first cap).run Tryz.prog w = .ok (.func fn first cap) w := fun _ _ _ _ => rfl
 obtain ⟨rv, ov, lv, hB, -⟩ := h.tab;have c6 := hB.cell 6 (by simp [plCells]);simp only [plCells, List.getElem_cons_zero, List.getElem_cons_succ] at c6;have hs := see_any bs pb S p 5 w_ h;unfold stageV PlPost at hs
 by_cases h4 : S.wk = 2
 ·rw [show S.space p = S.see p 5 by unfold Pl.space; rw [if_pos h4]];have e4 : (S.wk == 2) = true := by simpa using h4
  have HS := keep hs;clear hs h hB h4;go_enter Tryz.func21, Tryz.ntmps21;go_wp2_with fail;refine HS.out.mono ?_;rintro x w1 ⟨rfl, h1, h2⟩;go_wp2_with fail;refine bodyPost_ret (v := .tuple #[]) ?_ rfl (show PlPost _ _ _ _ _ _ from ⟨rfl, h1, h2⟩);simp [results, Tryz.results21, go_sem]
 ·rw [show S.space p = S by unfold Pl.space; rw [if_neg h4]];have e4 : (S.wk == 2) = false := by simpa using h4
  have hT := keep h;clear hs h hB h4;go_enter Tryz.func21, Tryz.ntmps21;go_wp2_with fail;refine bodyPost_ret (v := .tuple #[]) ?_ rfl (show PlPost _ _ _ _ _ _ from ⟨rfl, hT.out, Sel.refl _ _ _⟩);simp [results, Tryz.results21, go_sem]
def Pl.lock (S : Pl) (got : Bool) (e : Int) : Pl := if S.wk ≠ 1 then S else if e ≠ 0 then S.fin e false [] [] else if got then S.look else S
set_option maxRecDepth 100000 in
set_option maxHeartbeats 2000000 in
theorem pllock_any (bs pb : Nat) (S : Pl) (got : Bool) (e : Int) (w_ : World) (h : PlT bs pb w_ S) :
  Calls Tryz.prog 22 #[.pointer (some ⟨pb, 0, none⟩), .bool got, .int .i64 e] w_ (PlPost bs pb (S.lock got e) w_) := by
 obtain ⟨rv, ov, lv, hB, -⟩ := h.tab;have c6 := hB.cell 6 (by simp [plCells]);simp only [plCells, List.getElem_cons_zero, List.getElem_cons_succ] at c6;have he := end_any bs pb S e false [] (.slice none 0 0) [] w_ h (rows_nilS _);unfold rpV PlPost at he;rw [str_nilS] at he;have hk := pllook_any bs pb S w_ h;unfold PlPost at hk;have hT := keep h;have HE := keep he;have HK := keep hk;clear he hk h hB
 by_cases h1 : S.wk = 1
 ·have e1 : (S.wk != 1) = false := by simp [h1]
  by_cases h2 : e = 0
  ·have e2 : (e != 0) = false := by simp [h2]
   cases got with
   | true =>
    rw [show S.lock true e = S.look by unfold Pl.lock; rw [if_neg (fun h => h h1), if_neg (fun h => h h2), if_pos rfl]];clear h1 h2;go_enter Tryz.func22, Tryz.ntmps22;go_wp2_with fail;refine HK.out.mono ?_;rintro x w1 ⟨rfl, h1, h2⟩;go_wp2_with fail;refine bodyPost_ret (v := .tuple #[]) ?_ rfl (show PlPost _ _ _ _ _ _ from ⟨rfl, h1, h2⟩);simp [results, Tryz.results22, go_sem]
   | false =>
    rw [show S.lock false e = S by unfold Pl.lock; rw [if_neg (fun h => h h1), if_neg (fun h => h h2), if_neg (by simp)]];clear h1 h2;go_enter Tryz.func22, Tryz.ntmps22;go_wp2_with fail;refine bodyPost_ret (v := .tuple #[]) ?_ rfl (show PlPost _ _ _ _ _ _ from ⟨rfl, hT.out, Sel.refl _ _ _⟩);simp [results, Tryz.results22, go_sem]
  ·have e2 : (e != 0) = true := by simpa using h2
   rw [show S.lock got e = S.fin e false [] [] by unfold Pl.lock; rw [if_neg (fun h => h h1), if_pos h2]];clear h1 h2;go_enter Tryz.func22, Tryz.ntmps22;go_wp2_with fail;refine HE.out.mono ?_;rintro x w1 ⟨rfl, h1, h2⟩;go_wp2_with fail;refine bodyPost_ret (v := .tuple #[]) ?_ rfl (show PlPost _ _ _ _ _ _ from ⟨rfl, h1, h2⟩);simp [results, Tryz.results22, go_sem]
 ·have e1 : (S.wk != 1) = true := by simpa using h1
  rw [show S.lock got e = S by unfold Pl.lock; rw [if_pos h1]];clear h1;go_enter Tryz.func22, Tryz.ntmps22;go_wp2_with fail;refine bodyPost_ret (v := .tuple #[]) ?_ rfl (show PlPost _ _ _ _ _ _ from ⟨rfl, hT.out, Sel.refl _ _ _⟩);simp [results, Tryz.results22, go_sem]
def wtV (k : Int) (key : List UInt8) (s p : Int) : Value := .agg #[.int .i64 k, .string (str key), .int .i64 s, .int .i64 p]
set_option maxRecDepth 100000 in
set_option maxHeartbeats 2000000 in
theorem plwant_any (bs pb : Nat) (S : Pl) (w_ : World) (h : PlT bs pb w_ S) :
  Calls Tryz.prog 18 #[.pointer (some ⟨pb, 0, none⟩)] w_ fun x w' => x = .returned (wtV S.wk S.wkey S.wsz S.wpg) /\ Below w_.heap.size w_ w' := by
 obtain ⟨w0, hw0⟩ : ∃ w0, w0 = w_.alloc (.cells #[.int .i64 0, .string ⟨#[]⟩, .int .i64 0, .int .i64 0] 61) := ⟨_, rfl⟩;have hg0 : Grow w_ w0 := by subst hw0; exact (Grow.refl w_).alloc _
 have hT0 : Blk w0 w_.heap.size 61 [.int .i64 0, .string ⟨#[]⟩, .int .i64 0, .int .i64 0] := by subst hw0; exact Blk.new w_ _ [_, _, _, _]
 obtain ⟨rv, ov, lv, hB, -⟩ := (h.fits hg0).tab;have c6 := hB.cell 6 (by simp [plCells]);have c7 := hB.cell 7 (by simp [plCells]);have c8 := hB.cell 8 (by simp [plCells]);have c9 := hB.cell 9 (by simp [plCells]);simp only [plCells, List.getElem_cons_zero, List.getElem_cons_succ] at c6 c7 c8 c9;have d0 := hT0.cell 0 (by simp);have d1 := hT0.cell 1 (by simp);have d2 := hT0.cell 2 (by simp);have d3 := hT0.cell 3 (by simp);simp only [List.getElem_cons_zero, List.getElem_cons_succ] at d0 d1 d2 d3;have z0 := hT0.free 0;have z1 := hT0.free 1;have z2 := hT0.free 2;have z3 := hT0.free 3;have HG0 := keep hg0;have HT0 := keep hT0;clear hB hg0 hT0 h;go_enter Tryz.func18, Tryz.ntmps18;go_upto_region 1 with fail;rw [<- hw0];clear hw0;go_wp2_with fail;have Hset := keep ((((HT0.out.set 0 (.int .i64 S.wk)).set 1 (.string (str S.wkey))).set 2 (.int .i64 S.wsz)).set 3 (.int .i64 S.wpg));have Hbut := keep (((((But.refl w_.heap.size w0).setCell 0 (.int .i64 S.wk)).setCell 1 (.string (str S.wkey))).setCell 2 (.int .i64 S.wsz)).setCell 3 (.int .i64 S.wpg));refine bodyPost_ret (v := wtV S.wk S.wkey S.wsz S.wpg) ?_ rfl ⟨rfl, But.below HG0.out Hbut.out (Nat.le_refl _) HG0.out.size⟩;have s0 := Hset.out.cell 0 (by simp);have s1 := Hset.out.cell 1 (by simp);have s2 := Hset.out.cell 2 (by simp);have s3 := Hset.out.cell 3 (by simp);simp only [List.set_cons_zero, List.set_cons_succ, List.getElem_cons_zero, List.getElem_cons_succ] at s0 s1 s2 s3;clear z0 z1 z2 z3 d0 d1 d2 d3 c6 c7 c8 c9
 simp [results, Tryz.results18, go_sem, s0, s1, s2, s3, wtV]
def rdC (R : Rcd) (iv : Value) : List Value := [.int .i64 0, .int .i64 0, .int .i64 0, .int .u8 R.kind, .int .i64 R.xid, .int .i64 R.page, .int .i64 R.slot, .int .i64 R.old, .int .i64 R.new, .int .i64 0, .string (str R.data), .slice none 0 0, .slice none 0 0, iv, .slice none 0 0, .slice none 0 0]
def rdV (R : Rcd) (iv : Value) : Value := .agg #[.int .i64 0, .int .i64 0, .int .i64 0, .int .u8 R.kind, .int .i64 R.xid, .int .i64 R.page, .int .i64 R.slot, .int .i64 R.old, .int .i64 R.new, .int .i64 0, .string (str R.data), .slice none 0 0, .slice none 0 0, iv, .slice none 0 0, .slice none 0 0]
def zC : List Value := [.int .i64 0, .int .i64 0, .int .i64 0, .int .u8 0, .int .i64 0, .int .i64 0, .int .i64 0, .int .i64 0, .int .i64 0, .int .i64 0, .string ⟨#[]⟩, .slice none 0 0, .slice none 0 0, .slice none 0 0, .slice none 0 0, .slice none 0 0]
def StPost (bs pb : Nat) (S : Pl) (R : Rcd) (b : Bool) (w : World) (x : Ending) (w' : World) : Prop :=
 ∃ iv T, x = .returned (.tuple #[rdV R iv, .bool b]) /\ T.map dropV = R.imgs /\ ImgsC w' iv T /\ (T = [] -> iv = .slice none 0 0) /\ PlT bs pb w' S /\ Sel bs pb w w'
theorem Blk.sel {bs pb : Nat} {w w' : World} {b t : Nat} {cs : List Value} (h : Blk w b t cs) (k : Sel bs pb w w') (h1 : t ≠ 111) (h2 : t ≠ 46) : Blk w' b t cs := k.typ _ _ _ _ h h1 h2
theorem own_ne_typ {w : World} {b e s n c t : Nat} {v : Value} {xs cs : List Value} (h : w.ownsRow b e s v n xs) (hb : Blk w c t cs) (ht : t ≠ e) : v.ownBlock ≠ some c := by
 rcases h.2 with ⟨h0, _⟩ | ⟨g, cap, cur, h0, _, hh, _⟩
 ·rw [h0]; exact fun h => by cases h
 ·rw [h0];intro e;have e9 : g = c := Option.some.inj e;subst e9;unfold Blk at hb;rw [hh] at hb;cases hb
  exact ht rfl
theorem rowS_typ {w w' : World} {b t e n : Nat} {v : Value} {xs cs : List Value} (h : RowS w e v n xs) (k : But b w w') (hb : Blk w b t cs) (ht : t ≠ e) : RowS w' e v n xs := by
 refine h.but k ?_;intro blk f hc;unfold Blk at hb;rw [hb] at hc;simp at hc;exact ht hc.2.1
theorem PlT.other {bs pb b t : Nat} {w w' : World} {S : Pl} {cs : List Value} (h : PlT bs pb w S) (k : But b w w') (hb : Blk w b t cs) (h1 : t ≠ 111) (h2 : t ≠ 46) (h3 : t ≠ 103) : PlT bs pb w' S := by
 obtain ⟨rv, ov, lv, hB, hP⟩ := h.tab;have hne : pb ≠ b := by
  rintro rfl;unfold Blk at hB hb;rw [hB] at hb;simp at hb;exact h1 hb.2.symm
 exact ⟨Nat.le_trans h.low k.size, rv, ov, lv, hB.but k hne, rowS_typ hP.rr k hb h2, owns_but hP.rows k (own_ne_typ hP.rows hb h2), ⟨rowS_typ hP.left.1 k hb h3, hP.left.2⟩, hP.none⟩
theorem Sel.other {bs pb b : Nat} {w w1 w' : World} (h : Sel bs pb w w1) (k : But b w1 w') (hb : w.heap.size <= b) (hl : bs <= w.heap.size) : Sel bs pb w w' :=
 ⟨k.os.trans h.os, k.tape.trans h.tape, k.output.trans h.output, Nat.le_trans h.size k.size, fun i hi hn => (k.block i (by have := h.size; omega) (by omega)).trans (h.low i hi hn),
  fun c blk t f hc n1 n2 => by
   have hlt := lt_of_block hc;rw [k.block c (by have := h.size; omega) (by omega)];exact h.typ c blk t f hc n1 n2,
  fun c blk f hc hn => by
   have hlt := lt_of_block hc;rw [k.block c (by have := h.size; omega) (by omega)]
   exact h.plans c blk f hc hn⟩
theorem st_zero {bs pb b : Nat} {S : Pl} {w w3 w4 : World} {cs : List Value} (hT : PlT bs pb w3 S) (hS : Sel bs pb w w3) (k : But b w3 w4) (hb : w.heap.size <= b) (hB : Blk w3 b 71 cs) (hl : bs <= w.heap.size) :
  StPost bs pb S noRd false w (.returned (.tuple #[rdV noRd (.slice none 0 0), .bool false])) w4 :=
 ⟨_, [], rfl, rfl, ImgsC.nil _, fun _ => rfl, hT.other k hB (by decide) (by decide) (by decide), hS.other k hb hl⟩
theorem vpr_new (v : Vw) (av rv iv : Value) (P : Pg) (jv : Value) (w_ w0 : World) (h : w0 = ((w_.alloc (.cells (vwCells v av rv iv).toArray 40)).alloc (.cells (pgCells P jv).toArray 28)).alloc (.cells zC.toArray 71)) :
  Grow w_ w0 /\ Blk w0 w_.heap.size 40 (vwCells v av rv iv) /\ Blk w0 (w_.heap.size + 1) 28 (pgCells P jv) /\ Blk w0 (w_.heap.size + 2) 71 zC := by
 refine ⟨?_, ?_, ?_, ?_⟩
 ·subst h; exact (((Grow.refl w_).alloc _).alloc _).alloc _
 ·have := ((Blk.new w_ 40 (vwCells v av rv iv)).alloc (.cells (pgCells P jv).toArray 28)).alloc (.cells zC.toArray 71);subst h; exact this
 ·have := (Blk.new (w_.alloc (.cells (vwCells v av rv iv).toArray 40)) 28 (pgCells P jv)).alloc (.cells zC.toArray 71);have e : (w_.alloc (.cells (vwCells v av rv iv).toArray 40)).heap.size = w_.heap.size + 1 := by simp
  rw [e] at this;subst h; exact this
 ·have := Blk.new ((w_.alloc (.cells (vwCells v av rv iv).toArray 40)).alloc (.cells (pgCells P jv).toArray 28)) 71 zC;have e : ((w_.alloc (.cells (vwCells v av rv iv).toArray 40)).alloc (.cells (pgCells P jv).toArray 28)).heap.size = w_.heap.size + 2 := by simp
  rw [e] at this;subst h; exact this
theorem upto_cat (k : List UInt8) : str (k ++ [0]) = str k ++ ⟨#[0]⟩ := by
 apply ByteArray.ext;simp [str]
attribute [local go_sem] givesV lookV knAt hgs
theorem gather_res (tm : Array Value) (w : World) (b : Nat) (g : Bool) (R : Rcd) (iv : Value) (h8 : tm.getD 8 undef = .pointer (some ⟨b, 0, none⟩)) (h9 : tm.getD 9 undef = .bool g) (hB : Blk w b 71 (rdC R iv)) :
  (results Tryz.f143 tm).run Tryz.prog w = .ok (.tuple #[rdV R iv, .bool g]) w := by
 unfold rdC at hB;obtain ⟨⟨s0_, s1_, s2_, s3_, s4_, s5_, s6_, s7_, s8_, s9_, s10_, s11_, s12_, s13_, s14_, s15_⟩, _⟩ := recres hB;simp only [Array.getD_eq_getD_getElem?] at h8 h9;simp [results, Tryz.results143, go_sem, h8, h9, s0_, s1_, s2_, s3_, s4_, s5_, s6_, s7_, s8_, s9_, s10_, s11_, s12_, s13_, s14_, s15_, rdV]
set_option maxRecDepth 100000 in
set_option maxHeartbeats 4000000 in
theorem gather_any (bs pb : Nat) (S : Pl) (v : Vw) (av rv iv : Value) (P : Pg) (jv fv : Value) (w_ : World) (h : PlT bs pb w_ S) (hv : VwIn w_ v av rv iv) (hin : PgIn w_ jv P) (hk : S.key.length <= 24) :
  Calls Tryz.prog 143 #[.pointer (some ⟨pb, 0, none⟩), vwV v av rv iv, pgV P jv, fv] w_ (StPost bs pb (S.gather P) noRd false w_) := by
 obtain ⟨w0, hw0⟩ : ∃ w0, w0 = ((w_.alloc (.cells (vwCells v av rv iv).toArray 40)).alloc (.cells (pgCells P jv).toArray 28)).alloc (.cells zC.toArray 71) := ⟨_, rfl⟩;obtain ⟨hg0, hV0, hP0, hR0⟩ := vpr_new v av rv iv P jv w_ w0 hw0;obtain ⟨iva, ivc, rfl⟩ := items_form hv.items;obtain ⟨rva, rvc, rfl, _⟩ := ints_form hv.run;obtain ⟨ava, avc, rfl, _⟩ := ints_form hv.act;obtain ⟨jva, jvc, rfl⟩ := items_form hin.1;have HT := keep h;have HG0 := keep hg0;have HV0 := keep hV0;have HP0 := keep hP0;have HR0 := keep hR0;have HIn := keep hin;have HVw := keep hv;obtain ⟨R, hR⟩ : ∃ R, S.gather P = R := ⟨_, rfl⟩;have hr : R = if entC P ≠ 0 then S.odd else { S with left := hitsL P S.key S.upto, right := if hitsM P S.upto then P.right else 0 }.next := by rw [<- hR]; rfl
 rw [hR];have hHi := fun (u : World) (hu : Grow w_ u) => hits_cap P _ S.key S.upto u (hin.fits hu)
 unfold HitsCap at hHi;have hC := ent_cases P;obtain ⟨up, hup⟩ : ∃ up, S.upto = up := ⟨_, rfl⟩;rw [hup] at hHi hr;obtain ⟨us, hus⟩ : ∃ us, str up = us := ⟨_, rfl⟩;rw [hus] at hHi;generalize hitsL P S.key up = L at *;generalize hitsM P up = M at *;generalize entC P = C at *;unfold pgV at hHi;obtain ⟨rv0, ov0, lv0, hB, -⟩ := (h.fits hg0).tab;have HBx := keep hB;have HHi := keep (fun (u : World) (hu : Grow w0 u) => hHi u (Grow.trans hg0 hu));have HPx := keep (fun (u : World) (hu : Grow w0 u) => pgres (hP0.fits hu));have HCx := keep (fun (u : World) (hu : Grow w0 u) => (hB.fits hu).cell 1 (by simp [plCells]));have HRR := keep hr;have hsc : S.call = 5 /\ us = str S.upk \/ S.call ≠ 5 /\ us = str S.key ++ ⟨#[0]⟩ := by
  rw [<- hus, <- hup];unfold Pl.upto
  by_cases h5 : S.call = 5
  ·exact .inl ⟨h5, by rw [if_neg (fun h => h h5)]⟩
  ·exact .inr ⟨h5, by rw [if_pos h5]; exact upto_cat _⟩
 have HC := keep (show C = 0 \/ C = 140 by rcases hC with ⟨h, _⟩ | ⟨h, _⟩ <;> simp [h]);have c0 := hB.cell 0 (by simp [plCells]);have c1 := hB.cell 1 (by simp [plCells]);have c2 := hB.cell 2 (by simp [plCells]);simp only [plCells, List.getElem_cons_zero, List.getElem_cons_succ] at c0 c1 c2;clear hup hus hR hr hHi hC h hg0 hV0 hP0 hR0 hB hv hin;unfold vwCells pgCells zC at hw0;unfold vwV pgV;go_enter Tryz.func143, Tryz.ntmps143;go_upto_region 1 with fail;rw [<- hw0];clear hw0;rcases hsc with ⟨h5, rfl⟩ | ⟨h5, rfl⟩
 ·have e5 : (S.call != 5) = false := by simp [h5]
  clear h5;go_upto_region 4 with fail;refine rgv 14 (by kernel_rfl) (by kernel_rfl) rfl rfl ?_;intro a0 ha0;have hsz : a0.tmps.size = 64 := (size_at ha0).trans rfl;have s0 := slot_at ha0 0 rfl;have s6 := slot_at ha0 6 rfl;have s10 := slot_at ha0 10 rfl;have HA0 := keep ha0;clear ha0;apply lxv hsz Grow.refl (by kernel_rfl) rfl
  ·intro xs w hw K hK;obtain ⟨p0, p1, p2, p3, p4, p5⟩ := HPx.out w (Grow.undrew hw);go_simp;exact hK
  iterate 4
   apply lxv hsz Grow.refl (by kernel_rfl) rfl
   ·intro xs w hw K hK;go_simp;exact hK
  apply lxv hsz Grow.refl (by kernel_rfl) rfl
  ·intro xs w hw K hK;have c1 := HCx.out w (Grow.undrew hw);go_simp;exact hK
  apply lxv hsz Grow.refl (by kernel_rfl) rfl
  ·intro xs w hw K hK;go_simp;exact hK
  refine lxs hsz (fun x u => ∃ a c, x = .tuple #[.slice a L.length c, .bool M, .int .i64 C] /\ EnsS u (.slice a L.length c) L /\ L.length <= c) (fun _ _ _ g ⟨a, c, h1, h2⟩ => ⟨a, c, h1, RowS.fits h2.1 g, h2.2⟩) [] (by kernel_rfl) rfl ?_ ?_
  ·intro xs w hw hp K hK;go_simp;exact (HHi.out w (Grow.undrew hw)).mono fun e w' h => (h.elim fun a h => h.elim fun c h => ⟨_, h.1, hK _ _ ⟨a, c, rfl, h.2.1⟩ h.2.2⟩)
  refine lxs hsz (fun x u => ∃ a c, x = .tuple #[.slice a L.length c, .bool M, .int .i64 C] /\ EnsS u (.slice a L.length c) L /\ L.length <= c) (fun _ _ _ g ⟨a, c, h1, h2⟩ => ⟨a, c, h1, RowS.fits h2.1 g, h2.2⟩) [(7, true)] (by kernel_rfl) rfl ?_ ?_
  ·intro xs w hw hp K hK;simp only [hzv] at hp;obtain ⟨a8, c8, h8, hes8⟩ := hp;go_simp;exact hK _ _ ⟨a8, c8, rfl, hes8⟩ (Grow.refl _)
  refine lxs hsz (fun x u => ∃ a c, x = .slice a L.length c /\ EnsS u (.slice a L.length c) L /\ L.length <= c) (fun _ _ _ g ⟨a, c, h1, h2⟩ => ⟨a, c, h1, RowS.fits h2.1 g, h2.2⟩) [(8, true)] (by kernel_rfl) rfl ?_ ?_
  ·intro xs w hw hp K hK;simp only [hzv] at hp;obtain ⟨a8, c8, h8, hes8⟩ := hp;go_simp;exact hK _ _ ⟨a8, c8, rfl, hes8⟩ (Grow.refl _)
  apply lxe hsz [(8, true)] (by kernel_rfl) rfl
  ·intro xs w hw hp K hK;simp only [hzv] at hp;obtain ⟨a8, c8, h8, hes8⟩ := hp;go_simp;exact hK _ (Grow.refl _)
  apply lxe hsz [(8, true)] (by kernel_rfl) rfl
  ·intro xs w hw hp K hK;simp only [hzv] at hp;obtain ⟨a8, c8, h8, hes8⟩ := hp;go_simp;exact hK _ (Grow.refl _)
  refine lxs hsz (fun x u => ∃ a c, x = .slice a L.length c /\ EnsS u (.slice a L.length c) L /\ L.length <= c) (fun _ _ _ g ⟨a, c, h1, h2⟩ => ⟨a, c, h1, RowS.fits h2.1 g, h2.2⟩) [(9, true)] (by kernel_rfl) rfl ?_ ?_
  ·intro xs w hw hp K hK;simp only [hzv] at hp;obtain ⟨a8, c8, h8, hes8⟩ := hp;go_simp;exact hK _ _ ⟨a8, c8, rfl, hes8⟩ (Grow.refl _)
  apply lxv hsz Grow.refl (by kernel_rfl) rfl
  ·intro xs w hw K hK;go_simp;exact hK
  refine rgd [(12, true)] (by kernel_rfl) rfl ?_;intro xs w hw hp;have ha0 := HA0.out;clear HA0 hsz s0 s6 s10;simp only [hzv] at hp;have h11 := hp;clear hp;subst ha0;simp only [putV];have hg := Grow.undrew hw;obtain ⟨ea, ec, h11, hes⟩ := h11;have HEs := keep hes;have HG := keep hg;simp only [h11];clear hw h11 hes hg c0 c1 c2;generalize w = w1 at *;have hT1 := HT.out.fits (Grow.trans HG0.out HG.out);have HT1 := keep hT1;obtain ⟨rv1, ov1, lv1, hB, hP⟩ := hT1.tab;have HBy := keep hB;have HPy := keep hP;have c17 := hB.cell 17 (by simp [plCells]);have c18 := hB.cell 18 (by simp [plCells]);simp only [plCells, List.getElem_cons_zero, List.getElem_cons_succ] at c17 c18;have z17 := hB.free 17;have z18 := hB.free 18;clear hT1 hB hP;rcases HC.out with rfl | rfl
  ·obtain ⟨p0, p1, p2, p3, p4, p5, _⟩ := HPx.out w1 HG.out;cases M with
   | true =>
    go_upto_region 11 with fail;obtain ⟨w2, hw2⟩ : ∃ w2, w2 = ((w1.setCell ⟨pb, 17, none⟩ (.slice ea L.length ec)).setCell ⟨pb, 18, none⟩ (.int .i64 0)).setCell ⟨pb, 18, none⟩ (.int .i64 P.right) := ⟨_, rfl⟩;rw [<- hw2];have hT2 : PlT bs pb w2 { S with left := L, right := P.right } /\ Sel bs pb w1 w2 := by
     have kk := (((But.refl pb w1).setCell 17 (.slice ea L.length ec)).setCell 18 (.int .i64 0)).setCell 18 (.int .i64 P.right);have hB' := ((HBy.out.set 17 (.slice ea L.length ec)).set 18 (.int .i64 0)).set 18 (.int .i64 P.right);have h2 := HPy.out.but kk HBy.out;subst hw2;exact ⟨⟨Nat.le_trans HT1.out.low kk.size, rv1, ov1, _, hB', ⟨h2.rr, h2.rows, ⟨rowS_typ HEs.out.1 kk HBy.out (by decide), HEs.out.2⟩, h2.none⟩⟩, Sel.but kk HBy.out (.inl ⟨rfl, rfl⟩) HT1.out.low⟩
    have hnx := plnext_any bs pb { S with left := L, right := P.right } w2 hT2.1;have HR2 := keep (show { S with left := L, right := P.right }.next = R by rw [HRR.out]; rfl);rw [HR2.out] at hnx;unfold PlPost at hnx;have HNx := keep hnx;have HSl2 := keep ((Sel.of_grow HT.out.low (Grow.trans HG0.out HG.out)).trans hT2.2);have HSl3 := keep ((Sel.of_grow (Nat.le_trans HT.out.low HG0.out.size) HG.out).trans hT2.2);clear hnx hT2 hw2 c17 c18 z17 z18 p0 p1 p2 p3 p4 p5;go_wp2_with fail;refine HNx.out.mono ?_;rintro x w3 ⟨rfl, h1, h2⟩;have HT3 := keep h1;have HSl4 := keep (HSl3.out.trans h2);have HSl5 := keep (HSl2.out.trans h2);clear h1 h2 HNx;have HRx := keep (HR0.out.sel HSl4.out (by decide) (by decide));unfold zC at HRx;go_wp2_with ((refine wpList_store_rec rfl _ _ rfl (w_.heap.size + 2) _ rfl rfl HRx.out rfl rfl rfl ?_); intro wz hset hbz; have Hset := keep hset; have Hbut := keep hbz; clear hset hbz);refine bodyPost_ret (v := .tuple #[rdV noRd (.slice none 0 0), .bool false]) ?_ rfl ?_
    ·exact gather_res _ _ _ _ noRd _ rfl rfl Hset.out
    ·exact st_zero HT3.out HSl5.out Hbut.out (by omega) HRx.out HT.out.low
   | false =>
    go_upto_region 11 with fail;obtain ⟨w2, hw2⟩ : ∃ w2, w2 = ((w1.setCell ⟨pb, 17, none⟩ (.slice ea L.length ec)).setCell ⟨pb, 18, none⟩ (.int .i64 0)) := ⟨_, rfl⟩;rw [<- hw2];have hT2 : PlT bs pb w2 { S with left := L, right := 0 } /\ Sel bs pb w1 w2 := by
     have kk := (((But.refl pb w1).setCell 17 (.slice ea L.length ec)).setCell 18 (.int .i64 0));have hB' := ((HBy.out.set 17 (.slice ea L.length ec)).set 18 (.int .i64 0));have h2 := HPy.out.but kk HBy.out;subst hw2;exact ⟨⟨Nat.le_trans HT1.out.low kk.size, rv1, ov1, _, hB', ⟨h2.rr, h2.rows, ⟨rowS_typ HEs.out.1 kk HBy.out (by decide), HEs.out.2⟩, h2.none⟩⟩, Sel.but kk HBy.out (.inl ⟨rfl, rfl⟩) HT1.out.low⟩
    have hnx := plnext_any bs pb { S with left := L, right := 0 } w2 hT2.1;have HR2 := keep (show { S with left := L, right := 0 }.next = R by rw [HRR.out]; rfl);rw [HR2.out] at hnx;unfold PlPost at hnx;have HNx := keep hnx;have HSl2 := keep ((Sel.of_grow HT.out.low (Grow.trans HG0.out HG.out)).trans hT2.2);have HSl3 := keep ((Sel.of_grow (Nat.le_trans HT.out.low HG0.out.size) HG.out).trans hT2.2);clear hnx hT2 hw2 c17 c18 z17 z18 p0 p1 p2 p3 p4 p5;go_wp2_with fail;refine HNx.out.mono ?_;rintro x w3 ⟨rfl, h1, h2⟩;have HT3 := keep h1;have HSl4 := keep (HSl3.out.trans h2);have HSl5 := keep (HSl2.out.trans h2);clear h1 h2 HNx;have HRx := keep (HR0.out.sel HSl4.out (by decide) (by decide));unfold zC at HRx;go_wp2_with ((refine wpList_store_rec rfl _ _ rfl (w_.heap.size + 2) _ rfl rfl HRx.out rfl rfl rfl ?_); intro wz hset hbz; have Hset := keep hset; have Hbut := keep hbz; clear hset hbz);refine bodyPost_ret (v := .tuple #[rdV noRd (.slice none 0 0), .bool false]) ?_ rfl ?_
    ·exact gather_res _ _ _ _ noRd _ rfl rfl Hset.out
    ·exact st_zero HT3.out HSl5.out Hbut.out (by omega) HRx.out HT.out.low
  ·have hod := odd_any bs pb S w1 HT1.out;have HR2 := keep (show S.odd = R by rw [HRR.out]; rfl);rw [HR2.out] at hod;unfold PlPost at hod;have HOd := keep hod;clear hod c17 c18 z17 z18;go_wp2_with fail;refine HOd.out.mono ?_;rintro x w3 ⟨rfl, h1, h2⟩;have HT3 := keep h1;have HSl4 := keep ((Sel.of_grow (Nat.le_trans HT.out.low HG0.out.size) HG.out).trans h2);have HSl5 := keep ((Sel.of_grow HT.out.low (Grow.trans HG0.out HG.out)).trans h2);clear h1 h2 HOd;have HRx := keep (HR0.out.sel HSl4.out (by decide) (by decide));unfold zC at HRx;go_wp2_with ((refine wpList_store_rec rfl _ _ rfl (w_.heap.size + 2) _ rfl rfl HRx.out rfl rfl rfl ?_); intro wz hset hbz; have Hset := keep hset; have Hbut := keep hbz; clear hset hbz);refine bodyPost_ret (v := .tuple #[rdV noRd (.slice none 0 0), .bool false]) ?_ rfl ?_
   ·exact gather_res _ _ _ _ noRd _ rfl rfl Hset.out
   ·exact st_zero HT3.out HSl5.out Hbut.out (by omega) HRx.out HT.out.low
 ·have e5 : (S.call != 5) = true := by simpa using h5
  have hkl : ¬9223372036854775807 < S.key.length + 1 := by omega
  clear h5;go_upto_region 4 with fail;refine rgv 14 (by kernel_rfl) (by kernel_rfl) rfl rfl ?_;intro a0 ha0;have hsz : a0.tmps.size = 64 := (size_at ha0).trans rfl;have s0 := slot_at ha0 0 rfl;have s6 := slot_at ha0 6 rfl;have s10 := slot_at ha0 10 rfl;have HA0 := keep ha0;clear ha0;apply lxv hsz Grow.refl (by kernel_rfl) rfl
  ·intro xs w hw K hK;obtain ⟨p0, p1, p2, p3, p4, p5⟩ := HPx.out w (Grow.undrew hw);go_simp;exact hK
  iterate 4
   apply lxv hsz Grow.refl (by kernel_rfl) rfl
   ·intro xs w hw K hK;go_simp;exact hK
  apply lxv hsz Grow.refl (by kernel_rfl) rfl
  ·intro xs w hw K hK;have c1 := HCx.out w (Grow.undrew hw);go_simp;exact hK
  apply lxv hsz Grow.refl (by kernel_rfl) rfl
  ·intro xs w hw K hK;go_simp;exact hK
  refine lxs hsz (fun x u => ∃ a c, x = .tuple #[.slice a L.length c, .bool M, .int .i64 C] /\ EnsS u (.slice a L.length c) L /\ L.length <= c) (fun _ _ _ g ⟨a, c, h1, h2⟩ => ⟨a, c, h1, RowS.fits h2.1 g, h2.2⟩) [] (by kernel_rfl) rfl ?_ ?_
  ·intro xs w hw hp K hK;go_simp;exact (HHi.out w (Grow.undrew hw)).mono fun e w' h => (h.elim fun a h => h.elim fun c h => ⟨_, h.1, hK _ _ ⟨a, c, rfl, h.2.1⟩ h.2.2⟩)
  refine lxs hsz (fun x u => ∃ a c, x = .tuple #[.slice a L.length c, .bool M, .int .i64 C] /\ EnsS u (.slice a L.length c) L /\ L.length <= c) (fun _ _ _ g ⟨a, c, h1, h2⟩ => ⟨a, c, h1, RowS.fits h2.1 g, h2.2⟩) [(7, true)] (by kernel_rfl) rfl ?_ ?_
  ·intro xs w hw hp K hK;simp only [hzv] at hp;obtain ⟨a8, c8, h8, hes8⟩ := hp;go_simp;exact hK _ _ ⟨a8, c8, rfl, hes8⟩ (Grow.refl _)
  refine lxs hsz (fun x u => ∃ a c, x = .slice a L.length c /\ EnsS u (.slice a L.length c) L /\ L.length <= c) (fun _ _ _ g ⟨a, c, h1, h2⟩ => ⟨a, c, h1, RowS.fits h2.1 g, h2.2⟩) [(8, true)] (by kernel_rfl) rfl ?_ ?_
  ·intro xs w hw hp K hK;simp only [hzv] at hp;obtain ⟨a8, c8, h8, hes8⟩ := hp;go_simp;exact hK _ _ ⟨a8, c8, rfl, hes8⟩ (Grow.refl _)
  apply lxe hsz [(8, true)] (by kernel_rfl) rfl
  ·intro xs w hw hp K hK;simp only [hzv] at hp;obtain ⟨a8, c8, h8, hes8⟩ := hp;go_simp;exact hK _ (Grow.refl _)
  apply lxe hsz [(8, true)] (by kernel_rfl) rfl
  ·intro xs w hw hp K hK;simp only [hzv] at hp;obtain ⟨a8, c8, h8, hes8⟩ := hp;go_simp;exact hK _ (Grow.refl _)
  refine lxs hsz (fun x u => ∃ a c, x = .slice a L.length c /\ EnsS u (.slice a L.length c) L /\ L.length <= c) (fun _ _ _ g ⟨a, c, h1, h2⟩ => ⟨a, c, h1, RowS.fits h2.1 g, h2.2⟩) [(9, true)] (by kernel_rfl) rfl ?_ ?_
  ·intro xs w hw hp K hK;simp only [hzv] at hp;obtain ⟨a8, c8, h8, hes8⟩ := hp;go_simp;exact hK _ _ ⟨a8, c8, rfl, hes8⟩ (Grow.refl _)
  apply lxv hsz Grow.refl (by kernel_rfl) rfl
  ·intro xs w hw K hK;go_simp;exact hK
  refine rgd [(12, true)] (by kernel_rfl) rfl ?_;intro xs w hw hp;have ha0 := HA0.out;clear HA0 hsz s0 s6 s10;simp only [hzv] at hp;have h11 := hp;clear hp;subst ha0;simp only [putV];have hg := Grow.undrew hw;obtain ⟨ea, ec, h11, hes⟩ := h11;have HEs := keep hes;have HG := keep hg;simp only [h11];clear hw h11 hes hg c0 c1 c2;generalize w = w1 at *;have hT1 := HT.out.fits (Grow.trans HG0.out HG.out);have HT1 := keep hT1;obtain ⟨rv1, ov1, lv1, hB, hP⟩ := hT1.tab;have HBy := keep hB;have HPy := keep hP;have c17 := hB.cell 17 (by simp [plCells]);have c18 := hB.cell 18 (by simp [plCells]);simp only [plCells, List.getElem_cons_zero, List.getElem_cons_succ] at c17 c18;have z17 := hB.free 17;have z18 := hB.free 18;clear hT1 hB hP;rcases HC.out with rfl | rfl
  ·obtain ⟨p0, p1, p2, p3, p4, p5, _⟩ := HPx.out w1 HG.out;cases M with
   | true =>
    go_upto_region 11 with fail;obtain ⟨w2, hw2⟩ : ∃ w2, w2 = ((w1.setCell ⟨pb, 17, none⟩ (.slice ea L.length ec)).setCell ⟨pb, 18, none⟩ (.int .i64 0)).setCell ⟨pb, 18, none⟩ (.int .i64 P.right) := ⟨_, rfl⟩;rw [<- hw2];have hT2 : PlT bs pb w2 { S with left := L, right := P.right } /\ Sel bs pb w1 w2 := by
     have kk := (((But.refl pb w1).setCell 17 (.slice ea L.length ec)).setCell 18 (.int .i64 0)).setCell 18 (.int .i64 P.right);have hB' := ((HBy.out.set 17 (.slice ea L.length ec)).set 18 (.int .i64 0)).set 18 (.int .i64 P.right);have h2 := HPy.out.but kk HBy.out;subst hw2;exact ⟨⟨Nat.le_trans HT1.out.low kk.size, rv1, ov1, _, hB', ⟨h2.rr, h2.rows, ⟨rowS_typ HEs.out.1 kk HBy.out (by decide), HEs.out.2⟩, h2.none⟩⟩, Sel.but kk HBy.out (.inl ⟨rfl, rfl⟩) HT1.out.low⟩
    have hnx := plnext_any bs pb { S with left := L, right := P.right } w2 hT2.1;have HR2 := keep (show { S with left := L, right := P.right }.next = R by rw [HRR.out]; rfl);rw [HR2.out] at hnx;unfold PlPost at hnx;have HNx := keep hnx;have HSl2 := keep ((Sel.of_grow HT.out.low (Grow.trans HG0.out HG.out)).trans hT2.2);have HSl3 := keep ((Sel.of_grow (Nat.le_trans HT.out.low HG0.out.size) HG.out).trans hT2.2);clear hnx hT2 hw2 c17 c18 z17 z18 p0 p1 p2 p3 p4 p5;go_wp2_with fail;refine HNx.out.mono ?_;rintro x w3 ⟨rfl, h1, h2⟩;have HT3 := keep h1;have HSl4 := keep (HSl3.out.trans h2);have HSl5 := keep (HSl2.out.trans h2);clear h1 h2 HNx;have HRx := keep (HR0.out.sel HSl4.out (by decide) (by decide));unfold zC at HRx;go_wp2_with ((refine wpList_store_rec rfl _ _ rfl (w_.heap.size + 2) _ rfl rfl HRx.out rfl rfl rfl ?_); intro wz hset hbz; have Hset := keep hset; have Hbut := keep hbz; clear hset hbz);refine bodyPost_ret (v := .tuple #[rdV noRd (.slice none 0 0), .bool false]) ?_ rfl ?_
    ·exact gather_res _ _ _ _ noRd _ rfl rfl Hset.out
    ·exact st_zero HT3.out HSl5.out Hbut.out (by omega) HRx.out HT.out.low
   | false =>
    go_upto_region 11 with fail;obtain ⟨w2, hw2⟩ : ∃ w2, w2 = ((w1.setCell ⟨pb, 17, none⟩ (.slice ea L.length ec)).setCell ⟨pb, 18, none⟩ (.int .i64 0)) := ⟨_, rfl⟩;rw [<- hw2];have hT2 : PlT bs pb w2 { S with left := L, right := 0 } /\ Sel bs pb w1 w2 := by
     have kk := (((But.refl pb w1).setCell 17 (.slice ea L.length ec)).setCell 18 (.int .i64 0));have hB' := ((HBy.out.set 17 (.slice ea L.length ec)).set 18 (.int .i64 0));have h2 := HPy.out.but kk HBy.out;subst hw2;exact ⟨⟨Nat.le_trans HT1.out.low kk.size, rv1, ov1, _, hB', ⟨h2.rr, h2.rows, ⟨rowS_typ HEs.out.1 kk HBy.out (by decide), HEs.out.2⟩, h2.none⟩⟩, Sel.but kk HBy.out (.inl ⟨rfl, rfl⟩) HT1.out.low⟩
    have hnx := plnext_any bs pb { S with left := L, right := 0 } w2 hT2.1;have HR2 := keep (show { S with left := L, right := 0 }.next = R by rw [HRR.out]; rfl);rw [HR2.out] at hnx;unfold PlPost at hnx;have HNx := keep hnx;have HSl2 := keep ((Sel.of_grow HT.out.low (Grow.trans HG0.out HG.out)).trans hT2.2);have HSl3 := keep ((Sel.of_grow (Nat.le_trans HT.out.low HG0.out.size) HG.out).trans hT2.2);clear hnx hT2 hw2 c17 c18 z17 z18 p0 p1 p2 p3 p4 p5;go_wp2_with fail;refine HNx.out.mono ?_;rintro x w3 ⟨rfl, h1, h2⟩;have HT3 := keep h1;have HSl4 := keep (HSl3.out.trans h2);have HSl5 := keep (HSl2.out.trans h2);clear h1 h2 HNx;have HRx := keep (HR0.out.sel HSl4.out (by decide) (by decide));unfold zC at HRx;go_wp2_with ((refine wpList_store_rec rfl _ _ rfl (w_.heap.size + 2) _ rfl rfl HRx.out rfl rfl rfl ?_); intro wz hset hbz; have Hset := keep hset; have Hbut := keep hbz; clear hset hbz);refine bodyPost_ret (v := .tuple #[rdV noRd (.slice none 0 0), .bool false]) ?_ rfl ?_
    ·exact gather_res _ _ _ _ noRd _ rfl rfl Hset.out
    ·exact st_zero HT3.out HSl5.out Hbut.out (by omega) HRx.out HT.out.low
  ·have hod := odd_any bs pb S w1 HT1.out;have HR2 := keep (show S.odd = R by rw [HRR.out]; rfl);rw [HR2.out] at hod;unfold PlPost at hod;have HOd := keep hod;clear hod c17 c18 z17 z18;go_wp2_with fail;refine HOd.out.mono ?_;rintro x w3 ⟨rfl, h1, h2⟩;have HT3 := keep h1;have HSl4 := keep ((Sel.of_grow (Nat.le_trans HT.out.low HG0.out.size) HG.out).trans h2);have HSl5 := keep ((Sel.of_grow HT.out.low (Grow.trans HG0.out HG.out)).trans h2);clear h1 h2 HOd;have HRx := keep (HR0.out.sel HSl4.out (by decide) (by decide));unfold zC at HRx;go_wp2_with ((refine wpList_store_rec rfl _ _ rfl (w_.heap.size + 2) _ rfl rfl HRx.out rfl rfl rfl ?_); intro wz hset hbz; have Hset := keep hset; have Hbut := keep hbz; clear hset hbz);refine bodyPost_ret (v := .tuple #[rdV noRd (.slice none 0 0), .bool false]) ?_ rfl ?_
   ·exact gather_res _ _ _ _ noRd _ rfl rfl Hset.out
   ·exact st_zero HT3.out HSl5.out Hbut.out (by omega) HRx.out HT.out.low
end Go.Proofs.YtcdapdcablnhpaaGreat
namespace Go.Proofs.YtcdapdcablnhpaaGreat
open Go.RowKit
theorem descend_res (tm : Array Value) (w : World) (b : Nat) (g : Bool) (R : Rcd) (iv : Value) (h8 : tm.getD 8 undef = .pointer (some ⟨b, 0, none⟩)) (h9 : tm.getD 9 undef = .bool g) (hB : Blk w b 71 (rdC R iv)) :
  (results Tryz.f92 tm).run Tryz.prog w = .ok (.tuple #[rdV R iv, .bool g]) w := by
 unfold rdC at hB;obtain ⟨⟨s0_, s1_, s2_, s3_, s4_, s5_, s6_, s7_, s8_, s9_, s10_, s11_, s12_, s13_, s14_, s15_⟩, _⟩ := recres hB;simp only [Array.getD_eq_getD_getElem?] at h8 h9;simp [results, Tryz.results92, go_sem, h8, h9, s0_, s1_, s2_, s3_, s4_, s5_, s6_, s7_, s8_, s9_, s10_, s11_, s12_, s13_, s14_, s15_, rdV]
def PgK (bs pb : Nat) (w : World) (jv : Value) (P : Pg) : Prop := ∀ w', Sel bs pb w w' -> PgIn w' jv P
def VwK (bs pb : Nat) (w : World) (v : Vw) (av rv iv : Value) : Prop := ∀ w', Sel bs pb w w' -> VwIn w' v av rv iv
theorem PgK.sel {bs pb : Nat} {w w' : World} {jv : Value} {P : Pg} (h : PgK bs pb w jv P) (k : Sel bs pb w w') : PgK bs pb w' jv P := fun u hu => h u (k.trans hu)
theorem VwK.sel {bs pb : Nat} {w w' : World} {v : Vw} {av rv iv : Value} (h : VwK bs pb w v av rv iv) (k : Sel bs pb w w') : VwK bs pb w' v av rv iv := fun u hu => h u (k.trans hu)
theorem way_key (S : Pl) (P : Pg) (l : Int) (e : En) : (S.way P l e).1.key = S.key := by
 unfold Pl.way Pl.odd Pl.fin
 split
 ·rfl
 ·split <;> rfl
set_option maxRecDepth 100000 in
set_option maxHeartbeats 4000000 in
theorem descend_any (bs pb : Nat) (S : Pl) (v : Vw) (av rv iv : Value) (P : Pg) (jv fv : Value) (w_ : World) (h : PlT bs pb w_ S) (hvk : VwK bs pb w_ v av rv iv) (hpk : PgK bs pb w_ jv P) (hk : S.key.length <= 24) (hs : 0 <= S.seen /\ S.seen <= 4096) :
  Calls Tryz.prog 92 #[.pointer (some ⟨pb, 0, none⟩), vwV v av rv iv, pgV P jv, fv] w_ (StPost bs pb (S.descend P) noRd false w_) := by
 have hin := hpk w_ (Sel.refl _ _ _);have hv := hvk w_ (Sel.refl _ _ _);obtain ⟨w0, hw0⟩ : ∃ w0, w0 = ((w_.alloc (.cells (vwCells v av rv iv).toArray 40)).alloc (.cells (pgCells P jv).toArray 28)).alloc (.cells zC.toArray 71) := ⟨_, rfl⟩;obtain ⟨hg0, hV0, hP0, hR0⟩ := vpr_new v av rv iv P jv w_ w0 hw0;obtain ⟨iva, ivc, rfl⟩ := items_form hv.items;obtain ⟨rva, rvc, rfl, _⟩ := ints_form hv.run;obtain ⟨ava, avc, rfl, _⟩ := ints_form hv.act;obtain ⟨jva, jvc, rfl⟩ := items_form hin.1;have HT := keep h;have HG0 := keep hg0;have HV0 := keep hV0;have HP0 := keep hP0;have HR0 := keep hR0;have HIn := keep hin;have HVw := keep hv;have HVK := keep hvk;have HPK := keep hpk;have hw := plway_any bs pb S P (.slice jva P.items.length jvc) 0 (S.begins, 0, 0) w0 (h.fits hg0) (hin.fits hg0) hs;have hr : S.descend P = if (S.way P 0 (S.begins, 0, 0)).2 then (S.way P 0 (S.begins, 0, 0)).1.gather P else (S.way P 0 (S.begins, 0, 0)).1 := rfl
 obtain ⟨R, hR⟩ : ∃ R, S.descend P = R := ⟨_, rfl⟩;rw [hR] at hr ⊢;have hk1 := (way_key S P 0 (S.begins, 0, 0)).symm ▸ hk;generalize S.way P 0 (S.begins, 0, 0) = X at *;obtain ⟨X1, X2⟩ := X;have HK1 := keep hk1;dsimp only at hw hr;unfold WyPost enV pgV at hw;dsimp only at hw;have HRR := keep hr;obtain ⟨rv0, ov0, lv0, hB, -⟩ := (h.fits hg0).tab;have hb2 : S.key = [] /\ S.begins = [0] \/ S.key ≠ [] /\ S.begins = S.key := by
  unfold Pl.begins
  by_cases h0 : S.key = []
  ·exact .inl ⟨h0, by rw [if_pos h0]⟩
  ·exact .inr ⟨h0, by rw [if_neg h0]⟩
 have c1 := hB.cell 1 (by simp [plCells]);simp only [plCells, List.getElem_cons_zero, List.getElem_cons_succ] at c1;unfold pgCells at hP0;unfold vwCells at hV0;obtain ⟨p0, p1, p2, p3, p4, p5, _⟩ := pgres hP0;clear hR hr h hg0 hV0 hP0 hR0 hB hv hin hs hk hvk hpk hk1;unfold vwCells pgCells zC at hw0;unfold vwV pgV;go_enter Tryz.func92, Tryz.ntmps92;go_upto_region 1 with fail;rw [<- hw0];clear hw0;rcases hb2 with ⟨h5, h6⟩ | ⟨h5, h6⟩
 ·rw [h5, str_nilS] at c1;rw [h6, show str [0] = ⟨#[0]⟩ from rfl] at hw;have HW := keep hw;clear hw h5 h6;go_upto_region 4 with fail;go_wp2_with fail;refine HW.out.mono ?_;rintro x w1 ⟨rfl, h1, h2⟩;have HT1 := keep h1;have HSl := keep h2;have HSl0 := keep ((Sel.of_grow HT.out.low HG0.out).trans h2);clear h1 h2 HW;cases X2 with
  | true =>
   have hV1 := HV0.out.sel HSl.out (by decide) (by decide);have hP1 := HP0.out.sel HSl.out (by decide) (by decide);have hgt := gather_any bs pb X1 v (.slice ava v.active.length avc) (.slice rva v.running.length rvc) (.slice iva v.clog.items.length ivc) P (.slice jva P.items.length jvc) (.slice none 0 0) w1 HT1.out (HVK.out w1 HSl0.out) (HPK.out w1 HSl0.out) HK1.out;unfold vwCells at hV1;unfold pgCells at hP1;obtain ⟨q0, q1, q2, q3, q4, q5, q6, q7, q8, q9, q10⟩ := vwres hV1;obtain ⟨p0, p1, p2, p3, p4, p5, _⟩ := pgres hP1;unfold StPost vwV pgV at hgt;have HGt := keep hgt;have HR2 := keep (show X1.gather P = R by rw [HRR.out]; rfl);rw [HR2.out] at HGt;clear hgt hV1 hP1 c1;go_wp2_with fail;refine HGt.out.mono ?_;rintro x w2 ⟨riv, rT, rfl, _, _, hri, h1, h2⟩;have HT2 := keep h1;have HSl2 := keep (HSl.out.trans h2);have HSl3 := keep (HSl0.out.trans h2);clear h1 h2 HGt hri p0 p1 p2 p3 p4 p5 q0 q1 q2 q3 q4 q5 q6 q7 q8 q9 q10;have HRx := keep (HR0.out.sel HSl2.out (by decide) (by decide));unfold zC at HRx;go_wp2_with ((refine wpList_store_rec rfl _ _ rfl (w_.heap.size + 2) _ rfl rfl HRx.out rfl rfl rfl ?_); intro wz hset hbz; have Hset := keep hset; have Hbut := keep hbz; clear hset hbz);refine bodyPost_ret (v := .tuple #[rdV noRd (.slice none 0 0), .bool false]) ?_ rfl ?_
   ·exact descend_res _ _ _ _ noRd _ rfl rfl Hset.out
   ·exact st_zero HT2.out HSl3.out Hbut.out (by omega) HRx.out HT.out.low
  | false =>
   have HR2 := keep (show X1 = R by rw [HRR.out]; rfl);clear c1;have HRx := keep (HR0.out.sel HSl.out (by decide) (by decide));unfold zC at HRx;go_wp2_with ((refine wpList_store_rec rfl _ _ rfl (w_.heap.size + 2) _ rfl rfl HRx.out rfl rfl rfl ?_); intro wz hset hbz; have Hset := keep hset; have Hbut := keep hbz; clear hset hbz);refine bodyPost_ret (v := .tuple #[rdV noRd (.slice none 0 0), .bool false]) ?_ rfl ?_
   ·exact descend_res _ _ _ _ noRd _ rfl rfl Hset.out
   ·exact st_zero (by rw [<- HR2.out]; exact HT1.out) HSl0.out Hbut.out (by omega) HRx.out HT.out.low
 ·rw [h6] at hw;have e5 : (str S.key).toList.isEmpty = false := by rw [str_list]; cases hkk : S.key with
   | nil => exact absurd hkk h5
   | cons => rfl
  have HW := keep hw;clear hw h5 h6;go_upto_region 4 with fail;go_wp2_with fail;refine HW.out.mono ?_;rintro x w1 ⟨rfl, h1, h2⟩;have HT1 := keep h1;have HSl := keep h2;have HSl0 := keep ((Sel.of_grow HT.out.low HG0.out).trans h2);clear h1 h2 HW;cases X2 with
  | true =>
   have hV1 := HV0.out.sel HSl.out (by decide) (by decide);have hP1 := HP0.out.sel HSl.out (by decide) (by decide);have hgt := gather_any bs pb X1 v (.slice ava v.active.length avc) (.slice rva v.running.length rvc) (.slice iva v.clog.items.length ivc) P (.slice jva P.items.length jvc) (.slice none 0 0) w1 HT1.out (HVK.out w1 HSl0.out) (HPK.out w1 HSl0.out) HK1.out;unfold vwCells at hV1;unfold pgCells at hP1;obtain ⟨q0, q1, q2, q3, q4, q5, q6, q7, q8, q9, q10⟩ := vwres hV1;obtain ⟨p0, p1, p2, p3, p4, p5, _⟩ := pgres hP1;unfold StPost vwV pgV at hgt;have HGt := keep hgt;have HR2 := keep (show X1.gather P = R by rw [HRR.out]; rfl);rw [HR2.out] at HGt;clear hgt hV1 hP1 c1;go_wp2_with fail;refine HGt.out.mono ?_;rintro x w2 ⟨riv, rT, rfl, _, _, hri, h1, h2⟩;have HT2 := keep h1;have HSl2 := keep (HSl.out.trans h2);have HSl3 := keep (HSl0.out.trans h2);clear h1 h2 HGt hri p0 p1 p2 p3 p4 p5 q0 q1 q2 q3 q4 q5 q6 q7 q8 q9 q10;have HRx := keep (HR0.out.sel HSl2.out (by decide) (by decide));unfold zC at HRx;go_wp2_with ((refine wpList_store_rec rfl _ _ rfl (w_.heap.size + 2) _ rfl rfl HRx.out rfl rfl rfl ?_); intro wz hset hbz; have Hset := keep hset; have Hbut := keep hbz; clear hset hbz);refine bodyPost_ret (v := .tuple #[rdV noRd (.slice none 0 0), .bool false]) ?_ rfl ?_
   ·exact descend_res _ _ _ _ noRd _ rfl rfl Hset.out
   ·exact st_zero HT2.out HSl3.out Hbut.out (by omega) HRx.out HT.out.low
  | false =>
   have HR2 := keep (show X1 = R by rw [HRR.out]; rfl);clear c1;have HRx := keep (HR0.out.sel HSl.out (by decide) (by decide));unfold zC at HRx;go_wp2_with ((refine wpList_store_rec rfl _ _ rfl (w_.heap.size + 2) _ rfl rfl HRx.out rfl rfl rfl ?_); intro wz hset hbz; have Hset := keep hset; have Hbut := keep hbz; clear hset hbz);refine bodyPost_ret (v := .tuple #[rdV noRd (.slice none 0 0), .bool false]) ?_ rfl ?_
   ·exact descend_res _ _ _ _ noRd _ rfl rfl Hset.out
   ·exact st_zero (by rw [<- HR2.out]; exact HT1.out) HSl0.out Hbut.out (by omega) HRx.out HT.out.low
theorem infoRowR : (Tryz.prog.info? 46).map (fun i => (i.zero, i.size, i.bytes)) = some (some (.agg #[.string ⟨#[]⟩, .string ⟨#[]⟩]), 2, 32) := by kernel_rfl
theorem rapp_run (ty : TypeId) (B : Nat) (xs : List Rw) (x : Rw) (v0 : Value) (ad : Addr) (c : Nat) (w : World) (h0 : OwnR B w v0 xs) (hn : ∀ j u, (rwC x)[j]? = some u -> w.cell? (ad.add j) = some u) (hb : xs.length <= 1000) (hB : B <= w.heap.size) :
  ∃ v' w', (Builtin.append_ #[41, 41] ty #[v0, .slice (some ad) 1 c]).run Tryz.prog w = .ok v' w' /\ OwnR B w' v' (xs ++ [x]) /\ w.grownBy w' v0.ownBlock := by
 obtain ⟨iR, hiR, hzR0, hzR1, hzR2⟩ := info_parts infoRowR;obtain ⟨v', w', hr, h1, h2, _⟩ := run_append_own_at (P := Tryz.prog) w B 41 ty 46 iR _ 2 32 Tryz.underlying41 hiR hzR0 hzR1 hzR2 rfl (by decide) v0 xs.length (rwCells xs) h0 ad 1 c (rwC x) rfl hn (fun u hu => by simp [rwC] at hu; rcases hu with rfl | rfl <;> rfl) (by unfold maxLen; omega) (by omega) hB;refine ⟨v', w', hr, ?_, h2⟩;unfold OwnR;rw [rwCells_append, List.length_append, show rwCells [x] = rwC x by simp [rwCells]];exact h1
theorem owns_less {w : World} {B g cap n m : Nat} {xs ys : List Rw} (h : w.ownsRow B 46 2 (.slice (some ⟨g, 0, none⟩) m cap) m (rwCells (xs ++ ys))) (hn : n = xs.length) : w.ownsRow B 46 2 (.slice (some ⟨g, 0, none⟩) n cap) n (rwCells xs) := by
 subst hn;have hl := h.1;rw [rwCells_length, List.length_append] at hl;refine ⟨by rw [rwCells_length]; omega, .inr ?_⟩;rcases h.2 with ⟨h1, _⟩ | ⟨g', cap', cur, h1, h2, h3, h4, h5, h6, h7⟩
 ·cases h1
 ·simp only [Value.slice.injEq, Option.some.injEq, Addr.mk.injEq, and_true, true_and] at h1;obtain ⟨rfl, rfl⟩ := h1;refine ⟨g, cap, cur, rfl, h2, h3, by omega, h5, h6, ?_⟩;have h8 := congrArg (List.take (xs.length * 2)) h7;rw [List.take_take, Nat.min_eq_left (by omega), rwCells_append, List.take_left' (by rw [rwCells_length]; omega)] at h8;exact h8
theorem rapp_keeps (ty : TypeId) (B : Nat) (xs : List Rw) (x : Rw) (v0 : Value) (ad : Addr) (c : Nat) (w : World) (h0 : OwnR B w v0 xs) (hn : ∀ j u, (rwC x)[j]? = some u -> w.cell? (ad.add j) = some u) (hb : xs.length <= 1000) (hB : B <= w.heap.size) :
  ∃ v' w', (Builtin.append_ #[41, 41] ty #[v0, .slice (some ad) 1 c]).run Tryz.prog w = .ok v' w' /\ OwnR B w' v' (xs ++ [x]) /\ w.grownBy w' v0.ownBlock /\ OwnR B w' v0 xs := by
 obtain ⟨v', w', hr, h1, h2⟩ := rapp_run ty B xs x v0 ad c w h0 hn hb hB;refine ⟨v', w', hr, h1, h2, ?_⟩;have hcell : rwCells [x] = rwC x := by simp [rwCells]
 rcases h0.2 with ⟨rfl, h3⟩ | ⟨g, cap, cur, rfl, hbg, hg, hnc, hcm, hcs, htake⟩
 ·have hx : xs = [] := List.eq_nil_of_length_eq_zero h3;subst hx;exact World.ownsRow_nil _ _ _ _
 ·obtain ⟨iR, hiR, hzR0, hzR1, hzR2⟩ := info_parts infoRowR
  by_cases hroom : xs.length + 1 <= cap
  ·obtain ⟨w9, hr9, h9, _⟩ := run_append_fits (P := Tryz.prog) (w := w) B 41 ty 46 iR 2 Tryz.underlying41 hiR hzR1 g xs.length cap (rwCells xs) h0 ad 1 c (rwC x) rfl hn (fun u hu => by simp [rwC] at hu; rcases hu with rfl | rfl <;> rfl) hroom;rw [hr] at hr9;simp only [Result.ok.injEq] at hr9;obtain ⟨rfl, rfl⟩ := hr9;rw [<- hcell, <- rwCells_append] at h9;exact owns_less h9 rfl
  ·have hr9 := run_append_grow (P := Tryz.prog) w 41 ty 46 iR _ Tryz.underlying41 hiR hzR0 ⟨g, 0, none⟩ xs.length cap (rwCells xs) (by rw [hzR1, rwCells_length]; omega) (h0.cells (g := g) rfl) ad 1 c (rwC x) (by rw [hzR1]; rfl) hn (by omega) (by omega) (growslice_fits (by omega) (by rw [hzR2]; omega));rw [hr] at hr9;simp only [Result.ok.injEq] at hr9;obtain ⟨rfl, rfl⟩ := hr9;exact owns_fits h0 (Grow.alloc (Grow.refl w.drew).undrew _)
def RwF (B : Nat) (u v : World) : Prop := u.heap.size <= v.heap.size /\ (B <= u.heap.size -> v.os = u.os /\ v.tape = u.tape /\ v.output = u.output /\ (∀ k, k < B -> v.heap[k]? = u.heap[k]?) /\ ∀ (c : Nat) (blk : Array Value) (t : Nat) (f : Nat × Nat), u.heap[c]? = some (.cells blk t f) -> t ≠ 46 -> v.heap[c]? = some (.cells blk t f))
theorem RwF.refl (B : Nat) (u : World) : RwF B u u := ⟨Nat.le_refl _, fun _ => ⟨rfl, rfl, rfl, fun _ _ => rfl, fun _ _ _ _ h _ => h⟩⟩
theorem RwF.grow {B : Nat} {u v : World} (h : Grow u v) : RwF B u v := ⟨h.size, fun hN => ⟨h.os, h.tape, h.output, fun k hk => h.block k (by omega), fun c blk t f hc _ => by rw [h.block c (lt_of_block hc)]; exact hc⟩⟩
theorem RwF.trans {B : Nat} {u v w : World} (h : RwF B u v) (k : RwF B v w) : RwF B u w := ⟨Nat.le_trans h.1 k.1, fun hN => by
 obtain ⟨a1, a2, a3, a4, a5⟩ := h.2 hN;obtain ⟨b1, b2, b3, b4, b5⟩ := k.2 (Nat.le_trans hN h.1)
 exact ⟨b1.trans a1, b2.trans a2, b3.trans a3, fun i hi => (b4 i hi).trans (a4 i hi), fun c blk t f hc hn => b5 c blk t f (a5 c blk t f hc hn) hn⟩⟩
theorem RwF.undrew {B : Nat} {u v : World} (h : RwF B u.drew v) : RwF B u v := h
theorem RwF.app {B : Nat} {w w' : World} {v0 : Value} {xs : List Rw} (h0 : OwnR B w v0 xs) (g : w.grownBy w' v0.ownBlock) : RwF B w w' :=
 ⟨g.size, fun hN => ⟨g.os, g.tape, g.output, fun k hk => g.block k (by omega) (fun e => by have := (h0.lt _ e.symm).1; omega), fun c blk t f hc hn => by
  have hlt := lt_of_block hc;have hne : v0.ownBlock ≠ some c := by
   intro e;rcases h0.2 with ⟨h1, _⟩ | ⟨g', cap, cur, h1, _, hh, _⟩
   ·rw [h1] at e; cases e
   ·rw [h1] at e;have e9 : g' = c := Option.some.inj e;subst e9;rw [hh] at hc;simp at hc;exact hn hc.2.1.symm
  rw [g.block c hlt (Ne.symm hne)]
  exact hc⟩⟩
theorem RwF.sel {bs pb : Nat} {u v : World} (h : RwF bs u v) (hb : bs <= u.heap.size) : Sel bs pb u v := by
 obtain ⟨a1, a2, a3, a4, a5⟩ := h.2 hb;exact ⟨a1, a2, a3, h.1, fun k hk _ => a4 k hk, fun c blk t f hc _ h2 => a5 c blk t f hc h2, fun c blk f hc _ => a5 c blk _ f hc (by decide)⟩
theorem Blk.rwf {B : Nat} {u v : World} {b t : Nat} {cs : List Value} (h : Blk u b t cs) (k : RwF B u v) (hb : B <= u.heap.size) (ht : t ≠ 46) : Blk v b t cs := (k.2 hb).2.2.2.2 _ _ _ _ h ht
theorem rowS_rwf {B e n : Nat} {u v : World} {x : Value} {cs : List Value} (h : RowS u e x n cs) (k : RwF B u v) (hb : B <= u.heap.size) (he : e ≠ 46) : RowS v e x n cs := by
 rcases h with h | ⟨c, off, cap, blk, f, h1, h2, h3⟩
 ·exact .inl h
 ·exact .inr ⟨c, off, cap, blk, f, h1, (k.2 hb).2.2.2.2 _ _ _ _ h2 he, h3⟩
theorem rowS_none {e : Nat} {u v : World} {x : Value} (h : RowS u e x ([] : List Rw).length (rwCells [])) : RowS v e x ([] : List Rw).length (rwCells []) := by
 rcases h with h | ⟨c, off, cap, blk, f, h1, h2, h3⟩
 ·exact .inl h
 ·exact .inl ⟨rfl, rfl, _, _, h1⟩
def RwG (B : Nat) (v0 : Value) (xs : List Rw) (u v : World) : Prop := RwF B u v /\ (OwnR B u v0 xs -> OwnR B v v0 xs)
theorem RwG.refl (B : Nat) (v0 : Value) (xs : List Rw) (u : World) : RwG B v0 xs u u := ⟨RwF.refl _ _, id⟩
theorem RwG.grow {B : Nat} {v0 : Value} {xs : List Rw} {u v : World} (h : Grow u v) : RwG B v0 xs u v := ⟨RwF.grow h, fun k => owns_fits k h⟩
theorem RwG.trans {B : Nat} {v0 : Value} {xs : List Rw} {u v w : World} (h : RwG B v0 xs u v) (k : RwG B v0 xs v w) : RwG B v0 xs u w := ⟨h.1.trans k.1, fun x => k.2 (h.2 x)⟩
theorem RwG.undrew {B : Nat} {v0 : Value} {xs : List Rw} {u v : World} (h : RwG B v0 xs u.drew v) : RwG B v0 xs u v := h
theorem row_cells {w : World} {b t : Nat} {cs : List Value} (h : Blk w b t cs) : ∀ j u, cs[j]? = some u -> w.cell? ((⟨b, 0, none⟩ : Addr).add j) = some u := by
 intro j u hj;obtain ⟨hj2, rfl⟩ := List.getElem?_eq_some_iff.1 hj;have h2 := h.cell j hj2;unfold Addr.add
 split
 ·rename_i h0
  have h9 : j = 0 := by simpa using h0
  subst h9;exact h2
 ·simpa using h2
attribute [local go_sem] hgs
theorem inspect_res (tm : Array Value) (w : World) (b : Nat) (g : Bool) (R : Rcd) (iv : Value) (h8 : tm.getD 8 undef = .pointer (some ⟨b, 0, none⟩)) (h9 : tm.getD 9 undef = .bool g) (hB : Blk w b 71 (rdC R iv)) :
  (results Tryz.f222 tm).run Tryz.prog w = .ok (.tuple #[rdV R iv, .bool g]) w := by
 unfold rdC at hB;obtain ⟨⟨s0_, s1_, s2_, s3_, s4_, s5_, s6_, s7_, s8_, s9_, s10_, s11_, s12_, s13_, s14_, s15_⟩, _⟩ := recres hB;simp only [Array.getD_eq_getD_getElem?] at h8 h9;simp [results, Tryz.results222, go_sem, h8, h9, s0_, s1_, s2_, s3_, s4_, s5_, s6_, s7_, s8_, s9_, s10_, s11_, s12_, s13_, s14_, s15_, rdV]
theorem inspect_cons {S : Pl} {v : Vw} {P : Pg} {e : En} {l : List En} (h : S.left = e :: l) : S.inspect v P =
  if ((lookS P e.2.2 e.1).2 && S.writes) && newerB v (lookS P e.2.2 e.1).1 then { S with left := l }.fin 180 false [] []
  else if ((lookS P e.2.2 e.1).2 && visB v (lookS P e.2.2 e.1).1) = false then { S with left := l }.next
  else if S.writes then { S with left := l, hit := true, one := e }.next
  else if S.call = 2 then { S with left := l }.fin 0 true (lookS P e.2.2 e.1).1.val []
  else if ((S.rows ++ [((lookS P e.2.2 e.1).1.key, (lookS P e.2.2 e.1).1.val)]).length : Int) = S.n then { S with left := l, rows := S.rows ++ [((lookS P e.2.2 e.1).1.key, (lookS P e.2.2 e.1).1.val)] }.fin 0 false [] (S.rows ++ [((lookS P e.2.2 e.1).1.key, (lookS P e.2.2 e.1).1.val)])
  else { S with left := l, rows := S.rows ++ [((lookS P e.2.2 e.1).1.key, (lookS P e.2.2 e.1).1.val)] }.next := by
 unfold Pl.inspect;rw [h]
set_option maxRecDepth 100000 in
set_option maxHeartbeats 16000000 in
theorem inspect_any (bs pb : Nat) (S : Pl) (v : Vw) (av rv iv : Value) (P : Pg) (jv fv : Value) (e : En) (l : List En) (w_ : World) (h : PlT bs pb w_ S) (hvk : VwK bs pb w_ v av rv iv) (hpk : PgK bs pb w_ jv P) (hl : S.left = e :: l) (hrr : S.rr = []) (hro : S.rows.length <= 100) :
  Calls Tryz.prog 222 #[.pointer (some ⟨pb, 0, none⟩), vwV v av rv iv, pgV P jv, fv] w_ (StPost bs pb (S.inspect v P) noRd false w_) := by
 have hin := hpk w_ (Sel.refl _ _ _);have hv := hvk w_ (Sel.refl _ _ _);obtain ⟨w0, hw0⟩ : ∃ w0, w0 = ((w_.alloc (.cells (vwCells v av rv iv).toArray 40)).alloc (.cells (pgCells P jv).toArray 28)).alloc (.cells zC.toArray 71) := ⟨_, rfl⟩;obtain ⟨hg0, hV0, hP0, hR0⟩ := vpr_new v av rv iv P jv w_ w0 hw0;obtain ⟨iva, ivc, rfl⟩ := items_form hv.items;obtain ⟨rva, rvc, rfl, _⟩ := ints_form hv.run;obtain ⟨ava, avc, rfl, _⟩ := ints_form hv.act;obtain ⟨jva, jvc, rfl⟩ := items_form hin.1;have HT := keep h;have HG0 := keep hg0;have HV0 := keep hV0;have HP0 := keep hP0;have HR0 := keep hR0;have HIn := keep hin;have HVw := keep hv;have HVK := keep hvk;have HPK := keep hpk;obtain ⟨R, hR⟩ : ∃ R, S.inspect v P = R := ⟨_, rfl⟩;rw [hR];rw [inspect_cons hl] at hR;have hlk := fun (u : World) (hu : PgIn u (.slice jva P.items.length jvc) P) => look_any P (.slice jva P.items.length jvc) e.2.2 e.1 u hu
 generalize lookS P e.2.2 e.1 = X at *;obtain ⟨T, b⟩ := X;dsimp only at hR hlk;have hvi := fun (u : World) (hu : VwIn u v (.slice ava v.active.length avc) (.slice rva v.running.length rvc) (.slice iva v.clog.items.length ivc)) => visible_any v _ _ _ T u hu
 have hne := fun (u : World) (hu : VwIn u v (.slice ava v.active.length avc) (.slice rva v.running.length rvc) (.slice iva v.clog.items.length ivc)) => newer_any v _ _ _ T u hu
 have hwr := fun (u : World) (hu : PlT bs pb u { S with left := l }) => (writes_any bs pb { S with left := l } u hu)
 have hwe : (({ S with left := l } : Pl).writes) = S.writes := rfl;simp only [hwe] at hwr;generalize visB v T = V at *;generalize newerB v T = Nw at *;generalize hW : S.writes = W at *;unfold pgV tupV at hlk;unfold vwV tupV at hvi hne;have HR := keep hR;have HLk := keep hlk;have HVi := keep hvi;have HNe := keep hne;have HWr := keep hwr;clear hlk hvi hne hwr hwe hW;obtain ⟨rv0, ov0, lv0, hB, hP⟩ := (h.fits hg0).tab;obtain ⟨la, lc, hlv⟩ := en_form hP.left.1.weak;subst hlv;rw [hl] at hP;have hes : EnsS w0 (.slice la (e :: l).length lc) (e :: l) := by have := hP.left.1; rw [hl] at this; exact this
 have hcap : (e :: l).length <= lc := hP.left.2;obtain ⟨c1, off1, cap1, e1, hc1⟩ := en_at hes.weak (show 0 < (e :: l).length by simp);have htl := ens_tail hes hcap (by simp);obtain ⟨k, p, s⟩ := e;simp only [Value.slice.injEq] at e1;obtain ⟨rfl, -, rfl⟩ := e1;obtain ⟨q0, q1, q2⟩ := hc1 w0 (Grow.refl _);simp only [List.getElem_cons_zero, Nat.zero_mul, Nat.add_zero] at q0 q1 q2;have c17 := hB.cell 17 (by simp [plCells]);simp only [plCells, List.getElem_cons_zero, List.getElem_cons_succ] at c17;rw [hl] at c17;have HHl := keep hl;have HRr := keep hrr;have HRo := keep hro;have HCp := keep hcap;have HTl := keep htl;have HB0 := keep hB;have HPl0 := keep hP;have hln : ((k, p, s) :: l).length = l.length + 1 := rfl;rw [hln] at c17;clear hR h hg0 hV0 hP0 hR0 hB hP hv hin hvk hpk hl hrr hro hcap htl hes hc1 hln;unfold vwCells pgCells zC at hw0;unfold vwV pgV;go_enter Tryz.func222, Tryz.ntmps222;go_upto_region 1 with fail;rw [<- hw0];clear hw0;go_upto_region 2 with fail;obtain ⟨w1, hw1⟩ : ∃ w1, w1 = w0.alloc (.cells #[.string (str k), .int .i64 p, .int .i64 s] 103) := ⟨_, rfl⟩;rw [<- hw1];have hg1 : Grow w0 w1 := by subst hw1; exact (Grow.refl _).alloc _
 have hE1 : Blk w1 w0.heap.size 103 [.string (str k), .int .i64 p, .int .i64 s] := by subst hw1; exact Blk.new w0 _ [_, _, _]
 have hB1 := HB0.out.fits hg1;have hP1 := HPl0.out.fits hg1;have hlc : (1 : Int) <= (l.length : Int) + 1 := by omega
 have hlc2 : (l.length + 1 : Nat) <= lc := HCp.out;clear c17;have c17 := hB1.cell 17 (by simp [plCells]);simp only [plCells, List.getElem_cons_zero, List.getElem_cons_succ] at c17;rw [HHl.out] at c17;rw [show ((k, p, s) :: l).length = l.length + 1 from rfl] at c17;have z17 := hB1.free 17;have HB1 := keep hB1;have HP1 := keep hP1;have HG1 := keep hg1;have HE1 := keep hE1;generalize w0.heap.size = be at *;clear hw1 hB1 hP1 hg1 hE1 q0 q1 q2;go_upto_region 3 with fail;have hTl2 : EnsS w0 (.slice (if lc = 1 then some (⟨c1, off1, none⟩ : Addr) else some ⟨c1, off1 + 3, none⟩) l.length (lc - 1)) l := by have := HTl.out; simpa [Addr.add] using this
 generalize (if lc = 1 then some (⟨c1, off1, none⟩ : Addr) else some ⟨c1, off1 + 3, none⟩) = ta at *;obtain ⟨w2, hw2⟩ : ∃ w2, w2 = w1.setCell ⟨pb, 17, none⟩ (.slice ta l.length (lc - 1)) := ⟨_, rfl⟩;rw [<- hw2];have kk := (But.refl pb w1).setCell 17 (.slice ta l.length (lc - 1));rw [<- hw2] at kk;have hlw1 : bs <= w1.heap.size := Nat.le_trans HT.out.low (Nat.le_trans HG0.out.size HG1.out.size);have hB2 : Blk w2 pb 111 (plCells { S with left := l } (stageV pb S.st) rv0 ov0 (.slice ta l.length (lc - 1))) := by subst hw2; exact HB1.out.set 17 _
 have hS2 : Sel bs pb w1 w2 := Sel.but kk HB1.out (.inl ⟨rfl, rfl⟩) hlw1;have hP1' := HP1.out.but kk HB1.out;have hP2 : PlR bs w2 { S with left := l } rv0 ov0 (.slice ta l.length (lc - 1)) := ⟨hP1'.rr, hP1'.rows, ⟨rowS_typ (RowS.fits hTl2 HG1.out) kk HB1.out (by decide), (show l.length <= lc - 1 by omega)⟩, hP1'.none⟩;have HB2 := keep hB2;have HP2 := keep hP2;have HS2 := keep (Sel.trans (Sel.of_grow HT.out.low (Grow.trans HG0.out HG1.out)) hS2);have HV2 := keep ((HV0.out.fits HG1.out).sel hS2 (by decide) (by decide));have HPg2 := keep ((HP0.out.fits HG1.out).sel hS2 (by decide) (by decide));have HR2 := keep ((HR0.out.fits HG1.out).sel hS2 (by decide) (by decide));have HE2 := keep (HE1.out.sel hS2 (by decide) (by decide));have HT2 := keep (show PlT bs pb w2 { S with left := l } from ⟨Nat.le_trans hlw1 hS2.size, rv0, ov0, _, hB2, hP2⟩);have hPg2 := HPg2.out;have hE2 := HE2.out;unfold pgCells at hPg2;obtain ⟨p0, p1, p2, p3, p4, p5, _⟩ := pgres hPg2;obtain ⟨q0, q1, q2, _⟩ := enres hE2;have HLk2 := keep (HLk.out w2 (HPK.out w2 HS2.out));clear hw2 kk hB2 hS2 hP1' hP2 hTl2 hPg2 hE2 c17 z17 hlw1 HLk hlc hlc2;go_wp2_with fail;refine HLk2.out.mono ?_;rintro x w3 ⟨rfl, hb3⟩;have HG3 := keep hb3;clear p0 p1 p2 p3 p4 p5 q0 q1 q2 hb3 HLk2;go_upto_region 4 with fail;obtain ⟨w4, hw4⟩ : ∃ w4, w4 = w3.alloc (.cells #[.int .i64 T.xmin, .int .i64 T.xmax, .bool T.frozen, .string (str T.key), .string (str T.val)] 44) := ⟨_, rfl⟩;rw [<- hw4]
 obtain ⟨hT4, hg4⟩ := tu_new w3 w4 [.int .i64 T.xmin, .int .i64 T.xmax, .bool T.frozen, .string (str T.key), .string (str T.val)] hw4;have hga := Grow.trans HG3.out hg4;generalize w3.heap.size = bt at *;have HVx := keep (fun (u : World) (hu : Grow w4 u) => vwres (HV2.out.fits (Grow.trans hga hu)));have HTx := keep (fun (u : World) (hu : Grow w4 u) => tures (hT4.fits hu));have HB4 := keep (HB2.out.fits hga)
 have HCx := keep (fun (u : World) (hu : Grow w4 u) => (show u.cell? ⟨pb, 0, none⟩ = some (.int .u8 S.call) /\ u.cell? ⟨pb, 4, none⟩ = some (.int .i64 S.n) /\ u.cell? ⟨pb, 15, none⟩ = some ov0 from
  ⟨(HB4.out.fits hu).cell 0 (by simp [plCells]), (HB4.out.fits hu).cell 4 (by simp [plCells]), (HB4.out.fits hu).cell 15 (by simp [plCells])⟩))
 have HP4 := keep (HP2.out.fits hga);have HT4 := keep (HT2.out.fits hga);have HR4 := keep (HR2.out.fits hga);have HE4 := keep (HE2.out.fits hga);have HS4 := keep (HS2.out.trans (Sel.of_grow HT2.out.low hga));have HVK4 := keep (HVK.out.sel HS4.out);have HTu4 := keep hT4;clear hw4 hT4 hg4 hga HB2 HP2 HV2 HPg2 HR2 HE2 HT2 HS2 HB1 HP1 HE1 HG1 HTl HCp HB0 HPl0 HVK HPK HG3;generalize hbe : be = be' at *;clear hbe;cases b with
 | false =>
  have HR5 := keep (show ({ S with left := l } : Pl).next = R by have := HR.out; simpa using this);have hnx := plnext_any bs pb { S with left := l } w4 (HT4.out.fits (Grow.refl w4));rw [HR5.out] at hnx;unfold PlPost at hnx;have HNx := keep hnx;have HGn := keep (Grow.refl w4);clear hnx;go_wp2_with fail;refine HNx.out.mono ?_;rintro x wn ⟨rfl, h1, h2⟩;have HTn := keep h1;have HSn := keep (Sel.trans (Sel.of_grow HT4.out.low HGn.out) h2);clear h1 h2 HNx;have HSn0 := keep (HS4.out.trans HSn.out);have HRx := keep (HR4.out.sel HSn.out (by decide) (by decide));unfold zC at HRx;go_wp2_with ((refine wpList_store_rec rfl _ _ rfl (w_.heap.size + 2) _ rfl rfl HRx.out rfl rfl rfl ?_); intro wz hset hbz; have Hset := keep hset; have Hbut := keep hbz; clear hset hbz);refine bodyPost_ret (v := .tuple #[rdV noRd (.slice none 0 0), .bool false]) ?_ rfl ?_
  ·exact inspect_res _ _ _ _ noRd _ rfl rfl Hset.out
  ·exact st_zero HTn.out HSn0.out Hbut.out (by omega) HRx.out HT.out.low
 | true =>
  obtain ⟨v0, v1, v2, v3, v4, v5, v6, v7, v8, v9, v10⟩ := HVx.out w4 (Grow.refl _);obtain ⟨t0, t1, t2, t3, t4⟩ := HTx.out w4 (Grow.refl _);go_wp2_with fail;refine (HVi.out w4 (HVK4.out w4 (Sel.refl _ _ _))).mono ?_;rintro x w5 ⟨rfl, hb5⟩;have HG5 := keep (show Grow w4 w5 from hb5);clear v0 v1 v2 v3 v4 v5 v6 v7 v8 v9 v10 t0 t1 t2 t3 t4 hb5 HVi;go_wp2_with fail;refine (HWr.out w5 (HT4.out.fits HG5.out)).mono ?_;rintro x w6 ⟨rfl, hb6⟩;have HG6 := keep (Grow.trans HG5.out hb6);clear hb6;cases W with
  | true =>
   obtain ⟨v0, v1, v2, v3, v4, v5, v6, v7, v8, v9, v10⟩ := HVx.out w6 HG6.out;obtain ⟨t0, t1, t2, t3, t4⟩ := HTx.out w6 HG6.out;go_wp2_with fail;refine (HNe.out w6 (HVK4.out w6 (Sel.of_grow HT4.out.low HG6.out))).mono ?_;rintro x w7 ⟨rfl, hb7⟩;have HG7 := keep (Grow.trans HG6.out hb7);clear v0 v1 v2 v3 v4 v5 v6 v7 v8 v9 v10 t0 t1 t2 t3 t4 hb7 HNe;cases Nw with
   | true =>
    have HR5 := keep (show ({ S with left := l } : Pl).fin 180 false [] [] = R by have := HR.out; simpa using this);have hen := end_any bs pb { S with left := l } 180 false [] (.slice none 0 0) [] w7 (HT4.out.fits HG7.out) (rows_nilS _);rw [HR5.out] at hen;unfold rpV PlPost at hen
    try rw [str_nilS] at hen
    have HEn := keep hen;have HGn := keep HG7.out;clear hen;go_wp2_with fail;refine HEn.out.mono ?_;rintro x wn ⟨rfl, h1, h2⟩;have HTn := keep h1;have HSn := keep (Sel.trans (Sel.of_grow HT4.out.low HGn.out) h2);clear h1 h2 HEn;have HSn0 := keep (HS4.out.trans HSn.out);have HRx := keep (HR4.out.sel HSn.out (by decide) (by decide));unfold zC at HRx;go_wp2_with ((refine wpList_store_rec rfl _ _ rfl (w_.heap.size + 2) _ rfl rfl HRx.out rfl rfl rfl ?_); intro wz hset hbz; have Hset := keep hset; have Hbut := keep hbz; clear hset hbz);refine bodyPost_ret (v := .tuple #[rdV noRd (.slice none 0 0), .bool false]) ?_ rfl ?_
    ·exact inspect_res _ _ _ _ noRd _ rfl rfl Hset.out
    ·exact st_zero HTn.out HSn0.out Hbut.out (by omega) HRx.out HT.out.low
   | false =>
    cases V with
    | false =>
     have HR5 := keep (show ({ S with left := l } : Pl).next = R by have := HR.out; simpa using this);have hnx := plnext_any bs pb { S with left := l } w7 (HT4.out.fits HG7.out);rw [HR5.out] at hnx;unfold PlPost at hnx;have HNx := keep hnx;have HGn := keep HG7.out;clear hnx;go_wp2_with fail;refine HNx.out.mono ?_;rintro x wn ⟨rfl, h1, h2⟩;have HTn := keep h1;have HSn := keep (Sel.trans (Sel.of_grow HT4.out.low HGn.out) h2);clear h1 h2 HNx;have HSn0 := keep (HS4.out.trans HSn.out);have HRx := keep (HR4.out.sel HSn.out (by decide) (by decide));unfold zC at HRx;go_wp2_with ((refine wpList_store_rec rfl _ _ rfl (w_.heap.size + 2) _ rfl rfl HRx.out rfl rfl rfl ?_); intro wz hset hbz; have Hset := keep hset; have Hbut := keep hbz; clear hset hbz);refine bodyPost_ret (v := .tuple #[rdV noRd (.slice none 0 0), .bool false]) ?_ rfl ?_
     ·exact inspect_res _ _ _ _ noRd _ rfl rfl Hset.out
     ·exact st_zero HTn.out HSn0.out Hbut.out (by omega) HRx.out HT.out.low
    | true =>
     have HR5 := keep (show ({ S with left := l, hit := true, one := (k, p, s) } : Pl).next = R by have := HR.out; simpa using this);go_wp2_with fail;refine (HWr.out w7 (HT4.out.fits HG7.out)).mono ?_;rintro x w8 ⟨rfl, hb8⟩;have HG8 := keep (Grow.trans HG7.out hb8);clear hb8;have hB8 := HB4.out.fits HG8.out;have c19 := hB8.cell 19 (by simp [plCells]);have c20 := hB8.cell 20 (by simp [plCells]);have c21 := hB8.cell 21 (by simp [plCells]);have c22 := hB8.cell 22 (by simp [plCells]);simp only [plCells, List.getElem_cons_zero, List.getElem_cons_succ] at c19 c20 c21 c22;have z19 := hB8.free 19;have z20 := hB8.free 20;have z21 := hB8.free 21;have z22 := hB8.free 22;obtain ⟨q0, q1, q2, _⟩ := enres (HE4.out.fits HG8.out);have hne1 : be' ≠ pb := by
      rintro rfl;have h9 := HE4.out.fits HG8.out;unfold Blk at hB8 h9;rw [hB8] at h9;simp at h9
     have hne2 : pb ≠ be' := fun h => hne1 h.symm
     clear hB8;go_upto_region 14 with fail;go_region;obtain ⟨w9, hw9⟩ : ∃ w9, w9 = ((((w8.setCell ⟨pb, 19, none⟩ (.bool true)).setCell ⟨pb, 20, none⟩ (.string (str k))).setCell ⟨pb, 21, none⟩ (.int .i64 p)).setCell ⟨pb, 22, none⟩ (.int .i64 s)).drew := ⟨_, rfl⟩;rw [<- hw9];have h9 : PlT bs pb w9 { S with left := l, hit := true, one := (k, p, s) } /\ Sel bs pb w4 w9 := by
      have kk := (((((But.refl pb w8).setCell 19 (.bool true)).setCell 20 (.string (str k))).setCell 21 (.int .i64 p)).setCell 22 (.int .i64 s)).drew;have hB' := ((((HB4.out.fits HG8.out).set 19 (.bool true)).set 20 (.string (str k))).set 21 (.int .i64 p)).set 22 (.int .i64 s);have h2 := (HP4.out.fits HG8.out).but kk (HB4.out.fits HG8.out);subst hw9;exact ⟨⟨Nat.le_trans (HT4.out.fits HG8.out).low kk.size, rv0, ov0, _, hB'.drew, ⟨h2.rr, h2.rows, h2.left, h2.none⟩⟩, (Sel.of_grow HT4.out.low HG8.out).trans (Sel.but kk (HB4.out.fits HG8.out) (.inl ⟨rfl, rfl⟩) (HT4.out.fits HG8.out).low)⟩
     have HT9 := keep h9.1;have HS9 := keep h9.2;clear hw9 h9 c19 c20 c21 c22 z19 z20 z21 z22 q0 q1 q2 hne1 hne2;have hnx := plnext_any bs pb { S with left := l, hit := true, one := (k, p, s) } w9 (HT9.out.fits (Grow.refl w9));rw [HR5.out] at hnx;unfold PlPost at hnx;have HNx := keep hnx;have HGn := keep (Grow.refl w9);clear hnx;go_wp2_with fail;refine HNx.out.mono ?_;rintro x wn ⟨rfl, h1, h2⟩;have HTn := keep h1;have HSn := keep (Sel.trans HS9.out h2);clear h1 h2 HNx;have HSn0 := keep (HS4.out.trans HSn.out);have HRx := keep (HR4.out.sel HSn.out (by decide) (by decide));unfold zC at HRx;go_wp2_with ((refine wpList_store_rec rfl _ _ rfl (w_.heap.size + 2) _ rfl rfl HRx.out rfl rfl rfl ?_); intro wz hset hbz; have Hset := keep hset; have Hbut := keep hbz; clear hset hbz);refine bodyPost_ret (v := .tuple #[rdV noRd (.slice none 0 0), .bool false]) ?_ rfl ?_
     ·exact inspect_res _ _ _ _ noRd _ rfl rfl Hset.out
     ·exact st_zero HTn.out HSn0.out Hbut.out (by omega) HRx.out HT.out.low
  | false =>
   cases V with
   | false =>
    have HR5 := keep (show ({ S with left := l } : Pl).next = R by have := HR.out; simpa using this);have hnx := plnext_any bs pb { S with left := l } w6 (HT4.out.fits HG6.out);rw [HR5.out] at hnx;unfold PlPost at hnx;have HNx := keep hnx;have HGn := keep HG6.out;clear hnx;go_wp2_with fail;refine HNx.out.mono ?_;rintro x wn ⟨rfl, h1, h2⟩;have HTn := keep h1;have HSn := keep (Sel.trans (Sel.of_grow HT4.out.low HGn.out) h2);clear h1 h2 HNx;have HSn0 := keep (HS4.out.trans HSn.out);have HRx := keep (HR4.out.sel HSn.out (by decide) (by decide));unfold zC at HRx;go_wp2_with ((refine wpList_store_rec rfl _ _ rfl (w_.heap.size + 2) _ rfl rfl HRx.out rfl rfl rfl ?_); intro wz hset hbz; have Hset := keep hset; have Hbut := keep hbz; clear hset hbz);refine bodyPost_ret (v := .tuple #[rdV noRd (.slice none 0 0), .bool false]) ?_ rfl ?_
    ·exact inspect_res _ _ _ _ noRd _ rfl rfl Hset.out
    ·exact st_zero HTn.out HSn0.out Hbut.out (by omega) HRx.out HT.out.low
   | true =>
    go_wp2_with fail;refine (HWr.out w6 (HT4.out.fits HG6.out)).mono ?_;rintro x w7 ⟨rfl, hb7⟩;have HG7 := keep (Grow.trans HG6.out hb7);clear hb7;obtain ⟨c0, c4, c15⟩ := HCx.out w7 HG7.out
    by_cases h2 : S.call = 2
    ·have HR5 := keep (show ({ S with left := l } : Pl).fin 0 true T.val [] = R by have := HR.out; simpa [h2] using this);have e2 : (S.call == 2) = true := by simp [h2]
     obtain ⟨t0, t1, t2, t3, t4⟩ := HTx.out w7 HG7.out;clear h2;have hen := end_any bs pb { S with left := l } 0 true T.val (.slice none 0 0) [] w7 (HT4.out.fits HG7.out) (rows_nilS _);rw [HR5.out] at hen;unfold rpV PlPost at hen
     try rw [str_nilS] at hen
     have HEn := keep hen;have HGn := keep HG7.out;clear hen;go_wp2_with fail;refine HEn.out.mono ?_;rintro x wn ⟨rfl, h1, h2⟩;have HTn := keep h1;have HSn := keep (Sel.trans (Sel.of_grow HT4.out.low HGn.out) h2);clear h1 h2 HEn;have HSn0 := keep (HS4.out.trans HSn.out);have HRx := keep (HR4.out.sel HSn.out (by decide) (by decide));unfold zC at HRx;go_wp2_with ((refine wpList_store_rec rfl _ _ rfl (w_.heap.size + 2) _ rfl rfl HRx.out rfl rfl rfl ?_); intro wz hset hbz; have Hset := keep hset; have Hbut := keep hbz; clear hset hbz);refine bodyPost_ret (v := .tuple #[rdV noRd (.slice none 0 0), .bool false]) ?_ rfl ?_
     ·exact inspect_res _ _ _ _ noRd _ rfl rfl Hset.out
     ·exact st_zero HTn.out HSn0.out Hbut.out (by omega) HRx.out HT.out.low
    ·have e2 : (S.call == 2) = false := by simpa using h2
     have HR5 := keep (show (if ((S.rows ++ [(T.key, T.val)]).length : Int) = S.n then ({ S with left := l, rows := S.rows ++ [(T.key, T.val)] } : Pl).fin 0 false [] (S.rows ++ [(T.key, T.val)]) else ({ S with left := l, rows := S.rows ++ [(T.key, T.val)] } : Pl).next) = R by have := HR.out; simpa [h2] using this);clear h2;have HB7 := keep (HB4.out.fits HG7.out);have HTu7 := keep (HTu4.out.fits HG7.out);have HL7 := keep ((HT4.out.fits HG7.out).low);have HO7 := keep ((HP4.out.fits HG7.out).rows);have HP7 := keep (HP4.out.fits HG7.out);go_upto_region 5 with fail;clear c0 c4 c15;refine wp_region_m_named (by kernel_rfl) 12 11 (fun j => decide (11 <= j)) (RwG bs ov0 S.rows) (RwG.refl _ _ _ _) (fun _ _ => RwG.grow) (fun _ _ _ => RwG.trans) (by kernel_rfl)  (by kernel_rfl) [(43, 0), (44, 1), (45, 2), (46, 3), (47, 4), (48, 5), (49, 6), (50, 7), (51, 8), (52, 9), (53, 10), (54, 11)] (by kernel_rfl) [(0, true), (1, true), (2, true), (3, true), (4, true), (5, true), (6, true), (7, true), (8, true), (9, true), (10, true), (11, true)] (by kernel_rfl) rfl rfl ?_;intro a0 ha0;have hsz : a0.tmps.size = 120 := (size_at ha0).trans rfl;have s0 := slot_at ha0 0 rfl;have s11 := slot_at ha0 11 rfl;have HA0 := keep ha0;clear ha0;apply lexm_eq hsz [] [(44, 1), (45, 2), (46, 3), (47, 4), (48, 5), (49, 6), (50, 7), (51, 8), (52, 9), (53, 10), (54, 11)] none (by kernel_rfl) (by kernel_rfl) (by kernel_rfl) (by kernel_rfl) rfl (by decide)
     ·intro xs w hw hp K hK;go_simp;exact hK _ (Grow.refl _)
     apply lexm_eq hsz [] [(43, 0), (46, 3), (47, 4), (48, 5), (49, 6), (50, 7), (51, 8), (52, 9), (53, 10), (54, 11)] none (by kernel_rfl) (by kernel_rfl) (by kernel_rfl) (by kernel_rfl) rfl (by decide)
     ·intro xs w hw hp K hK;go_simp;exact hK _ (Grow.refl _)
     apply lexm_eq hsz [(1, true)] [(43, 0), (44, 1), (47, 4), (48, 5), (49, 6), (50, 7), (51, 8), (52, 9), (53, 10), (54, 11)] none (by kernel_rfl) (by kernel_rfl) (by kernel_rfl) (by kernel_rfl) rfl (by decide)
     ·intro xs w hw hp K hK;simp only [hz] at hp;go_simp;exact hK _ (Grow.refl _)
     apply lexm_eq hsz [(2, true)] [(43, 0), (44, 1), (45, 2), (48, 5), (49, 6), (50, 7), (51, 8), (52, 9), (53, 10), (54, 11)] none (by kernel_rfl) (by kernel_rfl) (by kernel_rfl) (by kernel_rfl) rfl (by decide)
     ·intro xs w hw hp K hK;simp only [hz] at hp;go_simp;exact hK _ (Grow.refl _)
     apply lexm_eq hsz [(3, true)] [(43, 0), (44, 1), (45, 2), (46, 3), (48, 5), (49, 6), (50, 7), (51, 8), (52, 9), (53, 10)] none (by kernel_rfl) (by kernel_rfl) (by kernel_rfl) (by kernel_rfl) rfl (by decide)
     ·intro xs w hw hp K hK;simp only [hz] at hp;have c15 := (HB7.out.rwf hw.undrew.1 HL7.out (by decide)).cell 15 (by simp [plCells]);simp only [plCells, List.getElem_cons_zero, List.getElem_cons_succ] at c15;go_simp;exact hK _ (Grow.refl _)
     apply lexm_eq hsz [] [(43, 0), (44, 1), (45, 2), (46, 3), (47, 4), (50, 7), (51, 8), (52, 9), (53, 10), (54, 11)] none (by kernel_rfl) (by kernel_rfl) (by kernel_rfl) (by kernel_rfl) rfl (by decide)
     ·intro xs w hw hp K hK;go_simp;exact hK _ (Grow.refl _)
     apply lexm_eq hsz [(5, true)] [(43, 0), (44, 1), (45, 2), (46, 3), (47, 4), (48, 5), (50, 7), (51, 8), (53, 10), (54, 11)] none (by kernel_rfl) (by kernel_rfl) (by kernel_rfl) (by kernel_rfl) rfl (by decide)
     ·intro xs w hw hp K hK;simp only [hz] at hp;obtain ⟨t0, t1, t2, t3, t4⟩ := tures (HTu7.out.rwf hw.undrew.1 HL7.out (by decide));go_simp;exact hK _ (Grow.refl _)
     apply lexm_eq hsz [] [(43, 0), (44, 1), (45, 2), (46, 3), (47, 4), (48, 5), (49, 6), (52, 9), (53, 10), (54, 11)] none (by kernel_rfl) (by kernel_rfl) (by kernel_rfl) (by kernel_rfl) rfl (by decide)
     ·intro xs w hw hp K hK;go_simp;exact hK _ (Grow.refl _)
     apply lexm_eq hsz [(7, true)] [(43, 0), (44, 1), (45, 2), (46, 3), (47, 4), (48, 5), (49, 6), (50, 7), (53, 10), (54, 11)] none (by kernel_rfl) (by kernel_rfl) (by kernel_rfl) (by kernel_rfl) rfl (by decide)
     ·intro xs w hw hp K hK;simp only [hz] at hp;obtain ⟨t0, t1, t2, t3, t4⟩ := tures (HTu7.out.rwf hw.undrew.1 HL7.out (by decide));go_simp;exact hK _ (Grow.refl _)
     apply lexm_eq hsz [(6, true), (8, true)] [(43, 0), (44, 1), (45, 2), (46, 3), (47, 4), (48, 5), (49, 6), (50, 7), (51, 8), (54, 11)] none (by kernel_rfl) (by kernel_rfl) (by kernel_rfl) (by kernel_rfl) rfl (by decide)
     ·intro xs w hw hp K hK;simp only [hz] at hp;go_simp;exact hK _ (Grow.refl _)
     refine lexm_until hsz (fun v u => ∃ vb, v = .slice (some ⟨vb, 0, none⟩) 1 1 /\ Blk u vb 46 (rwC (T.key, T.val))) (fun _ _ _ g h => h.elim fun vb h => ⟨vb, h.1, h.2.fits g⟩) [(9, true)] [(43, 0), (44, 1), (45, 2), (46, 3), (47, 4), (48, 5), (49, 6), (50, 7), (51, 8), (52, 9)] none (by kernel_rfl) (by kernel_rfl) (by kernel_rfl) (by kernel_rfl) rfl (by decide) ?_ ?_
     ·intro xs w hw hp K hK;simp only [hz] at hp;go_simp;exact hK _ _ ⟨_, rfl, Blk.new w _ [_, _]⟩ ((Grow.refl _).alloc _)
     refine lexm_it rfl hsz (fun v u => ∃ na nc, v = .slice na (S.rows ++ [(T.key, T.val)]).length nc /\ OwnR bs u (.slice na (S.rows ++ [(T.key, T.val)]).length nc) (S.rows ++ [(T.key, T.val)])) (fun _ _ _ g ⟨na, nc, h1, h2⟩ => ⟨na, nc, h1, owns_fits h2 g⟩) [(4, true), (10, true)] [(43, 0), (44, 1), (45, 2), (46, 3), (47, 4), (48, 5), (49, 6), (50, 7), (51, 8), (52, 9), (53, 10)] none (by kernel_rfl) (by kernel_rfl) (by kernel_rfl) (by kernel_rfl) rfl ?_ ?_
     ·intro xs w hw hp K hK;simp only [hz] at hp;obtain ⟨h4, vb, h10, hvb⟩ := hp;obtain ⟨v', w', hr, h1, h2, h3⟩ := rapp_keeps _ bs S.rows (T.key, T.val) ov0 ⟨vb, 0, none⟩ 1 w (hw.undrew.2 HO7.out) (row_cells hvb) (by have := HRo.out; omega) (Nat.le_trans HL7.out hw.undrew.1.1);obtain ⟨na, nc, e9⟩ := own_form h1;rw [e9] at h1;exact upon_append rfl (by simp [evalF_tmp, lookL, h4]) (by simp [evalF_tmp, lookL, h10]) hr (hK _ _ ⟨na, nc, e9, h1⟩ ⟨RwF.app (hw.undrew.2 HO7.out) h2, fun _ => h3⟩)
     intro xs w hw hp;have ha0 := HA0.out;clear HA0 hsz s0 s11;simp only [hz] at hp;have h43 := hp.1;have h54 := hp.2.2.2.2.2.2.2.2.2.2.2;clear hp;subst ha0;simp only [putAll, h43];obtain ⟨na, nc, h54, HOn⟩ := h54;simp only [h54];generalize hrs : S.rows ++ [(T.key, T.val)] = rs at *;have HRne := keep (show rs ≠ [] by rw [<- hrs]; simp);clear hrs;have hsw : Sel bs pb w4 w := (Sel.of_grow HT4.out.low HG7.out).trans (hw.undrew.1.sel HL7.out);have hBw := HB7.out.rwf hw.undrew.1 HL7.out (by decide);have hPw : RowS w 46 rv0 S.rr.length (rwCells S.rr) /\ EnsS w (.slice ta l.length (lc - 1)) l := by
      refine ⟨?_, rowS_rwf HP7.out.left.1 hw.undrew.1 HL7.out (by decide)⟩;have := HP7.out.rr;rw [show (({ S with left := l } : Pl).rr) = [] from HRr.out] at this;rw [HRr.out];exact rowS_none this
     have hlw : bs <= w.heap.size := Nat.le_trans HL7.out hw.undrew.1.1;have c15 := hBw.cell 15 (by simp [plCells]);simp only [plCells, List.getElem_cons_zero, List.getElem_cons_succ] at c15;have z15 := hBw.free 15;have HBw := keep hBw;have HPw := keep hPw;have HSw := keep hsw;have HLw := keep hlw;clear hw h43 h54 hsw hBw hPw hlw;go_upto_region 6 with fail;obtain ⟨w9, hw9⟩ : ∃ w9, w9 = w.setCell ⟨pb, 15, none⟩ (.slice na rs.length nc) := ⟨_, rfl⟩;rw [<- hw9];have h9 : Blk w9 pb 111 (plCells { S with left := l, rows := rs } (stageV pb S.st) rv0 (.slice na rs.length nc) (.slice ta l.length (lc - 1))) /\ OwnR bs w9 (.slice na rs.length nc) rs /\ PlT bs pb w9 { S with left := l, rows := rs } /\ Sel bs pb w4 w9 := by
      have kk := (But.refl pb w).setCell 15 (.slice na rs.length nc);have hB' := HBw.out.set 15 (.slice na rs.length nc);have hO' := owns_but HOn kk (plan_own_ne HOn HBw.out (by decide));subst hw9;exact ⟨hB', hO', ⟨Nat.le_trans HLw.out kk.size, rv0, _, _, hB', ⟨rowS_typ HPw.out.1 kk HBw.out (by decide), hO', ⟨rowS_typ HPw.out.2 kk HBw.out (by decide), HP7.out.left.2⟩, fun h => absurd h HRne.out⟩⟩, HSw.out.trans (Sel.but kk HBw.out (.inl ⟨rfl, rfl⟩) HLw.out)⟩
     obtain ⟨hB9, hO9, hT9, hS9⟩ := h9;have HO9 := keep hO9;have HT9 := keep hT9;have HS9 := keep hS9;clear c15 z15 hw9 hO9 hT9 hS9 HOn;have c4 := hB9.cell 4 (by simp [plCells]);have c15 := hB9.cell 15 (by simp [plCells]);simp only [plCells, List.getElem_cons_zero, List.getElem_cons_succ] at c4 c15;have hgd := fun (n : Nat) => (below_drewN (Grow.refl w9) n)
     clear hB9
     by_cases hn : (rs.length : Int) = S.n
     ·have en9 : ((rs.length : Int) == S.n) = true := by simpa using hn
      have HR5 := keep (show ({ S with left := l, rows := rs } : Pl).fin 0 false [] rs = R by have h := HR5.out; rw [if_pos hn] at h; exact h);clear hn;go_quiet (fail);have HO9d := keep (owns_fits HO9.out (hgd nq));have HT9d := keep (HT9.out.fits (hgd nq));have HS9d := keep (HS9.out.trans (Sel.of_grow HT9.out.low (hgd nq)));have c15d : (w9.drewN nq).cell? ⟨pb, 15, none⟩ = some (.slice na rs.length nc) := c15;generalize w9.drewN nq = wd at *;clear c4 c15 hgd;have hen := end_any bs pb { S with left := l, rows := rs } 0 false [] (.slice na rs.length nc) rs wd (HT9d.out.fits (Grow.refl wd)) (own_rowO HO9d.out);rw [HR5.out] at hen;unfold rpV PlPost at hen
      try rw [str_nilS] at hen
      have HEn := keep hen;have HGn := keep (Grow.refl wd);clear hen;go_wp2_with fail;refine HEn.out.mono ?_;rintro x wn ⟨rfl, h1, h2⟩;have HTn := keep h1;have HSn := keep (Sel.trans HS9d.out h2);clear h1 h2 HEn;have HSn0 := keep (HS4.out.trans HSn.out);have HRx := keep (HR4.out.sel HSn.out (by decide) (by decide));unfold zC at HRx;go_wp2_with ((refine wpList_store_rec rfl _ _ rfl (w_.heap.size + 2) _ rfl rfl HRx.out rfl rfl rfl ?_); intro wz hset hbz; have Hset := keep hset; have Hbut := keep hbz; clear hset hbz);refine bodyPost_ret (v := .tuple #[rdV noRd (.slice none 0 0), .bool false]) ?_ rfl ?_
      ·exact inspect_res _ _ _ _ noRd _ rfl rfl Hset.out
      ·exact st_zero HTn.out HSn0.out Hbut.out (by omega) HRx.out HT.out.low
     ·have en9 : ((rs.length : Int) == S.n) = false := by simpa using hn
      have HR5 := keep (show ({ S with left := l, rows := rs } : Pl).next = R by have h := HR5.out; rw [if_neg hn] at h; exact h);clear hn;go_quiet (fail);have HT9d := keep (HT9.out.fits (hgd nq));have HS9d := keep (HS9.out.trans (Sel.of_grow HT9.out.low (hgd nq)));generalize w9.drewN nq = wd at *;clear c4 c15 hgd;have hnx := plnext_any bs pb { S with left := l, rows := rs } wd (HT9d.out.fits (Grow.refl wd));rw [HR5.out] at hnx;unfold PlPost at hnx;have HNx := keep hnx;have HGn := keep (Grow.refl wd);clear hnx;go_wp2_with fail;refine HNx.out.mono ?_;rintro x wn ⟨rfl, h1, h2⟩;have HTn := keep h1;have HSn := keep (Sel.trans HS9d.out h2);clear h1 h2 HNx;have HSn0 := keep (HS4.out.trans HSn.out);have HRx := keep (HR4.out.sel HSn.out (by decide) (by decide));unfold zC at HRx;go_wp2_with ((refine wpList_store_rec rfl _ _ rfl (w_.heap.size + 2) _ rfl rfl HRx.out rfl rfl rfl ?_); intro wz hset hbz; have Hset := keep hset; have Hbut := keep hbz; clear hset hbz);refine bodyPost_ret (v := .tuple #[rdV noRd (.slice none 0 0), .bool false]) ?_ rfl ?_
      ·exact inspect_res _ _ _ _ noRd _ rfl rfl Hset.out
      ·exact st_zero HTn.out HSn0.out Hbut.out (by omega) HRx.out HT.out.low
end Go.Proofs.YtcdapdcablnhpaaGreat
namespace Go.Proofs.YtcdapdcablnhpaaGreat
open Go.RowKit
theorem find_hit {l : List (List UInt8)} {k : Nat} (hk : k < l.length) (h1 : ∀ y ∈ l.take k, y ≠ []) (h2 : l[k] = []) : l.findIdx (·.isEmpty) = k := by
 rw [List.findIdx_eq hk];refine ⟨by rw [h2]; rfl, fun j hj => ?_⟩;have h3 := h1 l[j] (List.mem_take_iff_getElem.2 ⟨j, by omega, rfl⟩);cases hq : l[j] with
 | nil => exact absurd hq h3
 | cons => rfl
theorem find_none {l : List (List UInt8)} (h1 : ∀ y ∈ l, y ≠ []) : l.findIdx (·.isEmpty) = l.length := by
 refine List.findIdx_eq_length_of_false fun y hy => ?_
 cases hq : y with
 | nil => exact absurd hq (h1 y hy)
 | cons => rfl
set_option maxRecDepth 100000 in
set_option maxHeartbeats 2000000 in
theorem sfind_any (l : List (List UInt8)) (v : Value) (w : World) (hv : Items w v l) (hlen : (l.length : Int) <= 140737488355328) :
  Calls Tryz.prog 200 #[v, .string ⟨#[]⟩] w fun e w' => e = .returned (.int .i64 (if l.findIdx (·.isEmpty) < l.length then (l.findIdx (·.isEmpty) : Int) else -1)) /\ Below w.heap.size w w' := by
 obtain ⟨a, cap, rfl⟩ := items_form hv;obtain ⟨R, hR⟩ : ∃ R : Int, (if l.findIdx (·.isEmpty) < l.length then (l.findIdx (·.isEmpty) : Int) else -1) = R := ⟨_, rfl⟩;rw [hR];have HR := keep hR;have HV := keep hv;clear hv hR;go_enter Tryz.func200, Tryz.ntmps200;go_wp2_with fail;go_loop [8] (fun i => ∃ k : Nat, k <= l.length /\ i = .int .i64 k /\ Kept (∀ y ∈ l.take k, y ≠ [])) (fun i => l.length - (intOf i).toNat)
 case atStart => exact ⟨0, Nat.zero_le _, rfl, keep (by simp)⟩
 case round =>
  obtain ⟨k, hk, rfl, hall⟩ := hrel
  by_cases hlt : k < l.length
  ·obtain ⟨c, off, cap2, e5, hc⟩ := item_cell HV.out hlt;simp only [Value.slice.injEq] at e5;obtain ⟨rfl, -, rfl⟩ := e5;have q0 := hc w (Grow.refl _);have htake : l.take (k + 1) = l.take k ++ [l[k]] := by rw [List.take_succ_eq_append_getElem hlt]
   have hhit := fun h => find_hit hlt hall.out h
   generalize l[k] = y at *;have HH := keep hhit;have HT := keep htake;clear hhit htake hc;cases y with
   | nil =>
    have hRR : R = k := by
     rw [<- HR.out, HH.out rfl, if_pos hlt]
    clear hall HT HH;rw [show str [] = ⟨#[]⟩ from rfl] at q0;go_wp2_with fail;go_ret;exact ⟨rfl, Below.refl _ _⟩
   | cons y0 yr =>
    have e1 : (str (y0 :: yr)).toList.isEmpty = false := by rw [str_list]; rfl
    go_wp2_with fail;go_round
    case rel =>
     refine ⟨k + 1, by omega, by go_num, keep ?_⟩;rw [HT.out];intro z hz;rcases List.mem_append.mp hz with hz | hz
     ·exact hall.out z hz
     ·simp at hz; rw [hz]; simp
    case measure => simp [intOf]; omega
  ·have e : l.take k = l := List.take_of_length_le (by omega);have hn := find_none (l := l) (by have := hall.out; rw [e] at this; exact this);have hRR : R = -1 := by rw [<- HR.out, hn, if_neg (by omega)]
   clear hn e hall;go_wp2_with fail;go_ret;exact ⟨rfl, Below.refl _ _⟩
attribute [local go_sem] givesV lookV knAt hgs
set_option maxRecDepth 100000 in
set_option maxHeartbeats 2000000 in
theorem tslot_any (P : Pg) (iv : Value) (w_ : World) (hin : PgIn w_ iv P) :
  Calls Tryz.prog 148 #[pgV P iv] w_ fun x w' => x = .returned (.int .i64 (slotS P)) /\ Below w_.heap.size w_ w' := by
 obtain ⟨w0, hw0⟩ : ∃ w0, w0 = w_.alloc (.cells (pgCells P iv).toArray 28) := ⟨_, rfl⟩;have hg0 : Grow w_ w0 := by subst hw0; exact (Grow.refl w_).alloc _
 have hP0 : Blk w0 w_.heap.size 28 (pgCells P iv) := by subst hw0; exact Blk.new w_ _ _
 have hix := fun (u : World) (hu : Grow w0 u) => sfind_any P.items iv u (Row.fits hin.1 (Grow.trans hg0 hu)) hin.2.2.2.1
 obtain ⟨ia, ic, rfl⟩ := items_form hin.1;obtain ⟨I, hI⟩ : ∃ I : Int, (if P.items.findIdx (·.isEmpty) < P.items.length then (P.items.findIdx (·.isEmpty) : Int) else -1) = I := ⟨_, rfl⟩;rw [hI] at hix;have hs : (0 <= I /\ I = slotS P) \/ (I = -1 /\ slotS P = P.items.length) := by
  rw [<- hI];unfold slotS;have hle := List.findIdx_le_length (xs := P.items) (p := (·.isEmpty))
  by_cases h : P.items.findIdx (·.isEmpty) < P.items.length
  ·rw [if_pos h]; exact .inl ⟨by omega, rfl⟩
  ·rw [if_neg h]; exact .inr ⟨rfl, by omega⟩
 generalize slotS P = Z at *;have HIx := keep hix;have HP0 := keep (fun (u : World) (hu : Grow w0 u) => hP0.fits hu);have HG0 := keep hg0;clear hix hI hin hg0;unfold pgCells at hw0 hP0 HP0;obtain ⟨p0, p1, p2, p3, p4, p5, _⟩ := pgres hP0;clear hP0;unfold pgV;go_enter Tryz.func148, Tryz.ntmps148;go_upto_region 1 with fail;rw [<- hw0];clear hw0;refine rgv 4 (by kernel_rfl) (by kernel_rfl) rfl rfl ?_;intro a0 ha0;have hsz : a0.tmps.size = 14 := (size_at ha0).trans rfl;have s1 := slot_at ha0 1 rfl;have HA0 := keep ha0;clear ha0;apply lxv hsz Grow.refl (by kernel_rfl) rfl
 ·intro xs w hw K hK;go_simp;exact hK
 apply lxv hsz Grow.refl (by kernel_rfl) rfl
 ·intro xs w hw K hK;obtain ⟨p0, p1, p2, p3, p4, p5, _⟩ := pgres (HP0.out w hw.undrew);go_simp;exact hK
 apply lxe hsz [] (by kernel_rfl) rfl
 ·intro xs w hw hp K hK;go_simp;exact (free_any w).mono fun e w' h => ⟨_, h.1, hK _ (h.2 ▸ Grow.refl _)⟩
 apply lxe hsz [] (by kernel_rfl) rfl
 ·intro xs w hw hp K hK;go_simp;exact (HIx.out w hw.undrew).mono fun e w' h => ⟨_, h.1, hK _ h.2⟩
 refine rgd [] (by kernel_rfl) rfl ?_;intro xs w hw hp;have ha0 := HA0.out;clear HA0 hsz s1;clear hp;subst ha0;simp only [putV];have HG := keep (Grow.trans HG0.out hw.undrew);obtain ⟨p0, p1, p2, p3, p4, p5, _⟩ := pgres (HP0.out w hw.undrew);clear hw HIx HP0;rcases hs with ⟨h1, rfl⟩ | ⟨rfl, rfl⟩
 ·have e1 : decide (0 <= (Z : Int)) = true := decide_eq_true h1;go_wp2_with fail;go_ret;exact ⟨rfl, HG.out⟩
 ·go_wp2_with fail;go_ret;exact ⟨rfl, HG.out⟩
def withN (P : Pg) (i : Int) (x : List UInt8) : Pg × Int := if 0 <= i /\ i < P.items.length then turnedN P (P.items.set i.toNat x) else (zeroP, 1)
set_option maxRecDepth 100000 in
set_option maxHeartbeats 4000000 in
theorem with_any (P : Pg) (iv : Value) (i : Int) (x : List UInt8) (w_ : World) (hin : PgIn w_ iv P) (hx : (x.length : Int) <= 140737488355328) (hl : P.items.length <= 8796093021980) :
  Calls Tryz.prog 202 #[pgV P iv, .int .i64 i, .string (str x)] w_ (PgPost (withN P i x).1 (withN P i x).2 w_) := by
 obtain ⟨w0, hw0⟩ : ∃ w0, w0 = (w_.alloc (.cells (pgCells P iv).toArray 28)).alloc (.cells #[.int .i64 0, .int .i64 0, .int .i64 0, .int .i64 0, .string ⟨#[]⟩, .slice none 0 0] 28) := ⟨_, rfl⟩;have hg0 : Grow w_ w0 := by subst hw0; exact ((Grow.refl w_).alloc _).alloc _
 have hP0 : Blk w0 w_.heap.size 28 (pgCells P iv) := by subst hw0; exact (Blk.new w_ _ _).alloc _
 have hR0 : Blk w0 (w_.heap.size + 1) 28 [.int .i64 0, .int .i64 0, .int .i64 0, .int .i64 0, .string ⟨#[]⟩, .slice none 0 0] := by
  have := Blk.new (w_.alloc (.cells (pgCells P iv).toArray 28)) 28 [.int .i64 0, .int .i64 0, .int .i64 0, .int .i64 0, .string ⟨#[]⟩, .slice none 0 0];have e : (w_.alloc (.cells (pgCells P iv).toArray 28)).heap.size = w_.heap.size + 1 := by simp
  rw [e] at this;subst hw0; exact this
 have hcl := clone_any iv P.items w0 (Row.fits hin.1 hg0) (by omega);obtain ⟨ia, ic, rfl⟩ := items_form hin.1;obtain ⟨R, hR⟩ : ∃ R, withN P i x = R := ⟨_, rfl⟩;rw [hR];have HIn := keep hin;have HX := keep hx;have HR := keep hR;have HG0 := keep hg0;have HR0 := keep hR0;have HP0 := keep hP0;have HCl := keep hcl;clear hin hx hR hg0 hcl;unfold pgCells at hw0 hP0;obtain ⟨p0, p1, p2, p3, p4, p5, _⟩ := pgres hP0;obtain ⟨r0, r1, r2, r3, r4, r5, z0, z1, z2, z3, z4, z5⟩ := pgres hR0;clear hP0 hR0;unfold pgV;go_enter Tryz.func202, Tryz.ntmps202;go_upto_region 1 with fail;rw [<- hw0];clear hw0
 by_cases h2 : 0 <= i /\ i < P.items.length
 ·obtain ⟨h3, h4⟩ := h2;obtain ⟨k, rfl⟩ := Int.eq_ofNat_of_zero_le h3;have hk : k < P.items.length := by omega
  have e1 : decide ((k : Int) < 0) = false := decide_eq_false (by omega);have e2 : decide (P.items.length <= k) = false := decide_eq_false (by omega);have hr : turnedN P (P.items.set k x) = R := by rw [<- HR.out]; unfold withN; rw [if_pos ⟨by omega, by omega⟩, Int.toNat_natCast]
  have hsl : ∀ y ∈ P.items.set k x, (y.length : Int) <= 140737488355328 := by
   intro y hy;rcases List.mem_or_eq_of_mem_set hy with h | rfl
   ·exact HIn.out.2.1 y h
   ·exact HX.out
  have ht := fun (u : World) (v : Value) (hv : ItemsC u v (P.items.set k x)) => pturned_any P ia P.items.length ic v (P.items.set k x) u hv hsl HIn.out.2.2.1 (by rw [List.length_set]; exact HIn.out.2.2.2.1)
  rw [hr] at ht;unfold PgPost pgV at ht;have HT := keep ht;have hpos : 0 < P.items.length := by omega
  clear h3 h4 hr hsl ht;go_wp2_with fail;refine HCl.out.mono ?_;rintro y w1 ⟨v', rfl, ho, hb1⟩;have ho : OwnS w0.heap.size w1 v' P.items := ho;obtain ⟨a', c', rfl⟩ := ho.form;obtain ⟨g, rfl, hg, hcs⟩ := own_some ho hpos;obtain ⟨q0, q1⟩ := hcs k hk;have HO := keep ho;have HG1 := keep hb1;have hne : g ≠ w_.heap.size := by have := HP0.out.lt; omega
  have HHg := keep hg;clear p0 p1 p2 p3 p4 p5 r0 r1 r2 r3 r4 r5 z0 z1 z2 z3 z4 z5 hcs ho hb1 hg HCl;go_upto_region 5 with fail;obtain ⟨w2, hw2⟩ : ∃ w2, w2 = w1.setCell ⟨g, k, none⟩ (.string (str x)) := ⟨_, rfl⟩;rw [<- hw2];have hO2 := own_set HO.out hk x;have hb2 : Below w0.heap.size w0 w2 := by
   subst hw2;exact But.below HG1.out ((But.refl g w1).setCell k (.string (str x))) HHg.out HG1.out.size
  rw [<- hw2] at hO2;have HG2 := keep hb2;have HI2 := keep hO2.items;have hP2 := HP0.out.fits hb2;have hR2 := HR0.out.fits hb2;unfold pgCells at hP2;obtain ⟨p0, p1, p2, p3, p4, p5, _⟩ := pgres hP2;have HR2 := keep hR2;have HT2 := keep (HT.out w2 _ HI2.out);clear hw2 hO2 hb2 hP2 hR2 q0 q1 hne HT;obtain ⟨R1, R2⟩ := R;go_wp2_with fail;refine HT2.out.mono ?_;rintro y w3 ⟨jv, rfl, hj, hb3⟩;obtain ⟨ja, jc, rfl⟩ := itemsS_form hj.1;have HJ := keep hj;have hR3 := HR2.out.fits hb3;have HR3 := keep hR3;have HG3 := keep (Grow.trans HG0.out (Grow.trans HG2.out hb3));obtain ⟨r0, r1, r2, r3, r4, r5, z0, z1, z2, z3, z4, z5⟩ := pgres hR3;have Hset := keep (pgset hR3 (.int .i64 R1.lsn) (.int .i64 R1.kind) (.int .i64 R1.level) (.int .i64 R1.right) (.string (str R1.high)) (.slice ja R1.items.length jc));have Hbut := keep (pgbut w3 (w_.heap.size + 1) (.int .i64 R1.lsn) (.int .i64 R1.kind) (.int .i64 R1.level) (.int .i64 R1.right) (.string (str R1.high)) (.slice ja R1.items.length jc));clear p0 p1 p2 p3 p4 p5 hb3 hR3 hj HT2;dsimp only;go_wp2_with fail;refine bodyPost_ret (v := .tuple #[pgV R1 (.slice ja R1.items.length jc), .int .i64 R2]) ?_ rfl ⟨_, rfl, itemsC_but HJ.out Hbut.out HR3.out (by decide), But.below HG3.out Hbut.out (by omega) HG3.out.size⟩;obtain ⟨s0, s1, s2, s3, s4, s5, _⟩ := pgres Hset.out;clear r0 r1 r2 r3 r4 r5 z0 z1 z2 z3 z4 z5;simp [results, Tryz.results202, go_sem, s0, s1, s2, s3, s4, s5, pgV]
 ·have hr : R = (zeroP, 1) := by rw [<- HR.out]; unfold withN; rw [if_neg h2]
  have HRR := keep hr;have hc : (decide (i < 0) = true) \/ (decide (i < 0) = false /\ decide ((P.items.length : Int) <= i) = true) := by
   by_cases h0 : i < 0
   ·exact .inl (decide_eq_true h0)
   ·refine .inr ⟨decide_eq_false h0, decide_eq_true ?_⟩;rcases Decidable.em ((P.items.length : Int) <= i) with h | h
    ·exact h
    ·exact absurd ⟨by omega, by omega⟩ h2
  clear h2 hr HCl;have Hset := keep (pgset HR0.out (.int .i64 0) (.int .i64 0) (.int .i64 0) (.int .i64 0) (.string ⟨#[]⟩) (.slice none 0 0));have Hbut := keep (pgbut w0 (w_.heap.size + 1) (.int .i64 0) (.int .i64 0) (.int .i64 0) (.int .i64 0) (.string ⟨#[]⟩) (.slice none 0 0));rcases hc with e1 | ⟨e1, e2⟩
  all_goals
   go_wp2_with fail;refine bodyPost_ret (v := .tuple #[pgV zeroP (.slice none 0 0), .int .i64 1]) ?_ rfl ⟨_, by rw [HRR.out], by rw [HRR.out]; exact ItemsC.nil _, But.below HG0.out Hbut.out (by omega) HG0.out.size⟩;obtain ⟨s0, s1, s2, s3, s4, s5, _⟩ := pgres Hset.out;clear p0 p1 p2 p3 p4 p5 r0 r1 r2 r3 r4 r5 z0 z1 z2 z3 z4 z5;simp [results, Tryz.results202, go_sem, s0, s1, s2, s3, s4, s5, pgV, zeroP]
   try rfl
end Go.Proofs.YtcdapdcablnhpaaGreat
namespace Go.Proofs.YtcdapdcablnhpaaGreat
open Go.RowKit
def hlayN (P : Pg) (slot : Int) (item : List UInt8) : Pg × Int := if slot = P.items.length then putN P P.items.length item else withN P slot item
theorem hlay_code (P : Pg) (slot : Int) (item : List UInt8) : (hlayN P slot item).2 = 0 ↔ layB P slot item = true := by
 unfold hlayN layB
 by_cases h : slot = P.items.length
 ·rw [if_pos h, if_pos h];unfold putN turnedN;rw [List.take_length, List.drop_length]
  split <;> simp_all
 ·rw [if_neg h, if_neg h];unfold withN
  by_cases h2 : 0 <= slot /\ slot < P.items.length
  ·rw [if_pos h2];unfold turnedN
   split <;> simp_all
  ·rw [if_neg h2];simp [h2]
set_option maxRecDepth 100000 in
set_option maxHeartbeats 4000000 in
theorem hlay_any (P : Pg) (iv : Value) (slot : Int) (x : List UInt8) (w_ : World) (hin : PgIn w_ iv P) (hx : (x.length : Int) <= 140737488355328) (hl : P.items.length <= 8796093021980) :
  Calls Tryz.prog 149 #[pgV P iv, .int .i64 slot, .string (str x)] w_ (PgPost (hlayN P slot x).1 (hlayN P slot x).2 w_) := by
 obtain ⟨w0, hw0⟩ : ∃ w0, w0 = (w_.alloc (.cells (pgCells P iv).toArray 28)).alloc (.cells #[.int .i64 0, .int .i64 0, .int .i64 0, .int .i64 0, .string ⟨#[]⟩, .slice none 0 0] 28) := ⟨_, rfl⟩;have hg0 : Grow w_ w0 := by subst hw0; exact ((Grow.refl w_).alloc _).alloc _
 have hP0 : Blk w0 w_.heap.size 28 (pgCells P iv) := by subst hw0; exact (Blk.new w_ _ _).alloc _
 have hR0 : Blk w0 (w_.heap.size + 1) 28 [.int .i64 0, .int .i64 0, .int .i64 0, .int .i64 0, .string ⟨#[]⟩, .slice none 0 0] := by
  have := Blk.new (w_.alloc (.cells (pgCells P iv).toArray 28)) 28 [.int .i64 0, .int .i64 0, .int .i64 0, .int .i64 0, .string ⟨#[]⟩, .slice none 0 0];have e : (w_.alloc (.cells (pgCells P iv).toArray 28)).heap.size = w_.heap.size + 1 := by simp
  rw [e] at this;subst hw0; exact this
 have hin0 := hin.fits hg0;have hput := put_any P iv P.items.length x w0 hin0.1 (Nat.le_refl _) hin0.2.1 hx hin0.2.2.1 hl;have hwi := with_any P iv slot x w0 hin0 hx hl;obtain ⟨ia, ic, rfl⟩ := items_form hin.1;obtain ⟨R, hR⟩ : ∃ R, hlayN P slot x = R := ⟨_, rfl⟩;rw [hR];have HR := keep hR;have HG0 := keep hg0;have HR0 := keep hR0;clear hin hin0 hR hg0 hR0 hx;unfold pgCells at hw0 hP0;obtain ⟨p0, p1, p2, p3, p4, p5, _⟩ := pgres hP0;clear hP0;obtain ⟨R1, R2⟩ := R;unfold pgV;go_enter Tryz.func149, Tryz.ntmps149;go_upto_region 1 with fail;rw [<- hw0];clear hw0
 by_cases hs : slot = P.items.length
 ·subst hs;have hr : putN P P.items.length x = (R1, R2) := by rw [<- HR.out]; unfold hlayN; rw [if_pos rfl]
  rw [hr] at hput;unfold PgPost pgV at hput;dsimp only at hput;have HCa := keep hput;clear hput hwi hr;go_wp2_with fail;refine (HCa.out).mono ?_;rintro y w3 ⟨jv, rfl, hj, hb3⟩;obtain ⟨ja, jc, rfl⟩ := itemsS_form hj.1;have HJ := keep hj;have hR3 := HR0.out.fits hb3;have HR3 := keep hR3;have HG3 := keep (Grow.trans HG0.out hb3);obtain ⟨r0, r1, r2, r3, r4, r5, z0, z1, z2, z3, z4, z5⟩ := pgres hR3;have Hset := keep (pgset hR3 (.int .i64 R1.lsn) (.int .i64 R1.kind) (.int .i64 R1.level) (.int .i64 R1.right) (.string (str R1.high)) (.slice ja R1.items.length jc));have Hbut := keep (pgbut w3 (w_.heap.size + 1) (.int .i64 R1.lsn) (.int .i64 R1.kind) (.int .i64 R1.level) (.int .i64 R1.right) (.string (str R1.high)) (.slice ja R1.items.length jc));clear p0 p1 p2 p3 p4 p5 hb3 hR3 hj HCa;go_wp2_with fail;refine bodyPost_ret (v := .tuple #[pgV R1 (.slice ja R1.items.length jc), .int .i64 R2]) ?_ rfl ⟨_, rfl, itemsC_but HJ.out Hbut.out HR3.out (by decide), But.below HG3.out Hbut.out (by omega) HG3.out.size⟩;obtain ⟨s0, s1, s2, s3, s4, s5, _⟩ := pgres Hset.out;clear r0 r1 r2 r3 r4 r5 z0 z1 z2 z3 z4 z5;simp [results, Tryz.results149, go_sem, s0, s1, s2, s3, s4, s5, pgV]
 ·have e1 : (slot == (P.items.length : Int)) = false := by simpa using hs
  have hr : withN P slot x = (R1, R2) := by rw [<- HR.out]; unfold hlayN; rw [if_neg hs]
  rw [hr] at hwi;unfold PgPost pgV at hwi;dsimp only at hwi;have HCa := keep hwi;clear hput hwi hr hs;go_wp2_with fail;refine (HCa.out).mono ?_;rintro y w3 ⟨jv, rfl, hj, hb3⟩;obtain ⟨ja, jc, rfl⟩ := itemsS_form hj.1;have HJ := keep hj;have hR3 := HR0.out.fits hb3;have HR3 := keep hR3;have HG3 := keep (Grow.trans HG0.out hb3);obtain ⟨r0, r1, r2, r3, r4, r5, z0, z1, z2, z3, z4, z5⟩ := pgres hR3;have Hset := keep (pgset hR3 (.int .i64 R1.lsn) (.int .i64 R1.kind) (.int .i64 R1.level) (.int .i64 R1.right) (.string (str R1.high)) (.slice ja R1.items.length jc));have Hbut := keep (pgbut w3 (w_.heap.size + 1) (.int .i64 R1.lsn) (.int .i64 R1.kind) (.int .i64 R1.level) (.int .i64 R1.right) (.string (str R1.high)) (.slice ja R1.items.length jc));clear p0 p1 p2 p3 p4 p5 hb3 hR3 hj HCa;go_wp2_with fail;refine bodyPost_ret (v := .tuple #[pgV R1 (.slice ja R1.items.length jc), .int .i64 R2]) ?_ rfl ⟨_, rfl, itemsC_but HJ.out Hbut.out HR3.out (by decide), But.below HG3.out Hbut.out (by omega) HG3.out.size⟩;obtain ⟨s0, s1, s2, s3, s4, s5, _⟩ := pgres Hset.out;clear r0 r1 r2 r3 r4 r5 z0 z1 z2 z3 z4 z5;simp [results, Tryz.results149, go_sem, s0, s1, s2, s3, s4, s5, pgV]
end Go.Proofs.YtcdapdcablnhpaaGreat
