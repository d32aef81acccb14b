import Derived.Test.YtcdapdcablnhpaaGreatKSe2
import Derived.Laws.EntriesVeiled
import Derived.Test.YtcdapdcablnhpaaGreatKBl1
import Derived.Test.YtcdapdcablnhpaaGreatKLexn
import Derived.Test.YtcdapdcablnhpaaGreatKCg2
namespace Go.Proofs.YtcdapdcablnhpaaGreat
open Go.RowKit
def stageV (pb st : Nat) : Value := match st with
 | 1 => .func (.func 92) #[.pointer (some ⟨pb, 0, none⟩)] #[]
 | 2 => .func (.func 143) #[.pointer (some ⟨pb, 0, none⟩)] #[]
 | 3 => .func (.func 222) #[.pointer (some ⟨pb, 0, none⟩)] #[]
 | 4 => .func (.func 223) #[.pointer (some ⟨pb, 0, none⟩)] #[]
 | 5 => .func (.func 53) #[.pointer (some ⟨pb, 0, none⟩)] #[]
 | 6 => .func (.func 102) #[.pointer (some ⟨pb, 0, none⟩)] #[]
 | _ => .nilFunc
structure PlR (bs : Nat) (w : World) (S : Pl) (rv ov lv : Value) : Prop where
 rr : RowS w 46 rv S.rr.length (rwCells S.rr)
 rows : OwnR bs w ov S.rows
 left : EnsS w lv S.left /\ Capd lv
 none : S.rows = [] -> ov = .slice none 0 0
structure PlT (bs pb : Nat) (w : World) (S : Pl) : Prop where
 low : bs <= w.heap.size
 tab : ∃ rv ov lv, Blk w pb 111 (plCells S (stageV pb S.st) rv ov lv) /\ PlR bs w S rv ov lv
theorem PlR.fits {bs : Nat} {w w' : World} {S : Pl} {rv ov lv : Value} (h : PlR bs w S rv ov lv) (g : Grow w w') : PlR bs w' S rv ov lv := ⟨RowS.fits h.rr g, owns_fits h.rows g, ⟨RowS.fits h.left.1 g, h.left.2⟩, h.none⟩
theorem PlT.fits {bs pb : Nat} {w w' : World} {S : Pl} (h : PlT bs pb w S) (g : Grow w w') : PlT bs pb w' S := by
 obtain ⟨rv, ov, lv, h1, h2⟩ := h.tab;exact ⟨Nat.le_trans h.low g.size, rv, ov, lv, h1.fits g, h2.fits g⟩
theorem plan_own_ne {w : World} {b e s n c : Nat} {v : Value} {xs cs : List Value} (h : w.ownsRow b e s v n xs) (hb : Blk w c 111 cs) (ht : 111 ≠ e) : v.ownBlock ≠ some c := by
 rcases h.2 with ⟨h0, _⟩ | ⟨g, cap, cur, h0, _, hh, _⟩
 ·rw [h0]; exact fun h => by cases h
 ·rw [h0];intro e;have e9 : g = c := Option.some.inj e;subst e9;unfold Blk at hb;rw [hh] at hb;cases hb
  exact ht rfl
theorem PlR.but {bs pb : Nat} {w w' : World} {S : Pl} {rv ov lv : Value} {cs : List Value} (h : PlR bs w S rv ov lv) (k : But pb w w') (hb : Blk w pb 111 cs) : PlR bs w' S rv ov lv := by
 refine ⟨h.rr.but k ?_, owns_but h.rows k (plan_own_ne h.rows hb (by decide)), ⟨h.left.1.but k ?_, h.left.2⟩, h.none⟩
 ·intro blk f hc;unfold Blk at hb;rw [hb] at hc;simp at hc
 ·intro blk f hc;unfold Blk at hb;rw [hb] at hc;simp at hc
set_option maxRecDepth 100000 in
set_option maxHeartbeats 2000000 in
theorem writes_any (bs pb : Nat) (S : Pl) (w_ : World) (h : PlT bs pb w_ S) :
  Calls Tryz.prog 46 #[.pointer (some ⟨pb, 0, none⟩)] w_ fun x w' => x = .returned (.bool S.writes) /\ Below w_.heap.size w_ w' := by
 obtain ⟨rv, ov, lv, hB, -⟩ := h.tab;have c0 := hB.cell 0 (by simp [plCells]);simp only [plCells, List.getElem_cons_zero] at c0;obtain ⟨R, hR⟩ : ∃ R, S.writes = R := ⟨_, rfl⟩;have hr : R = ((S.call == 3) || (S.call == 4)) := by
  rw [<- hR];unfold Pl.writes;rw [Bool.eq_iff_iff];simp
 rw [hR];have HR := keep hr;clear hR hr hB h;go_enter Tryz.func46, Tryz.ntmps46;cases h3 : (S.call == 3) with
 | true =>
  go_wp2_with fail;go_ret;exact ⟨by rw [HR.out, h3]; rfl, Below.refl _ _⟩
 | false =>
  go_wp2_with fail;go_ret;exact ⟨by rw [HR.out, h3]; rfl, Below.refl _ _⟩
def PlPost (bs pb : Nat) (S : Pl) (w : World) (x : Ending) (w' : World) : Prop := x = .returned (.tuple #[]) /\ PlT bs pb w' S /\ Sel bs pb w w'
set_option maxRecDepth 100000 in
set_option maxHeartbeats 2000000 in
theorem see_any (bs pb : Nat) (S : Pl) (p : Int) (st : Nat) (w_ : World) (h : PlT bs pb w_ S) :
  Calls Tryz.prog 52 #[.pointer (some ⟨pb, 0, none⟩), .int .i64 p, stageV pb st] w_ (PlPost bs pb (S.see p st) w_) := by
 obtain ⟨rv, ov, lv, hB, hP⟩ := h.tab;have HB := keep hB;have HP := keep hP;have HL := keep h.low;have c6 := hB.cell 6 (by simp [plCells]);have c7 := hB.cell 7 (by simp [plCells]);have c8 := hB.cell 8 (by simp [plCells]);have c9 := hB.cell 9 (by simp [plCells]);have c10 := hB.cell 10 (by simp [plCells]);simp only [plCells, List.getElem_cons_zero, List.getElem_cons_succ] at c6 c7 c8 c9 c10;have z6 := hB.free 6;have z7 := hB.free 7;have z8 := hB.free 8;have z9 := hB.free 9;have z10 := hB.free 10;obtain ⟨sv, hsv⟩ : ∃ sv, stageV pb st = sv := ⟨_, rfl⟩;have hfin : ∀ w', w' = ((((w_.setCell ⟨pb, 6, none⟩ (.int .i64 3)).setCell ⟨pb, 7, none⟩ (.string ⟨#[]⟩)).setCell ⟨pb, 8, none⟩ (.int .i64 0)).setCell ⟨pb, 9, none⟩ (.int .i64 p)).setCell ⟨pb, 10, none⟩ sv -> PlPost bs pb (S.see p st) w_ (.returned (.tuple #[])) w' := by
  rintro w' rfl;have k := (((((But.refl pb w_).setCell 6 (.int .i64 3)).setCell 7 (.string ⟨#[]⟩)).setCell 8 (.int .i64 0)).setCell 9 (.int .i64 p)).setCell 10 sv;have hB' := ((((hB.set 6 (.int .i64 3)).set 7 (.string ⟨#[]⟩)).set 8 (.int .i64 0)).set 9 (.int .i64 p)).set 10 sv;refine ⟨rfl, ⟨Nat.le_trans h.low k.size, rv, ov, lv, ?_, ?_⟩, Sel.but k hB (.inl ⟨rfl, rfl⟩) h.low⟩
  ·rw [show (S.see p st).st = st from rfl, hsv];exact hB'
  ·have h2 := hP.but k hB;exact ⟨h2.rr, h2.rows, h2.left, h2.none⟩
 rw [hsv];have HFin := keep hfin;have hsv2 : sv = .nilFunc \/ ∃ f, sv = .func (.func f) #[.pointer (some ⟨pb, 0, none⟩)] #[] := by
  rw [<- hsv];unfold stageV
  split
  all_goals first | exact .inl rfl | exact .inr ⟨_, rfl⟩
 clear hB hP h hsv hfin;rcases hsv2 with rfl | ⟨f, rfl⟩
 ·go_enter Tryz.func52, Tryz.ntmps52;go_wp2_with fail;refine bodyPost_ret (v := .tuple #[]) ?_ rfl (HFin.out _ rfl);simp [results, Tryz.results52, go_sem]
 ·go_enter Tryz.func52, Tryz.ntmps52;go_wp2_with fail;refine bodyPost_ret (v := .tuple #[]) ?_ rfl (HFin.out _ rfl);simp [results, Tryz.results52, go_sem]
def rpV (e : Int) (f : Bool) (v : List UInt8) (rv : Value) : Value := .agg #[.int .i64 e, .bool f, .string (str v), rv]
set_option maxRecDepth 100000 in
set_option maxHeartbeats 4000000 in
theorem end_any (bs pb : Nat) (S : Pl) (e : Int) (f : Bool) (v : List UInt8) (rw' : Value) (rs : List Rw) (w_ : World) (h : PlT bs pb w_ S) (hr : RowS w_ 46 rw' rs.length (rwCells rs)) :
  Calls Tryz.prog 54 #[.pointer (some ⟨pb, 0, none⟩), rpV e f v rw'] w_ (PlPost bs pb (S.fin e f v rs) w_) := by
 obtain ⟨ra, rn, rc, hrv⟩ : ∃ a n c, rw' = .slice a n c := by
  rcases hr with ⟨_, _, a, c, e⟩ | ⟨c, off, cap, blk, f, e, _⟩
  ·exact ⟨a, 0, c, e⟩
  ·exact ⟨_, _, _, e⟩
 obtain ⟨w0, hw0⟩ : ∃ w0, w0 = w_.alloc (.cells #[.int .i64 e, .bool f, .string (str v), rw'] 56) := ⟨_, rfl⟩;have hg0 : Grow w_ w0 := by subst hw0; exact (Grow.refl w_).alloc _
 have hR0 : Blk w0 w_.heap.size 56 [.int .i64 e, .bool f, .string (str v), rw'] := by subst hw0; exact Blk.new w_ _ [_, _, _, _]
 have h0 := h.fits hg0;obtain ⟨rv, ov, lv, hB, hP⟩ := h0.tab;have r0 := hR0.cell 0 (by simp);have r1 := hR0.cell 1 (by simp);have r2 := hR0.cell 2 (by simp);have r3 := hR0.cell 3 (by simp);simp only [List.getElem_cons_zero, List.getElem_cons_succ] at r0 r1 r2 r3;have c6 := hB.cell 6 (by simp [plCells]);have c7 := hB.cell 7 (by simp [plCells]);have c8 := hB.cell 8 (by simp [plCells]);have c9 := hB.cell 9 (by simp [plCells]);have c10 := hB.cell 10 (by simp [plCells]);have c11 := hB.cell 11 (by simp [plCells]);have c12 := hB.cell 12 (by simp [plCells]);have c13 := hB.cell 13 (by simp [plCells]);have c14 := hB.cell 14 (by simp [plCells]);simp only [plCells, List.getElem_cons_zero, List.getElem_cons_succ] at c6 c7 c8 c9 c10 c11 c12 c13 c14;have z6 := hB.free 6;have z7 := hB.free 7;have z8 := hB.free 8;have z9 := hB.free 9;have z10 := hB.free 10;have z11 := hB.free 11;have z12 := hB.free 12;have z13 := hB.free 13;have z14 := hB.free 14;have hlt := hB.lt;have hne : pb ≠ w_.heap.size := by
  rintro rfl;unfold Blk at hB hR0;rw [hB] at hR0;simp at hR0
 have hfin : ∀ w', w' = ((((((((w0.setCell ⟨pb, 6, none⟩ (.int .i64 4)).setCell ⟨pb, 7, none⟩ (.string ⟨#[]⟩)).setCell ⟨pb, 8, none⟩ (.int .i64 0)).setCell ⟨pb, 9, none⟩ (.int .i64 0)).setCell ⟨pb, 10, none⟩ .nilFunc).setCell ⟨pb, 11, none⟩ (.int .i64 e)).setCell ⟨pb, 12, none⟩ (.bool f)).setCell ⟨pb, 13, none⟩ (.string (str v))).setCell ⟨pb, 14, none⟩ rw' -> PlPost bs pb (S.fin e f v rs) w_ (.returned (.tuple #[])) w' := by
  rintro w' rfl;have k := (((((((((But.refl pb w0).setCell 6 (.int .i64 4)).setCell 7 (.string ⟨#[]⟩)).setCell 8 (.int .i64 0)).setCell 9 (.int .i64 0)).setCell 10 .nilFunc).setCell 11 (.int .i64 e)).setCell 12 (.bool f)).setCell 13 (.string (str v))).setCell 14 rw';have hB' := ((((((((hB.set 6 (.int .i64 4)).set 7 (.string ⟨#[]⟩)).set 8 (.int .i64 0)).set 9 (.int .i64 0)).set 10 .nilFunc).set 11 (.int .i64 e)).set 12 (.bool f)).set 13 (.string (str v))).set 14 rw';have h2 := hP.but k hB;refine ⟨rfl, ⟨Nat.le_trans h0.low k.size, rw', ov, lv, hB', ⟨?_, h2.rows, h2.left, h2.none⟩⟩, (Sel.of_grow h.low hg0).trans (Sel.but k hB (.inl ⟨rfl, rfl⟩) h0.low)⟩;refine (hr.fits hg0).but k ?_;intro blk f hc;unfold Blk at hB;rw [hB] at hc;simp at hc
 have HFin := keep hfin;subst hrv;clear hB hP h h0 hfin hr hg0 hR0;unfold rpV;go_enter Tryz.func54, Tryz.ntmps54;go_upto_region 1 with fail;rw [<- hw0];clear hw0;go_wp2_with fail;refine bodyPost_ret (v := .tuple #[]) ?_ rfl (HFin.out _ rfl);simp [results, Tryz.results54, go_sem]
theorem str_nilS : str [] = ⟨#[]⟩ := rfl
theorem rows_nilS (w : World) : RowS w 46 (.slice none 0 0) ([] : List Rw).length (rwCells []) := RowS.nil _ _ _ _
set_option maxRecDepth 100000 in
set_option maxHeartbeats 2000000 in
theorem odd_any (bs pb : Nat) (S : Pl) (w_ : World) (h : PlT bs pb w_ S) :
  Calls Tryz.prog 100 #[.pointer (some ⟨pb, 0, none⟩)] w_ (PlPost bs pb S.odd w_) := by
 have he := end_any bs pb S 60 false [] (.slice none 0 0) [] w_ h (rows_nilS _);unfold rpV at he;rw [str_nilS] at he;have HE := keep he;clear he h;unfold Pl.odd;unfold PlPost at HE;go_enter Tryz.func100, Tryz.ntmps100;go_wp2_with fail;refine HE.out.mono ?_;rintro x w1 ⟨rfl, h1, h2⟩;go_wp2_with fail;refine bodyPost_ret (v := .tuple #[]) ?_ rfl (show PlPost _ _ _ _ _ _ from ⟨rfl, h1, h2⟩);simp [results, Tryz.results100, go_sem]
set_option maxRecDepth 100000 in
set_option maxHeartbeats 2000000 in
theorem down_any (bs pb : Nat) (S : Pl) (st : Nat) (w_ : World) (h : PlT bs pb w_ S) :
  Calls Tryz.prog 91 #[.pointer (some ⟨pb, 0, none⟩), stageV pb st] w_ (PlPost bs pb (S.down st) w_) := by
 obtain ⟨rv, ov, lv, hB, hP⟩ := h.tab;have c16 := hB.cell 16 (by simp [plCells]);simp only [plCells, List.getElem_cons_zero, List.getElem_cons_succ] at c16;have z16 := hB.free 16;obtain ⟨w1, hw1⟩ : ∃ w1, w1 = w_.setCell ⟨pb, 16, none⟩ (.int .i64 0) := ⟨_, rfl⟩;have hT : PlT bs pb w1 { S with seen := 0 } /\ Sel bs pb w_ w1 := by
  have k := (But.refl pb w_).setCell 16 (.int .i64 0);have hB' := hB.set 16 (.int .i64 0);have h2 := hP.but k hB;subst hw1;exact ⟨⟨Nat.le_trans h.low k.size, rv, ov, lv, hB', ⟨h2.rr, h2.rows, h2.left, h2.none⟩⟩, Sel.but k hB (.inl ⟨rfl, rfl⟩) h.low⟩
 have hse := see_any bs pb { S with seen := 0 } 1 st w1 hT.1;have HSl := keep hT.2;unfold PlPost at hse;unfold Pl.down;obtain ⟨sv, hsv⟩ : ∃ sv, stageV pb st = sv := ⟨_, rfl⟩;have hsv2 : sv = .nilFunc \/ ∃ f, sv = .func (.func f) #[.pointer (some ⟨pb, 0, none⟩)] #[] := by
  rw [<- hsv];unfold stageV
  split
  all_goals first | exact .inl rfl | exact .inr ⟨_, rfl⟩
 rw [hsv] at hse ⊢;have HSe := keep hse;clear hsv hse hT hB hP h;rcases hsv2 with rfl | ⟨f, rfl⟩
 ·go_enter Tryz.func91, Tryz.ntmps91;go_upto_region 1 with fail;rw [<- hw1];clear hw1;go_wp2_with fail;refine HSe.out.mono ?_;rintro x w2 ⟨rfl, h1, h2⟩;go_wp2_with fail;refine bodyPost_ret (v := .tuple #[]) ?_ rfl (show PlPost _ _ _ _ _ _ from ⟨rfl, h1, HSl.out.trans h2⟩);simp [results, Tryz.results91, go_sem]
 ·go_enter Tryz.func91, Tryz.ntmps91;go_upto_region 1 with fail;rw [<- hw1];clear hw1;go_wp2_with fail;refine HSe.out.mono ?_;rintro x w2 ⟨rfl, h1, h2⟩;go_wp2_with fail;refine bodyPost_ret (v := .tuple #[]) ?_ rfl (show PlPost _ _ _ _ _ _ from ⟨rfl, h1, HSl.out.trans h2⟩);simp [results, Tryz.results91, go_sem]
set_option maxRecDepth 100000 in
set_option maxHeartbeats 2000000 in
theorem pllook_any (bs pb : Nat) (S : Pl) (w_ : World) (h : PlT bs pb w_ S) :
  Calls Tryz.prog 47 #[.pointer (some ⟨pb, 0, none⟩)] w_ (PlPost bs pb S.look w_) := by
 have hmf : ∀ (fn : Fn) (first cap : Array Value) (w : World), (Instr.makeFunc fn first cap).run Tryz.prog w = .ok (.func fn first cap) w := fun _ _ _ _ => rfl
 have hd := down_any bs pb S 1 w_ h;unfold stageV PlPost at hd;have HD := keep hd;clear hd h;unfold Pl.look;go_enter Tryz.func47, Tryz.ntmps47;go_wp2_with fail;refine HD.out.mono ?_;rintro x w1 ⟨rfl, h1, h2⟩;go_wp2_with fail;refine bodyPost_ret (v := .tuple #[]) ?_ rfl (show PlPost _ _ _ _ _ _ from ⟨rfl, h1, h2⟩);simp [results, Tryz.results47, go_sem]
def WyPost (bs pb : Nat) (S : Pl) (b : Bool) (w : World) (x : Ending) (w' : World) : Prop := x = .returned (.bool b) /\ PlT bs pb w' S /\ Sel bs pb w w'
set_option maxRecDepth 100000 in
set_option maxHeartbeats 4000000 in
theorem plway_any (bs pb : Nat) (S : Pl) (P : Pg) (iv : Value) (level : Int) (e : En) (w_ : World) (h : PlT bs pb w_ S) (hin : PgIn w_ iv P) (hs : 0 <= S.seen /\ S.seen <= 4096) :
  Calls Tryz.prog 142 #[.pointer (some ⟨pb, 0, none⟩), pgV P iv, .int .i64 level, enV e] w_ (WyPost bs pb (S.way P level e).1 (S.way P level e).2 w_) := by
 obtain ⟨ia, ic, rfl⟩ := items_form hin.1;have hw := fun (u : World) (hu : Grow w_ u) => way_any P _ level e u (hin.fits hu)
 obtain ⟨R, hR⟩ : ∃ R, S.way P level e = R := ⟨_, rfl⟩;have hr : R = if (wayN P level e).2.2 ≠ 0 \/ ((wayN P level e).2.1 = false /\ 4096 <= S.seen + 1) then ({ S with seen := S.seen + 1 }.odd, false)
   else if (wayN P level e).2.1 = false then ({ S with seen := S.seen + 1, wpg := (wayN P level e).1 }, false) else ({ S with seen := S.seen + 1 }, true) := by rw [<- hR]; rfl
 rw [hR];clear hR;unfold WayPost at hw;generalize wayN P level e = Y at *;obtain ⟨y1, y2, y3⟩ := Y;obtain ⟨k, p, s⟩ := e;obtain ⟨R1, R2⟩ := R;dsimp only at hw hr ⊢;obtain ⟨w0, hw0⟩ : ∃ w0, w0 = (w_.alloc (.cells (pgCells P (.slice ia P.items.length ic)).toArray 28)).alloc (.cells #[.string (str k), .int .i64 p, .int .i64 s] 103) := ⟨_, rfl⟩;obtain ⟨hg0, hP0, hE0⟩ := pe_new P _ k p s w_ w0 hw0;unfold pgV enV at hw;dsimp only at hw;have HW := keep hw;have HR := keep hr;have HG0 := keep hg0;have HT := keep h;have hsw : IntKind.i64.wrap (S.seen + 1) = S.seen + 1 := by rw [IntKind.wrap_i64]; omega
 have hsw2 : wrap64 (S.seen + 1) = S.seen + 1 := by unfold wrap64; omega
 clear hw hr hg0 hin h;unfold pgCells at hw0 hP0;obtain ⟨p0, p1, p2, p3, p4, p5, _⟩ := pgres hP0;obtain ⟨e0, e1, e2, _⟩ := enres hE0;clear hP0 hE0;unfold pgV enV;go_enter Tryz.func142, Tryz.ntmps142;go_upto_region 1 with fail;rw [<- hw0];clear hw0;go_wp2_with fail;refine (HW.out w0 HG0.out).mono ?_;rintro x w1 ⟨rfl, hb1⟩;have HG1 := keep (Grow.trans HG0.out hb1);have hT1 := HT.out.fits HG1.out;obtain ⟨rv, ov, lv, hB, hP⟩ := hT1.tab;have c16 := hB.cell 16 (by simp [plCells]);simp only [plCells, List.getElem_cons_zero, List.getElem_cons_succ] at c16;have z16 := hB.free 16;clear p0 p1 p2 p3 p4 p5 e0 e1 e2 hb1 HW;go_upto_region 3 with fail;obtain ⟨w2, hw2⟩ : ∃ w2, w2 = w1.setCell ⟨pb, 16, none⟩ (.int .i64 (S.seen + 1)) := ⟨_, rfl⟩;rw [<- hw2];have hT2 : PlT bs pb w2 { S with seen := S.seen + 1 } /\ Sel bs pb w1 w2 := by
  have kk := (But.refl pb w1).setCell 16 (.int .i64 (S.seen + 1));have hB' := hB.set 16 (.int .i64 (S.seen + 1));have h2 := hP.but kk hB;subst hw2;exact ⟨⟨Nat.le_trans hT1.low kk.size, rv, ov, lv, hB', ⟨h2.rr, h2.rows, h2.left, h2.none⟩⟩, Sel.but kk hB (.inl ⟨rfl, rfl⟩) hT1.low⟩
 have hB2 := hB.set 16 (.int .i64 (S.seen + 1));have hB3 : Blk w2 pb 111 (plCells { S with seen := S.seen + 1 } (stageV pb S.st) rv ov lv) := by subst hw2; exact hB2
 have hP2 : PlR bs w2 { S with seen := S.seen + 1 } rv ov lv := by
  have kk := (But.refl pb w1).setCell 16 (.int .i64 (S.seen + 1));have h2 := hP.but kk hB;subst hw2;exact ⟨h2.rr, h2.rows, h2.left, h2.none⟩
 have c16 := hB3.cell 16 (by simp [plCells]);have c9 := hB3.cell 9 (by simp [plCells]);simp only [plCells, List.getElem_cons_zero, List.getElem_cons_succ] at c16 c9;have z9 := hB3.free 9;have hod := odd_any bs pb { S with seen := S.seen + 1 } w2 hT2.1;unfold PlPost at hod;have HOd := keep hod;have HT2 := keep hT2.1;have HSl := keep ((Sel.of_grow HT.out.low HG1.out).trans hT2.2);have HB3 := keep hB3;have HP2 := keep hP2;clear hw2 hB2 hB3 hP2 hT2 hod hB hP hT1 z16 hsw hsw2 hs
 by_cases h3 : y3 = 0
 ·have e3 : (y3 != 0) = false := by simp [h3]
  cases y2 with
  | true =>
   have HRR := keep (show R1 = { S with seen := S.seen + 1 } /\ R2 = true by
    have := HR.out;rw [if_neg (by simp [h3]), if_neg (by simp)] at this
    exact Prod.mk.inj this)
   clear h3;obtain ⟨r2, hr2⟩ := HRR.out;subst hr2;go_wp2_with fail;go_ret;exact (show WyPost _ _ _ _ _ _ _ from ⟨rfl, HT2.out, HSl.out⟩)
  | false =>
   by_cases hg : 4096 <= S.seen + 1
   ·have eG : decide (4096 <= S.seen + 1) = true := decide_eq_true hg
    have HRR := keep (show R1 = { S with seen := S.seen + 1 }.odd /\ R2 = false by
     have := HR.out;rw [if_pos (.inr ⟨rfl, hg⟩)] at this
     exact Prod.mk.inj this)
    clear h3 hg;obtain ⟨r2, hr2⟩ := HRR.out;subst hr2;go_wp2_with fail;refine HOd.out.mono ?_;rintro x w3 ⟨rfl, h1, h2⟩;go_wp2_with fail;go_ret;exact (show WyPost _ _ _ _ _ _ _ from ⟨rfl, by rw [HRR.out.1]; exact h1, (HSl.out.trans h2)⟩)
   ·have eG : decide (4096 <= S.seen + 1) = false := decide_eq_false hg
    have HRR := keep (show R1 = { S with seen := S.seen + 1, wpg := y1 } /\ R2 = false by
     have := HR.out;rw [if_neg (by simp [h3, hg]), if_pos rfl] at this
     exact Prod.mk.inj this)
    clear h3 hg;obtain ⟨r2, hr2⟩ := HRR.out;subst hr2;go_wp2_with fail;go_ret;have kk := (But.refl pb w2).setCell 9 (.int .i64 y1);have hB4 := HB3.out.set 9 (.int .i64 y1);have h4 := HP2.out.but kk HB3.out;exact (show WyPost _ _ _ _ _ _ _ from ⟨rfl, ⟨Nat.le_trans HT2.out.low kk.size, rv, ov, lv, hB4, ⟨h4.rr, h4.rows, h4.left, h4.none⟩⟩, HSl.out.trans (Sel.but kk HB3.out (.inl ⟨rfl, rfl⟩) HT2.out.low)⟩)
 ·have e3 : (y3 != 0) = true := by simpa using h3
  have HRR := keep (show R1 = { S with seen := S.seen + 1 }.odd /\ R2 = false by
   have := HR.out;rw [if_pos (.inl h3)] at this
   exact Prod.mk.inj this)
  clear h3;obtain ⟨r2, hr2⟩ := HRR.out;subst hr2;go_wp2_with fail;refine HOd.out.mono ?_;rintro x w3 ⟨rfl, h1, h2⟩;go_wp2_with fail;go_ret;exact (show WyPost _ _ _ _ _ _ _ from ⟨rfl, by rw [HRR.out.1]; exact h1, (HSl.out.trans h2)⟩)
attribute [local go_sem] givesV lookV knAt hgs
set_option maxRecDepth 100000 in
set_option maxHeartbeats 2000000 in
theorem version_any (bs pb : Nat) (S : Pl) (w_ : World) (h : PlT bs pb w_ S) :
  Calls Tryz.prog 98 #[.pointer (some ⟨pb, 0, none⟩)] w_ fun x w' => x = .returned (.agg #[.int .i64 S.own, .int .i64 0, .bool false, .string (str S.key), .string (str S.val)]) /\ Below w_.heap.size w_ w' := by
 obtain ⟨rv, ov, lv, hB, -⟩ := h.tab;obtain ⟨w0, hw0⟩ : ∃ w0, w0 = w_.alloc (.cells #[.int .i64 0, .int .i64 0, .bool false, .string ⟨#[]⟩, .string ⟨#[]⟩] 44) := ⟨_, rfl⟩;obtain ⟨hT0, hg0⟩ := tu_new w_ w0 [.int .i64 0, .int .i64 0, .bool false, .string ⟨#[]⟩, .string ⟨#[]⟩] hw0;have HG0 := keep hg0;have HT0 := keep hT0
 have HX := keep (fun (u : World) (hu : Grow w0 u) => (show u.cell? ⟨pb, 5, none⟩ = some (.int .i64 S.own) /\ u.cell? ⟨pb, 1, none⟩ = some (.string (str S.key)) /\ u.cell? ⟨pb, 3, none⟩ = some (.string (str S.val)) from
  ⟨(hB.fits (Grow.trans hg0 hu)).cell 5 (by simp [plCells]), (hB.fits (Grow.trans hg0 hu)).cell 1 (by simp [plCells]), (hB.fits (Grow.trans hg0 hu)).cell 3 (by simp [plCells])⟩))
 clear hB h hg0 hT0;go_enter Tryz.func98, Tryz.ntmps98;go_upto_region 1 with fail;rw [<- hw0];clear hw0;refine rgv 15 (by kernel_rfl) (by kernel_rfl) rfl rfl ?_;intro a0 ha0;have hsz : a0.tmps.size = 18 := (size_at ha0).trans rfl;have s0 := slot_at ha0 0 rfl;have HA0 := keep ha0;clear ha0
 iterate 3
  apply lxv hsz Grow.refl (by kernel_rfl) rfl
  ·intro xs w hw K hK;go_simp;exact hK
 apply lxv hsz Grow.refl (by kernel_rfl) rfl
 ·intro xs w hw K hK;obtain ⟨v0, -⟩ := HX.out w (Grow.undrew hw);go_simp;exact hK
 iterate 4
  apply lxv hsz Grow.refl (by kernel_rfl) rfl
  ·intro xs w hw K hK;go_simp;exact hK
 apply lxv hsz Grow.refl (by kernel_rfl) rfl
 ·intro xs w hw K hK;obtain ⟨-, v1, -⟩ := HX.out w (Grow.undrew hw);go_simp;exact hK
 iterate 4
  apply lxv hsz Grow.refl (by kernel_rfl) rfl
  ·intro xs w hw K hK;go_simp;exact hK
 apply lxv hsz Grow.refl (by kernel_rfl) rfl
 ·intro xs w hw K hK;obtain ⟨-, -, v2⟩ := HX.out w (Grow.undrew hw);go_simp;exact hK
 apply lxv hsz Grow.refl (by kernel_rfl) rfl
 ·intro xs w hw K hK;go_simp;exact hK
 refine rgd [] (by kernel_rfl) rfl ?_;intro xs w hw hp;have ha0 := HA0.out;clear HA0 hsz s0;clear hp;subst ha0;simp only [putV];have hg := hw.undrew;have hga := Grow.trans HG0.out hg;have hT2 := HT0.out.fits hg;obtain ⟨d0, d1, d2, d3, d4⟩ := tures hT2;have z0 := hT2.free 0;have z1 := hT2.free 1;have z2 := hT2.free 2;have z3 := hT2.free 3;have z4 := hT2.free 4;have HT2 := keep hT2;clear hw hT2;go_frame;go_wp2_with fail;have Hset := keep (set5 HT2.out (.int .i64 S.own) (.int .i64 0) (.bool false) (.string (str S.key)) (.string (str S.val)));have Hbut := keep (but5 w w_.heap.size (.int .i64 S.own) (.int .i64 0) (.bool false) (.string (str S.key)) (.string (str S.val)));refine bodyPost_ret (v := .agg #[.int .i64 S.own, .int .i64 0, .bool false, .string (str S.key), .string (str S.val)]) ?_ rfl ⟨rfl, But.below hga Hbut.out (Nat.le_refl _) hga.size⟩;obtain ⟨s0, s1, s2, s3, s4⟩ := tures Hset.out;clear z0 z1 z2 z3 z4 d0 d1 d2 d3 d4;simp [results, Tryz.results98, go_sem, s0, s1, s2, s3, s4]
end Go.Proofs.YtcdapdcablnhpaaGreat
namespace Go.Proofs.YtcdapdcablnhpaaGreat
open Go.RowKit
def Pl.bytes (S : Pl) : List UInt8 := if tupOk S.own 0 (str S.key) (str S.val) then tupS S.own.toNat 0 false S.key S.val else []
theorem encode_pl (S : Pl) (w : World) : Calls Tryz.prog 41 #[.agg #[.int .i64 S.own, .int .i64 0, .bool false, .string (str S.key), .string (str S.val)]] w fun e w' => (∃ c : Int, e = .returned (.tuple #[.string (str S.bytes), .int .i64 c])) /\ Below w.heap.size w w' := by
 unfold Pl.bytes;cases h : tupOk S.own 0 (str S.key) (str S.val) with
 | false =>
  refine (enc_bad S.own 0 false (str S.key) (str S.val) w h).mono ?_;rintro e w' ⟨rfl, hb⟩;exact ⟨⟨_, rfl⟩, hb⟩
 | true =>
  have hn : S.own = ((S.own.toNat : Nat) : Int) := by
   unfold tupOk at h;simp at h;omega
  rw [if_pos rfl];have h2 := enc_no S.own.toNat 0 (str S.key) (str S.val) w (by rw [<- hn]; exact h);rw [<- hn] at h2;refine h2.mono ?_;rintro e w' ⟨rfl, hb⟩;exact ⟨⟨_, rfl⟩, hb⟩
theorem write_yes {S : Pl} (h : S.call = 4) : S.write = S.fin 0 S.hit [] [] := by unfold Pl.write; rw [if_pos h]
theorem write_no {S : Pl} (h : S.call ≠ 4) : S.write = { S with st := 0, wk := 2, wkey := [], wsz := S.bytes.length, wpg := 0 } := by
 unfold Pl.write Pl.bytes;rw [if_neg h]
 split <;> rfl
set_option maxRecDepth 100000 in
set_option maxHeartbeats 4000000 in
theorem plwrite_any (bs pb : Nat) (S : Pl) (w_ : World) (h : PlT bs pb w_ S) :
  Calls Tryz.prog 99 #[.pointer (some ⟨pb, 0, none⟩)] w_ (PlPost bs pb S.write w_) := by
 have hT := keep h;obtain ⟨rv, ov, lv, hB, -⟩ := h.tab;have c0 := hB.cell 0 (by simp [plCells]);have c19 := hB.cell 19 (by simp [plCells]);simp only [plCells, List.getElem_cons_zero, List.getElem_cons_succ] at c0 c19
 by_cases h4 : S.call = 4
 ·rw [write_yes h4];have e4 : (S.call == 4) = true := by simpa using h4
  have he := end_any bs pb S 0 S.hit [] (.slice none 0 0) [] w_ h (rows_nilS _);unfold rpV at he;rw [str_nilS] at he;have HE := keep he;clear he h hB h4;unfold PlPost at HE;go_enter Tryz.func99, Tryz.ntmps99;go_wp2_with fail;refine HE.out.mono ?_;rintro x w1 ⟨rfl, h1, h2⟩;go_wp2_with fail;refine bodyPost_ret (v := .tuple #[]) ?_ rfl (show PlPost _ _ _ _ _ _ from ⟨rfl, h1, h2⟩);simp [results, Tryz.results99, go_sem]
 ·rw [write_no h4];have e4 : (S.call == 4) = false := by simpa using h4
  have HV := keep (version_any bs pb S w_ h);have HEn := keep (fun u => encode_pl S u);have hsl : (S.bytes.length : Int) <= 4611686018427387904 -> True := fun _ => trivial
  generalize hby : S.bytes = by' at *
  clear h hB h4 hsl hby;go_enter Tryz.func99, Tryz.ntmps99;go_wp2_with fail;refine HV.out.mono ?_;rintro x w1 ⟨rfl, hb1⟩;clear c0 c19 HV;have HG1 := keep hb1;clear hb1;go_wp2_with fail;refine (HEn.out w1).mono ?_;rintro x w2 ⟨⟨cd, rfl⟩, hb2⟩;have HG2 := keep (Grow.trans HG1.out hb2);clear hb2 HEn;have hT2 := hT.out.fits HG2.out;obtain ⟨rv, ov, lv, hB, hP⟩ := hT2.tab;have c6 := hB.cell 6 (by simp [plCells]);have c7 := hB.cell 7 (by simp [plCells]);have c8 := hB.cell 8 (by simp [plCells]);have c9 := hB.cell 9 (by simp [plCells]);have c10 := hB.cell 10 (by simp [plCells]);simp only [plCells, List.getElem_cons_zero, List.getElem_cons_succ] at c6 c7 c8 c9 c10;have z6 := hB.free 6;have z7 := hB.free 7;have z8 := hB.free 8;have z9 := hB.free 9;have z10 := hB.free 10;have hfin : ∀ w', w' = ((((w2.setCell ⟨pb, 10, none⟩ .nilFunc).setCell ⟨pb, 6, none⟩ (.int .i64 2)).setCell ⟨pb, 7, none⟩ (.string ⟨#[]⟩)).setCell ⟨pb, 8, none⟩ (.int .i64 (by'.length : Int))).setCell ⟨pb, 9, none⟩ (.int .i64 0) -> PlPost bs pb { S with st := 0, wk := 2, wkey := [], wsz := by'.length, wpg := 0 } w_ (.returned (.tuple #[])) w' := by
   rintro w' rfl;have k := (((((But.refl pb w2).setCell 10 .nilFunc).setCell 6 (.int .i64 2)).setCell 7 (.string ⟨#[]⟩)).setCell 8 (.int .i64 (by'.length : Int))).setCell 9 (.int .i64 0);have hB' := ((((hB.set 10 .nilFunc).set 6 (.int .i64 2)).set 7 (.string ⟨#[]⟩)).set 8 (.int .i64 (by'.length : Int))).set 9 (.int .i64 0);have h2 := hP.but k hB;exact ⟨rfl, ⟨Nat.le_trans hT2.low k.size, rv, ov, lv, hB', ⟨h2.rr, h2.rows, h2.left, h2.none⟩⟩, (Sel.of_grow hT.out.low HG2.out).trans (Sel.but k hB (.inl ⟨rfl, rfl⟩) hT2.low)⟩
  have HFin := keep hfin;clear hfin hB hP hT2;go_wp2_with fail;refine bodyPost_ret (v := .tuple #[]) ?_ rfl (HFin.out _ rfl);simp [results, Tryz.results99, go_sem]
theorem next_left {S : Pl} (h : 0 < S.left.length) : S.next = S.see S.left[0].2.1 3 := by
 unfold Pl.next
 split
 ·rename_i e l he
  simp [he]
 ·rename_i he
  rw [he] at h;simp at h
theorem next_none {S : Pl} (h : ¬ 0 < S.left.length) : S.next = if S.right ≠ 0 then S.see S.right 2 else if S.writes = false then S.fin 0 false [] S.rows else if S.hit then S.see S.one.2.1 4 else S.write := by
 have he : S.left = [] := List.eq_nil_of_length_eq_zero (by omega);unfold Pl.next;rw [he]
set_option maxRecDepth 100000 in
set_option maxHeartbeats 4000000 in
theorem plnext_any (bs pb : Nat) (S : Pl) (w_ : World) (h : PlT bs pb w_ S) :
  Calls Tryz.prog 198 #[.pointer (some ⟨pb, 0, none⟩)] w_ (PlPost bs pb S.next w_) := by
 have hmf : ∀ (fn : Fn) (first cap : Array Value) (w : World), (Instr.makeFunc fn first cap).run Tryz.prog w = .ok (.func fn first cap) w := fun _ _ _ _ => rfl
 have HT := keep h;obtain ⟨rv, ov, lv, hB, hP⟩ := h.tab;have c5 := hB.cell 15 (by simp [plCells]);have c17 := hB.cell 17 (by simp [plCells]);have c18 := hB.cell 18 (by simp [plCells]);have c19 := hB.cell 19 (by simp [plCells]);have c21 := hB.cell 21 (by simp [plCells]);simp only [plCells, List.getElem_cons_zero, List.getElem_cons_succ] at c5 c17 c18 c19 c21;obtain ⟨la, lc, hlv⟩ := en_form hP.left.1.weak
 by_cases hl : 0 < S.left.length
 ·rw [next_left hl];obtain ⟨c1, off1, cap1, e1, hc1⟩ := en_at hP.left.1.weak hl;have q := (hc1 w_ (Grow.refl _)).2.1;rw [Nat.zero_mul, Nat.add_zero] at q;have hs := see_any bs pb S S.left[0].2.1 3 w_ h;unfold stageV PlPost at hs;have HS := keep hs;rw [e1] at c17;have hlp : decide (0 < S.left.length) = true := decide_eq_true hl;clear hs h hB hP hlv c5 c18 c19 c21 hc1 e1;go_enter Tryz.func198, Tryz.ntmps198;go_wp2_with fail;refine HS.out.mono ?_;rintro x w1 ⟨rfl, h1, h2⟩;go_wp2_with fail;refine bodyPost_ret (v := .tuple #[]) ?_ rfl (show PlPost _ _ _ _ _ _ from ⟨rfl, h1, h2⟩);simp [results, Tryz.results198, go_sem]
 ·rw [next_none hl];have hlp : decide (0 < S.left.length) = false := decide_eq_false hl;rw [hlv] at c17
  by_cases hr : S.right = 0
  ·have er : (S.right != 0) = false := by simp [hr]
   rw [if_neg (fun h => h hr)];obtain ⟨R, hR⟩ : ∃ R, (if S.writes = false then S.fin 0 false [] S.rows else if S.hit then S.see S.one.2.1 4 else S.write) = R := ⟨_, rfl⟩;rw [hR];have HRR := keep hR;clear hR;have HW := keep (writes_any bs pb S w_ h);have he := fun (u : World) (hu : Grow w_ u) (o : Value) (ho : OwnR bs u o S.rows) => end_any bs pb S 0 false [] o S.rows u (h.fits hu) (own_rowO ho)
   have hs := fun (u : World) (hu : Grow w_ u) => see_any bs pb S S.one.2.1 4 u (h.fits hu)
   have HWr := keep (fun (u : World) (hu : Grow w_ u) => plwrite_any bs pb S u (h.fits hu));unfold stageV PlPost at hs;unfold rpV PlPost at he;simp only [str_nilS] at he;have HE := keep he;have HS := keep hs;obtain ⟨oa, on, oc, hov⟩ : ∃ a n c, ov = .slice a n c := by
    obtain ⟨a, c, e⟩ := own_form hP.rows;exact ⟨_, _, _, e⟩
   subst hov;have HB := keep hB;have HO := keep hP.rows;generalize S.writes = W at *;clear he hs h hB hP hlv hr hl;go_enter Tryz.func198, Tryz.ntmps198;go_wp2_with fail;refine HW.out.mono ?_;rintro x w1 ⟨rfl, hb1⟩;have HG := keep (show Grow w_ w1 from hb1);have HSl := keep (Sel.of_grow (pb := pb) HT.out.low hb1);clear c5 c17 c18 c19 c21 hb1 HW;have hB1 := HB.out.fits HG.out;have c15 := hB1.cell 15 (by simp [plCells]);have c19 := hB1.cell 19 (by simp [plCells]);have c21 := hB1.cell 21 (by simp [plCells]);simp only [plCells, List.getElem_cons_zero, List.getElem_cons_succ] at c15 c19 c21;clear hB1;cases W with
   | false =>
    have HR2 := keep (show S.fin 0 false [] S.rows = R by have h := HRR.out; rw [if_pos rfl] at h; exact h);go_wp2_with fail;refine (HE.out w1 HG.out _ (owns_fits HO.out HG.out)).mono ?_;rintro x w2 ⟨rfl, h1, h2⟩;go_wp2_with fail;refine bodyPost_ret (v := .tuple #[]) ?_ rfl (show PlPost _ _ _ _ _ _ from ⟨rfl, by rw [<- HR2.out]; exact h1, HSl.out.trans h2⟩);simp [results, Tryz.results198, go_sem]
   | true =>
    cases hh : S.hit with
    | true =>
     rw [hh] at c19;have HR2 := keep (show S.see S.one.2.1 4 = R by have h := HRR.out; rw [if_neg (by simp), if_pos hh] at h; exact h);clear hh;go_wp2_with fail;refine (HS.out w1 HG.out).mono ?_;rintro x w2 ⟨rfl, h1, h2⟩;go_wp2_with fail;refine bodyPost_ret (v := .tuple #[]) ?_ rfl (show PlPost _ _ _ _ _ _ from ⟨rfl, by rw [<- HR2.out]; exact h1, HSl.out.trans h2⟩);simp [results, Tryz.results198, go_sem]
    | false =>
     rw [hh] at c19;have HR2 := keep (show S.write = R by have h := HRR.out; rw [if_neg (by simp), if_neg (by rw [hh]; simp)] at h; exact h);clear hh;go_wp2_with fail;refine (HWr.out w1 HG.out).mono ?_;rintro x w2 ⟨rfl, h1, h2⟩;go_wp2_with fail;refine bodyPost_ret (v := .tuple #[]) ?_ rfl (show PlPost _ _ _ _ _ _ from ⟨rfl, by rw [<- HR2.out]; exact h1, HSl.out.trans h2⟩);simp [results, Tryz.results198, go_sem]
  ·have er : (S.right != 0) = true := by simpa using hr
   rw [if_pos hr];have hs := see_any bs pb S S.right 2 w_ h;unfold stageV PlPost at hs;have HS := keep hs;clear hs h hB hP hlv c5 c19 c21 hl hr;go_enter Tryz.func198, Tryz.ntmps198;go_wp2_with fail;refine HS.out.mono ?_;rintro x w1 ⟨rfl, h1, h2⟩;go_wp2_with fail;refine bodyPost_ret (v := .tuple #[]) ?_ rfl (show PlPost _ _ _ _ _ _ from ⟨rfl, h1, h2⟩);simp [results, Tryz.results198, go_sem]
def Pl.fail (S : Pl) (e : Int) : Pl := if S.wk = 4 then S else S.fin e false [] []
def Pl.space (S : Pl) (p : Int) : Pl := if S.wk = 2 then S.see p 5 else S
def Pl.lock (S : Pl) (got : Bool) (e : Int) : Pl := if S.wk ≠ 1 then S else if e ≠ 0 then S.fin e false [] [] else if got then S.look else S
set_option maxRecDepth 100000 in
set_option maxHeartbeats 2000000 in
theorem pllock_any (bs pb : Nat) (S : Pl) (got : Bool) (e : Int) (w_ : World) (h : PlT bs pb w_ S) :
  Calls Tryz.prog 22 #[.pointer (some ⟨pb, 0, none⟩), .bool got, .int .i64 e] w_ (PlPost bs pb (S.lock got e) w_) := by
 obtain ⟨rv, ov, lv, hB, -⟩ := h.tab;have c6 := hB.cell 6 (by simp [plCells]);simp only [plCells, List.getElem_cons_zero, List.getElem_cons_succ] at c6;have he := end_any bs pb S e false [] (.slice none 0 0) [] w_ h (rows_nilS _);unfold rpV PlPost at he;rw [str_nilS] at he;have hk := pllook_any bs pb S w_ h;unfold PlPost at hk;have hT := keep h;have HE := keep he;have HK := keep hk;clear he hk h hB
 by_cases h1 : S.wk = 1
 ·have e1 : (S.wk != 1) = false := by simp [h1]
  by_cases h2 : e = 0
  ·have e2 : (e != 0) = false := by simp [h2]
   cases got with
   | true =>
    rw [show S.lock true e = S.look by unfold Pl.lock; rw [if_neg (fun h => h h1), if_neg (fun h => h h2), if_pos rfl]];clear h1 h2;go_enter Tryz.func22, Tryz.ntmps22;go_wp2_with fail;refine HK.out.mono ?_;rintro x w1 ⟨rfl, h1, h2⟩;go_wp2_with fail;refine bodyPost_ret (v := .tuple #[]) ?_ rfl (show PlPost _ _ _ _ _ _ from ⟨rfl, h1, h2⟩);simp [results, Tryz.results22, go_sem]
   | false =>
    rw [show S.lock false e = S by unfold Pl.lock; rw [if_neg (fun h => h h1), if_neg (fun h => h h2), if_neg (by simp)]];clear h1 h2;go_enter Tryz.func22, Tryz.ntmps22;go_wp2_with fail;refine bodyPost_ret (v := .tuple #[]) ?_ rfl (show PlPost _ _ _ _ _ _ from ⟨rfl, hT.out, Sel.refl _ _ _⟩);simp [results, Tryz.results22, go_sem]
  ·have e2 : (e != 0) = true := by simpa using h2
   rw [show S.lock got e = S.fin e false [] [] by unfold Pl.lock; rw [if_neg (fun h => h h1), if_pos h2]];clear h1 h2;go_enter Tryz.func22, Tryz.ntmps22;go_wp2_with fail;refine HE.out.mono ?_;rintro x w1 ⟨rfl, h1, h2⟩;go_wp2_with fail;refine bodyPost_ret (v := .tuple #[]) ?_ rfl (show PlPost _ _ _ _ _ _ from ⟨rfl, h1, h2⟩);simp [results, Tryz.results22, go_sem]
 ·have e1 : (S.wk != 1) = true := by simpa using h1
  rw [show S.lock got e = S by unfold Pl.lock; rw [if_pos h1]];clear h1;go_enter Tryz.func22, Tryz.ntmps22;go_wp2_with fail;refine bodyPost_ret (v := .tuple #[]) ?_ rfl (show PlPost _ _ _ _ _ _ from ⟨rfl, hT.out, Sel.refl _ _ _⟩);simp [results, Tryz.results22, go_sem]
def wtV (k : Int) (key : List UInt8) (s p : Int) : Value := .agg #[.int .i64 k, .string (str key), .int .i64 s, .int .i64 p]
set_option maxRecDepth 100000 in
set_option maxHeartbeats 2000000 in
theorem plwant_any (bs pb : Nat) (S : Pl) (w_ : World) (h : PlT bs pb w_ S) :
  Calls Tryz.prog 18 #[.pointer (some ⟨pb, 0, none⟩)] w_ fun x w' => x = .returned (wtV S.wk S.wkey S.wsz S.wpg) /\ Below w_.heap.size w_ w' := by
 obtain ⟨w0, hw0⟩ : ∃ w0, w0 = w_.alloc (.cells #[.int .i64 0, .string ⟨#[]⟩, .int .i64 0, .int .i64 0] 61) := ⟨_, rfl⟩;have hg0 : Grow w_ w0 := by subst hw0; exact (Grow.refl w_).alloc _
 have hT0 : Blk w0 w_.heap.size 61 [.int .i64 0, .string ⟨#[]⟩, .int .i64 0, .int .i64 0] := by subst hw0; exact Blk.new w_ _ [_, _, _, _]
 obtain ⟨rv, ov, lv, hB, -⟩ := (h.fits hg0).tab;have c6 := hB.cell 6 (by simp [plCells]);have c7 := hB.cell 7 (by simp [plCells]);have c8 := hB.cell 8 (by simp [plCells]);have c9 := hB.cell 9 (by simp [plCells]);simp only [plCells, List.getElem_cons_zero, List.getElem_cons_succ] at c6 c7 c8 c9;have d0 := hT0.cell 0 (by simp);have d1 := hT0.cell 1 (by simp);have d2 := hT0.cell 2 (by simp);have d3 := hT0.cell 3 (by simp);simp only [List.getElem_cons_zero, List.getElem_cons_succ] at d0 d1 d2 d3;have z0 := hT0.free 0;have z1 := hT0.free 1;have z2 := hT0.free 2;have z3 := hT0.free 3;have HG0 := keep hg0;have HT0 := keep hT0;clear hB hg0 hT0 h;go_enter Tryz.func18, Tryz.ntmps18;go_upto_region 1 with fail;rw [<- hw0];clear hw0;go_wp2_with fail;have Hset := keep ((((HT0.out.set 0 (.int .i64 S.wk)).set 1 (.string (str S.wkey))).set 2 (.int .i64 S.wsz)).set 3 (.int .i64 S.wpg));have Hbut := keep (((((But.refl w_.heap.size w0).setCell 0 (.int .i64 S.wk)).setCell 1 (.string (str S.wkey))).setCell 2 (.int .i64 S.wsz)).setCell 3 (.int .i64 S.wpg));refine bodyPost_ret (v := wtV S.wk S.wkey S.wsz S.wpg) ?_ rfl ⟨rfl, But.below HG0.out Hbut.out (Nat.le_refl _) HG0.out.size⟩;have s0 := Hset.out.cell 0 (by simp);have s1 := Hset.out.cell 1 (by simp);have s2 := Hset.out.cell 2 (by simp);have s3 := Hset.out.cell 3 (by simp);simp only [List.set_cons_zero, List.set_cons_succ, List.getElem_cons_zero, List.getElem_cons_succ] at s0 s1 s2 s3;clear z0 z1 z2 z3 d0 d1 d2 d3 c6 c7 c8 c9
 simp [results, Tryz.results18, go_sem, s0, s1, s2, s3, wtV]
end Go.Proofs.YtcdapdcablnhpaaGreat
