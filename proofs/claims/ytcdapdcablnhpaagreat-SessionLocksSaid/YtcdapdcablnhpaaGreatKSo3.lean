import Derived.Test.YtcdapdcablnhpaaGreatKSr1
import Derived.Test.YtcdapdcablnhpaaGreatKOpn4
import Derived.Test.YtcdapdcablnhpaaGreatKLexn
import Derived.Deep.MidRow
namespace Go.Proofs.YtcdapdcablnhpaaGreat
open Go.ChangeShapes Go.WideShapes Go.ChangeAt Go.RowKit
theorem cellsBoolO : Tryz.prog.cellsOf 4 = 1 := by kernel_rfl
theorem cellsErrO : Tryz.prog.cellsOf 29 = 1 := by kernel_rfl
theorem cellsCallO : Tryz.prog.cellsOf 50 = 1 := by kernel_rfl
theorem cellsIntsO : Tryz.prog.cellsOf 23 = 1 := by kernel_rfl
theorem bytesIntO : Tryz.prog.bytesOf 3 = 8 := by kernel_rfl
theorem cellsSnapO : Tryz.prog.cellsOf 38 = 2 := by kernel_rfl
theorem cellsViewO : Tryz.prog.cellsOf 40 = 11 := by kernel_rfl
theorem cellsShowO : Tryz.prog.cellsOf 65 = 22 := by kernel_rfl
theorem cellsShowsO : Tryz.prog.cellsOf 59 = 1 := by kernel_rfl
theorem bytesShowO : Tryz.prog.bytesOf 65 = 272 := by kernel_rfl
theorem cellsAskO : Tryz.prog.cellsOf 52 = 5 := by kernel_rfl
theorem cellsEndsO : Tryz.prog.cellsOf 79 = 3 := by kernel_rfl
structure ShD where
 x : Sh
 bv : Value
 av : Value
 rv : Value
 iv : Value
 fv : Value
def ShD.cells (d : ShD) : List Value := shC d.x d.bv d.av d.rv d.iv d.fv
theorem ShD.length (d : ShD) : d.cells.length = 22 := rfl
instance : Inhabited ShD := ⟨⟨⟨0, zeroP, ⟨0, 0, [], 0, [], zeroP⟩, [], false, 0, 0⟩, .slice none 0 0, .slice none 0 0, .slice none 0 0, .slice none 0 0, .slice none 0 0⟩⟩
structure ShIn (w : World) (d : ShD) : Prop where
 pg : PgIn w d.bv d.x.body
 cap : Capd d.bv
 len : d.x.body.items.length <= 8796093021952
 vw : VwIn w d.x.view d.av d.rv d.iv
 fr : Ints w d.fv d.x.fresh
 frl : (d.x.fresh.length : Int) <= 17592186043904
theorem ShIn.fits {W w : World} {d : ShD} (h : ShIn W d) (k : Below W.heap.size W w) : ShIn w d := ⟨h.pg.fits k, h.cap, h.len, h.vw.fits k, Row.fits h.fr k, h.frl⟩
theorem ShIn.ok {W w : World} {d : ShD} {pb : Nat} (h : ShIn W d) (hb : Below W.heap.size W w) (hp : W.heap.size <= pb) : ShOk W.heap.size pb w d.x d.bv d.av d.rv d.iv d.fv :=
 ⟨fun _ k => h.pg.fits (Below.trans hb (k.below hp)), h.cap, Nat.le_trans h.len (by decide), fun _ k => h.vw.fits (Below.trans hb (k.below hp)), fun _ k => Row.fits h.fr (Below.trans hb (k.below hp)), by have := h.frl; omega⟩
theorem ShIn.forms {w : World} {d : ShD} (h : ShIn w d) : ∃ ba bn bc aa an ac ra rn rc ia iN ic fa fn fc, d.bv = .slice ba bn bc /\ d.av = .slice aa an ac /\ d.rv = .slice ra rn rc /\ d.iv = .slice ia iN ic /\ d.fv = .slice fa fn fc := by
 obtain ⟨ba, bc, e1⟩ := items_form h.pg.1;obtain ⟨ia, ic, e2⟩ := items_form h.vw.items;obtain ⟨ra, rc, e3, _⟩ := ints_form h.vw.run;obtain ⟨aa, ac, e4, _⟩ := ints_form h.vw.act;obtain ⟨fa, fc, e5, _⟩ := ints_form h.fr;exact ⟨_, _, _, _, _, _, _, _, _, _, _, _, _, _, _, e1, e4, e3, e2, e5⟩
section
variable {H : Type} {enc : TypeId × Value -> H} {w : World} {base : Nat} {spare : Nat -> Bool} {held : Bool} {r : Reach} {b0 : Nat}
theorem len3o {α : Type} {l : List α} (h : l.length = 3) : ∃ c0 c1 c2, l = [c0, c1, c2] := by
 match l, h with
 | [c0, c1, c2], _ => exact ⟨c0, c1, c2, rfl⟩
theorem len5o {α : Type} {l : List α} (h : l.length = 5) : ∃ c0 c1 c2 c3 c4, l = [c0, c1, c2, c3, c4] := by
 match l, h with
 | [c0, c1, c2, c3, c4], _ => exact ⟨c0, c1, c2, c3, c4, rfl⟩
theorem len11o {α : Type} {l : List α} (h : l.length = 11) : ∃ c0 c1 c2 c3 c4 c5 c6 c7 c8 c9 c10, l = [c0, c1, c2, c3, c4, c5, c6, c7, c8, c9, c10] := by
 match l, h with
 | [c0, c1, c2, c3, c4, c5, c6, c7, c8, c9, c10], _ => exact ⟨c0, c1, c2, c3, c4, c5, c6, c7, c8, c9, c10, rfl⟩
theorem len22o {α : Type} {l : List α} (h : l.length = 22) : ∃ c0 c1 c2 c3 c4 c5 c6 c7 c8 c9 c10 c11 c12 c13 c14 c15 c16 c17 c18 c19 c20 c21, l = [c0, c1, c2, c3, c4, c5, c6, c7, c8, c9, c10, c11, c12, c13, c14, c15, c16, c17, c18, c19, c20, c21] := by
 match l, h with
 | [c0, c1, c2, c3, c4, c5, c6, c7, c8, c9, c10, c11, c12, c13, c14, c15, c16, c17, c18, c19, c20, c21], _ => exact ⟨c0, c1, c2, c3, c4, c5, c6, c7, c8, c9, c10, c11, c12, c13, c14, c15, c16, c17, c18, c19, c20, c21, rfl⟩
set_option maxRecDepth 100000 in
theorem ints_shape {n : Nat} {v : Value} {y : DataW H × List MemPlace} (h : DataW.trod enc Tryz.prog w base spare held n 23 [v] = some y) (hl : Light Tryz.prog 23 y.1) :
  ∃ l : List Int, Ints w v l /\ (l.length : Int) <= 17592186043904 := by
 obtain ⟨l, h1, h3, h2⟩ := rows_of_light (fun x : Int => [Value.int .i64 x]) (fun _ => True) 1 3 (by decide) Tryz.underlying23 cellsInt (fun _ => rfl) (fun m cs y hy _ => by
  obtain ⟨x, h1, _⟩ := DataW.trod_int Tryz.underlying3 hy
  exact ⟨x, h1, trivial⟩) h hl
 have hlen := light_len hl Tryz.underlying23 h2;rw [bytesIntO] at hlen;have e9 : reachBytes = 140737488351232 := by decide
 refine ⟨l, ?_, by omega⟩;have e : l.flatMap (fun x : Int => [Value.int .i64 x]) = iCells l := by
  clear h1 h3 h2 hlen
  induction l with
  | nil => rfl
  | cons a l ih => rw [List.flatMap_cons, ih]; rfl
 rw [e] at h1;exact h1
theorem bool_shape {n : Nat} {v : Value} {y : DataW H × List MemPlace} (h : DataW.trod enc Tryz.prog w base spare held n 4 [v] = some y) : ∃ x : Bool, v = .bool x := by
 obtain ⟨x, h1, _⟩ := DataW.trod_bool Tryz.underlying4 h;simp only [List.cons.injEq, and_true] at h1;exact ⟨x, h1⟩
theorem err_shape {n : Nat} {v : Value} {y : DataW H × List MemPlace} (h : DataW.trod enc Tryz.prog w base spare held n 29 [v] = some y) : ∃ x : Int, v = .int .i64 x := by
 obtain ⟨x, h1, _⟩ := DataW.trod_int Tryz.underlying29 h;simp only [List.cons.injEq, and_true] at h1;exact ⟨x, h1⟩
theorem call_shape {n : Nat} {v : Value} {y : DataW H × List MemPlace} (h : DataW.trod enc Tryz.prog w base spare held n 50 [v] = some y) : ∃ x : Int, v = .int .u8 x /\ 0 <= x /\ x <= 255 := by
 obtain ⟨x, h1, _, h2⟩ := DataW.trod_int Tryz.underlying50 h;simp only [List.cons.injEq, and_true] at h1;refine ⟨x, h1, ?_⟩;have e1 : IntKind.u8.min = 0 := rfl;have e2 : IntKind.u8.max = 255 := rfl;simp only [Lit.wf, Bool.and_eq_true, decide_eq_true_eq] at h2;omega
set_option maxRecDepth 100000 in
theorem page_shape {n : Nat} {cs : List Value} {y : DataW H × List MemPlace} (h : DataW.trod enc Tryz.prog w base spare held n 28 cs = some y) (hl : Light Tryz.prog 28 y.1) :
  ∃ (P : Pg) (iv : Value), cs = pgCells P iv /\ PgIn w iv P /\ Capd iv /\ P.items.length <= 8796093021952 := by
 obtain ⟨m, parts, hd, hc, hF⟩ := field_at Tryz.underlying28 h;rw [cellsPage] at hc;obtain ⟨a, b, c, dd, e, f, rfl⟩ := len6 hc;obtain ⟨y0, h0, p0⟩ := hF 0 _ rfl;obtain ⟨y1, h1, p1⟩ := hF 1 _ rfl;obtain ⟨y2, h2, p2⟩ := hF 2 _ rfl;obtain ⟨y3, h3, p3⟩ := hF 3 _ rfl;obtain ⟨y4, h4, p4⟩ := hF 4 _ rfl;obtain ⟨y5, h5, p5⟩ := hF 5 _ rfl;rw [hd] at hl;have hl4 := hl.part Tryz.underlying28 (i := 4) rfl p4;have hl5 := hl.part Tryz.underlying28 (i := 5) rfl p5;simp only [List.getElem_toArray, List.getElem_cons_zero, List.getElem_cons_succ] at h0 h1 h2 h3 h4 h5 hl4 hl5;rw [cellsInt] at h0 h1 h2 h3;rw [cellsString] at h4;rw [cellsStrings] at h5;obtain ⟨x0, rfl, hx0⟩ := int_light h0;obtain ⟨x1, rfl, _⟩ := int_light h1;obtain ⟨x2, rfl, _⟩ := int_light h2;obtain ⟨x3, rfl, _⟩ := int_light h3;obtain ⟨x4, rfl, hx4⟩ := string_light h4 hl4;obtain ⟨l, g1, g2, g3⟩ := items_of_light h5 hl5;refine ⟨⟨x0, x1, x2, x3, x4, l⟩, f, rfl, ⟨g1, g2, hx4, g3, hx0⟩, ?_⟩;obtain ⟨a, k, c, rfl, k1, k2⟩ := room_of_light h5 hl5;obtain ⟨a', c', e⟩ := items_form g1;simp only [Value.slice.injEq] at e;obtain ⟨_, e2, _⟩ := e;subst e2;exact ⟨k1, k2⟩
set_option maxRecDepth 100000 in
theorem view_shape {n : Nat} {cs : List Value} {y : DataW H × List MemPlace} (h : DataW.trod enc Tryz.prog w base spare held n 40 cs = some y) (hl : Light Tryz.prog 40 y.1) :
  ∃ (vw : Vw) (av rv iv : Value), cs = vwCells vw av rv iv /\ VwIn w vw av rv iv := by
 obtain ⟨m, parts, hd, hc, hF⟩ := field_at Tryz.underlying40 h;rw [cellsViewO] at hc;obtain ⟨c0, c1, c2, c3, c4, c5, c6, c7, c8, c9, c10, rfl⟩ := len11o hc;obtain ⟨y0, h0, p0⟩ := hF 0 _ rfl;obtain ⟨y1, h1, p1⟩ := hF 1 _ rfl;obtain ⟨y2, h2, p2⟩ := hF 2 _ rfl;obtain ⟨y3, h3, p3⟩ := hF 3 _ rfl;obtain ⟨y4, h4, p4⟩ := hF 4 _ rfl;rw [hd] at hl;have hl1 := hl.part Tryz.underlying40 (i := 1) rfl p1;have hl3 := hl.part Tryz.underlying40 (i := 3) rfl p3;have hl4 := hl.part Tryz.underlying40 (i := 4) rfl p4;simp only [List.getElem_toArray, List.getElem_cons_zero, List.getElem_cons_succ] at h0 h1 h2 h3 h4 hl1 hl3 hl4;rw [cellsInt] at h0 h2;rw [cellsSnapO] at h1;rw [cellsIntsO] at h3;rw [cellsPage] at h4;obtain ⟨x0, rfl⟩ := one_int h0;obtain ⟨own, rfl⟩ := one_int h2;obtain ⟨rl, r1, r2⟩ := ints_shape h3 hl3;obtain ⟨_, sp, sd, _, sF⟩ := field_at Tryz.underlying38 h1;obtain ⟨u0, s0, _⟩ := sF 0 _ rfl;obtain ⟨u1, s1, q1⟩ := sF 1 _ rfl;rw [sd] at hl1;have hls := hl1.part Tryz.underlying38 (i := 1) rfl q1;simp only [List.getElem_toArray, List.getElem_cons_zero, List.getElem_cons_succ] at s0 s1 hls;rw [cellsInt] at s0;rw [cellsIntsO] at s1;obtain ⟨next, rfl⟩ := one_int s0;obtain ⟨al, a1, a2⟩ := ints_shape s1 hls;obtain ⟨P, iv, e, g1, _, g2⟩ := page_shape h4 hl4;obtain ⟨lsn, kind, level, right, high, il⟩ := P;simp only [pgCells, List.take, List.drop, List.cons.injEq, and_true] at e;obtain ⟨rfl, rfl, rfl, rfl, rfl, rfl⟩ := e
 refine ⟨⟨x0, next, al, own, rl, ⟨lsn, kind, level, right, high, il⟩⟩, _, _, _, rfl, a1, r1, g1.1, by dsimp only; omega, by dsimp only; omega, by dsimp only at g2 ⊢; omega, fun x hx => Int.le_trans (g1.2.1 x hx) (by decide)⟩
set_option maxRecDepth 100000 in
set_option maxHeartbeats 1000000 in
theorem show_shape (n : Nat) (cs : List Value) (y : DataW H × List MemPlace) (h : DataW.trod enc Tryz.prog w base spare held n 65 cs = some y) (hl : Light Tryz.prog 65 y.1) :
  ∃ d : ShD, cs = d.cells /\ ShIn w d := by
 obtain ⟨m, parts, hd, hc, hF⟩ := field_at Tryz.underlying65 h;rw [cellsShowO] at hc;obtain ⟨c0, c1, c2, c3, c4, c5, c6, c7, c8, c9, c10, c11, c12, c13, c14, c15, c16, c17, c18, c19, c20, c21, rfl⟩ := len22o hc;obtain ⟨y0, h0, p0⟩ := hF 0 _ rfl;obtain ⟨y1, h1, p1⟩ := hF 1 _ rfl;obtain ⟨y2, h2, p2⟩ := hF 2 _ rfl;obtain ⟨y3, h3, p3⟩ := hF 3 _ rfl;obtain ⟨y4, h4, p4⟩ := hF 4 _ rfl;obtain ⟨y5, h5, p5⟩ := hF 5 _ rfl;obtain ⟨y6, h6, p6⟩ := hF 6 _ rfl;rw [hd] at hl;have hl1 := hl.part Tryz.underlying65 (i := 1) rfl p1;have hl2 := hl.part Tryz.underlying65 (i := 2) rfl p2;have hl3 := hl.part Tryz.underlying65 (i := 3) rfl p3;simp only [List.getElem_toArray, List.getElem_cons_zero, List.getElem_cons_succ] at h0 h1 h2 h3 h4 h5 h6 hl1 hl2 hl3;rw [cellsInt] at h0 h6;rw [cellsPage] at h1;rw [cellsViewO] at h2;rw [cellsIntsO] at h3;rw [cellsBoolO] at h4;rw [cellsErrO] at h5;obtain ⟨ask, rfl⟩ := one_int h0;obtain ⟨nn, rfl⟩ := one_int h6;obtain ⟨got, rfl⟩ := bool_shape h4;obtain ⟨ee, rfl⟩ := err_shape h5;obtain ⟨fr, f1, f2⟩ := ints_shape h3 hl3;obtain ⟨P, bv, e, g1, g2, g3⟩ := page_shape h1 hl1;simp only [pgCells, List.take, List.drop, List.cons.injEq, and_true] at e;obtain ⟨rfl, rfl, rfl, rfl, rfl, rfl⟩ := e;obtain ⟨vw, av, rv, iv, e, k1⟩ := view_shape h2 hl2;simp only [vwCells, List.take, List.drop, List.cons.injEq, and_true] at e;obtain ⟨rfl, rfl, rfl, rfl, rfl, rfl, rfl, rfl, rfl, rfl, rfl⟩ := e;exact ⟨⟨⟨ask, P, vw, fr, got, ee, nn⟩, _, _, _, _, _⟩, rfl, g1, g2, g3, k1, f1, f2⟩
theorem shows_shape {n : Nat} {v : Value} {y : DataW H × List MemPlace} (h : DataW.trod enc Tryz.prog w base spare held n 59 [v] = some y) (hl : Light Tryz.prog 59 y.1) :
  ∃ l : List ShD, Row w 65 v l.length (l.flatMap ShD.cells) /\ (∀ d ∈ l, ShIn w d) /\ (l.length : Int) <= 1000000000000 := by
 obtain ⟨l, h1, h3, h2⟩ := rows_of_light ShD.cells (ShIn w) 22 65 (by decide) Tryz.underlying59 cellsShowO ShD.length show_shape h hl;have hlen := light_len hl Tryz.underlying59 h2;rw [bytesShowO] at hlen;have := reach_num hlen;exact ⟨l, h1, h3, by omega⟩
set_option maxRecDepth 100000 in
theorem shows_of_trod {v : Value} {d : DataW H} {p : List MemPlace} (hval : Value.okWide Tryz.prog w r b0 59 v) (h : DataW.Trod enc Tryz.prog w base spare held 59 v d p) (hl : Light Tryz.prog 59 d) :
  ∃ l : List ShD, Row w 65 v l.length (l.flatMap ShD.cells) /\ (∀ d ∈ l, ShIn w d) /\ (l.length : Int) <= 1000000000000 := by
 obtain ⟨a, len, cap, rfl⟩ := okWide_slice Tryz.underlying59 hval;obtain ⟨fuel, hf⟩ := h;exact shows_shape hf hl
set_option maxRecDepth 100000 in
theorem ask_of_trod {v : Value} {d : DataW H} {p : List MemPlace} (hval : Value.okWide Tryz.prog w r b0 52 v) (h : DataW.Trod enc Tryz.prog w base spare held 52 v d p) (hl : Light Tryz.prog 52 d) :
  ∃ (call : Int) (key upk val : List UInt8) (n : Int), v = askV call key upk val n /\ 0 <= call /\ call <= 255 /\ (key.length : Int) <= 140737488355328 /\ (upk.length : Int) <= 140737488355328 /\ (val.length : Int) <= 140737488355328 /\ n <= 9223372036854775807 := by
 obtain ⟨cs, rfl, hsz⟩ := okWide_struct Tryz.underlying52 hval;obtain ⟨fuel, hf⟩ := h;obtain ⟨m, parts, hd, hc, hF⟩ := field_at Tryz.underlying52 hf;rw [cellsAskO] at hsz hc;have hd' : d = .agg parts := hd;subst hd';simp only [Value.cells] at hf hF hc;obtain ⟨c0, c1, c2, c3, c4, hcs⟩ := len5o hc;obtain ⟨l0⟩ := cs;simp only at hcs;subst hcs;obtain ⟨y0, h0, p0⟩ := hF 0 _ rfl;obtain ⟨y1, h1, p1⟩ := hF 1 _ rfl;obtain ⟨y2, h2, p2⟩ := hF 2 _ rfl;obtain ⟨y3, h3, p3⟩ := hF 3 _ rfl;obtain ⟨y4, h4, p4⟩ := hF 4 _ rfl;have hl1 := hl.part Tryz.underlying52 (i := 1) rfl p1;have hl2 := hl.part Tryz.underlying52 (i := 2) rfl p2;have hl3 := hl.part Tryz.underlying52 (i := 3) rfl p3;simp only [List.getElem_toArray, List.getElem_cons_zero, List.getElem_cons_succ] at h0 h1 h2 h3 h4 hl1 hl2 hl3;rw [cellsCallO] at h0;rw [cellsString] at h1 h2 h3;rw [cellsInt] at h4;obtain ⟨x0, rfl, k0, k1⟩ := call_shape h0;obtain ⟨s1, rfl, b1⟩ := string_light h1 hl1;obtain ⟨s2, rfl, b2⟩ := string_light h2 hl2;obtain ⟨s3, rfl, b3⟩ := string_light h3 hl3;obtain ⟨x4, rfl, k4⟩ := int_light h4;exact ⟨x0, s1, s2, s3, x4, rfl, k0, k1, b1, b2, b3, k4⟩
set_option maxRecDepth 100000 in
theorem ends_of_trod {v : Value} {d : DataW H} {p : List MemPlace} (hval : Value.okWide Tryz.prog w r b0 79 v) (h : DataW.Trod enc Tryz.prog w base spare held 79 v d p) (hl : Light Tryz.prog 79 d) :
  ∃ (lv : Value) (l : List ShD) (e : Int) (mv : Value) (m : List ShD), v = .agg #[lv, .int .i64 e, mv] /\ Row w 65 lv l.length (l.flatMap ShD.cells) /\ (∀ d ∈ l, ShIn w d) /\ (l.length : Int) <= 1000000000000 /\ Row w 65 mv m.length (m.flatMap ShD.cells) /\ (∀ d ∈ m, ShIn w d) /\ (m.length : Int) <= 1000000000000 := by
 obtain ⟨cs, rfl, hsz⟩ := okWide_struct Tryz.underlying79 hval;obtain ⟨fuel, hf⟩ := h;obtain ⟨m, parts, hd, hc, hF⟩ := field_at Tryz.underlying79 hf;rw [cellsEndsO] at hsz hc;have hd' : d = .agg parts := hd;subst hd';simp only [Value.cells] at hf hF hc;obtain ⟨c0, c1, c2, hcs⟩ := len3o hc;obtain ⟨l0⟩ := cs;simp only at hcs;subst hcs;obtain ⟨y0, h0, p0⟩ := hF 0 _ rfl;obtain ⟨y1, h1, p1⟩ := hF 1 _ rfl;obtain ⟨y2, h2, p2⟩ := hF 2 _ rfl;have hl0 := hl.part Tryz.underlying79 (i := 0) rfl p0;have hl2 := hl.part Tryz.underlying79 (i := 2) rfl p2;simp only [List.getElem_toArray, List.getElem_cons_zero, List.getElem_cons_succ] at h0 h1 h2 hl0 hl2;rw [cellsShowsO] at h0 h2;rw [cellsErrO] at h1;obtain ⟨l, k1, k2, k3⟩ := shows_shape (v := c0) h0 hl0;obtain ⟨l2, j1, j2, j3⟩ := shows_shape (v := c2) h2 hl2;obtain ⟨ee, e1⟩ := err_shape (v := c1) h1;subst e1;exact ⟨c0, l, ee, c2, l2, rfl, k1, k2, k3, j1, j2, j3⟩
end
theorem Tryz.own : ownKnob Tryz.prog.godebug = none := by kernel_rfl
theorem Tryz.laidOut : laidOutB Tryz.prog = true := by kernel_rfl
end Go.Proofs.YtcdapdcablnhpaaGreat
namespace Go.Proofs.YtcdapdcablnhpaaGreat
open Go.RowKit
attribute [local go_sem] hgs
set_option maxRecDepth 100000 in
theorem over_lock (bs pb : Nat) (S : Pl) (g : Bool) (e : Int) (w_ : World) (h : PlT bs pb w_ S) (e1 : (S.wk != 1) = true) : Calls Tryz.prog 22 #[.pointer (some ⟨pb, 0, none⟩), .bool g, .int .i64 e] w_ (NlPost w_) := by
 obtain ⟨rv, ov, lv, hB, -⟩ := h.tab;have c6 := hB.cell 6 (by simp [plCells]);simp only [plCells, List.getElem_cons_zero, List.getElem_cons_succ] at c6;clear h hB;go_enter Tryz.func22, Tryz.ntmps22;go_wp2_with fail;refine bodyPost_ret (v := .tuple #[]) ?_ rfl (show NlPost _ _ _ from ⟨rfl, Below.refl _ _⟩);simp [results, Tryz.results22, go_sem]
set_option maxRecDepth 100000 in
theorem wait_lock (bs pb : Nat) (S : Pl) (w_ : World) (h : PlT bs pb w_ S) (e1 : (S.wk != 1) = false) : Calls Tryz.prog 22 #[.pointer (some ⟨pb, 0, none⟩), .bool false, .int .i64 0] w_ (NlPost w_) := by
 obtain ⟨rv, ov, lv, hB, -⟩ := h.tab;have c6 := hB.cell 6 (by simp [plCells]);simp only [plCells, List.getElem_cons_zero, List.getElem_cons_succ] at c6;clear h hB;go_enter Tryz.func22, Tryz.ntmps22;go_wp2_with fail;refine bodyPost_ret (v := .tuple #[]) ?_ rfl (show NlPost _ _ _ from ⟨rfl, Below.refl _ _⟩);simp [results, Tryz.results22, go_sem]
set_option maxRecDepth 100000 in
theorem over_space (bs pb : Nat) (S : Pl) (n : Int) (w_ : World) (h : PlT bs pb w_ S) (e1 : (S.wk == 2) = false) : Calls Tryz.prog 21 #[.pointer (some ⟨pb, 0, none⟩), .int .i64 n] w_ (NlPost w_) := by
 obtain ⟨rv, ov, lv, hB, -⟩ := h.tab;have c6 := hB.cell 6 (by simp [plCells]);simp only [plCells, List.getElem_cons_zero, List.getElem_cons_succ] at c6;clear h hB;go_enter Tryz.func21, Tryz.ntmps21;go_wp2_with fail;refine bodyPost_ret (v := .tuple #[]) ?_ rfl (show NlPost _ _ _ from ⟨rfl, Below.refl _ _⟩);simp [results, Tryz.results21, go_sem]
set_option maxRecDepth 100000 in
theorem over_fail (bs pb : Nat) (S : Pl) (e : Int) (w_ : World) (h : PlT bs pb w_ S) (e1 : (S.wk != 4) = false) : Calls Tryz.prog 24 #[.pointer (some ⟨pb, 0, none⟩), .int .i64 e] w_ (NlPost w_) := by
 obtain ⟨rv, ov, lv, hB, -⟩ := h.tab;have c6 := hB.cell 6 (by simp [plCells]);simp only [plCells, List.getElem_cons_zero, List.getElem_cons_succ] at c6;clear h hB;go_enter Tryz.func24, Tryz.ntmps24;go_wp2_with fail;refine bodyPost_ret (v := .tuple #[]) ?_ rfl (show NlPost _ _ _ from ⟨rfl, Below.refl _ _⟩);simp [results, Tryz.results24, go_sem]
set_option maxRecDepth 100000 in
set_option maxHeartbeats 2000000 in
theorem over_page (bs pb : Nat) (S : Pl) (v : Vw) (av rv iv : Value) (P : Pg) (jv fv : Value) (w_ : World) (h : PlT bs pb w_ S) (h0 : S.st = 0) (hf : (∃ a n c, av = .slice a n c) /\ (∃ a n c, rv = .slice a n c) /\ (∃ a n c, iv = .slice a n c) /\ (∃ a n c, jv = .slice a n c)) :
  Calls Tryz.prog 20 #[.pointer (some ⟨pb, 0, none⟩), vwV v av rv iv, pgV P jv, fv] w_ fun x w' => x = .returned (.tuple #[rdV noRd (.slice none 0 0), .bool false]) /\ Below w_.heap.size w_ w' := by
 obtain ⟨⟨aa, an, ac, rfl⟩, ⟨ra, rn, rc, rfl⟩, ⟨ia, iN, ic, rfl⟩, ⟨ba, bn, bc, rfl⟩⟩ := hf;obtain ⟨w0, hw0⟩ : ∃ w0, w0 = ((w_.alloc (.cells (vwCells v (.slice aa an ac) (.slice ra rn rc) (.slice ia iN ic)).toArray 40)).alloc (.cells (pgCells P (.slice ba bn bc)).toArray 28)).alloc (.cells zC.toArray 71) := ⟨_, rfl⟩;obtain ⟨hg0, hV0, hP0, hR0⟩ := vpr_new v _ _ _ P _ w_ w0 hw0;obtain ⟨rv0, ov0, lv0, hB, -⟩ := (h.fits hg0).tab;have c10 := hB.cell 10 (by simp [plCells]);simp only [plCells, List.getElem_cons_zero, List.getElem_cons_succ, h0, stageV] at c10;have hnf : ∀ w : World, (binOp .eql 108 .nilFunc .nilFunc).run Tryz.prog w = .ok (.bool true) w := fun _ => rfl
 have HG0 := keep hg0;have HRx := keep hR0;clear h hg0 hV0 hP0 hR0 hB h0;unfold vwCells pgCells zC at hw0;unfold vwV pgV;go_enter Tryz.func20, Tryz.ntmps20;go_upto_region 1 with fail;rw [<- hw0];clear hw0;unfold zC at HRx;go_wp2_with ((refine wpList_store_rec rfl _ _ rfl (w_.heap.size + 2) _ rfl rfl HRx.out rfl rfl rfl ?_); intro wz hset hbz; have Hset := keep hset; have Hbut := keep hbz; clear hset hbz);refine bodyPost_ret (v := .tuple #[rdV noRd (.slice none 0 0), .bool false]) ?_ rfl ⟨rfl, But.below HG0.out Hbut.out (by omega) HG0.out.size⟩;exact plpage_res _ _ _ _ noRd _ rfl rfl Hset.out
set_option maxRecDepth 100000 in
set_option maxHeartbeats 4000000 in
theorem over_tell (bs pb : Nat) (S : Pl) (d : ShD) (w_ : World) (h : PlT bs pb w_ S) (h4 : S.wk = 4) (h0 : S.st = 0) (hd : ShIn w_ d) :
  Calls Tryz.prog 23 #[.pointer (some ⟨pb, 0, none⟩), shV d.x d.bv d.av d.rv d.iv d.fv] w_ fun y w' => y = .returned (.bool false) /\ Below w_.heap.size w_ w' := by
 obtain ⟨ba, bn, bc, aa, an, ac, ra, rn, rc, ia, iN, ic, fa, fn, fc, e1, e2, e3, e4, e5⟩ := hd.forms;obtain ⟨x, bv, av, rv, iv, fv⟩ := d;dsimp only at e1 e2 e3 e4 e5 ⊢;subst e1 e2 e3 e4 e5;clear hd;obtain ⟨w0, hw0⟩ : ∃ w0, w0 = w_.alloc (.cells (shC x (.slice ba bn bc) (.slice aa an ac) (.slice ra rn rc) (.slice ia iN ic) (.slice fa fn fc)).toArray 65) := ⟨_, rfl⟩;have hg0 : Grow w_ w0 := by subst hw0; exact (Grow.refl w_).alloc _
 have hB0 : Blk w0 w_.heap.size 65 (shC x (.slice ba bn bc) (.slice aa an ac) (.slice ra rn rc) (.slice ia iN ic) (.slice fa fn fc)) := by subst hw0; exact Blk.new w_ _ _
 have hT0 := h.fits hg0;have hpg := over_page bs pb S x.view (.slice aa an ac) (.slice ra rn rc) (.slice ia iN ic) x.body (.slice ba bn bc) (.slice fa fn fc) w0 hT0 h0 ⟨⟨_, _, _, rfl⟩, ⟨_, _, _, rfl⟩, ⟨_, _, _, rfl⟩, ⟨_, _, _, rfl⟩⟩;have hlk := over_lock bs pb S x.got x.e w0 hT0 (by simp [h4]);have hsp := over_space bs pb S x.n w0 hT0 (by simp [h4]);have hfa := over_fail bs pb S x.e w0 hT0 (by simp [h4]);unfold vwV pgV rdV at hpg;unfold NlPost at hlk hsp hfa;dsimp only [noRd] at hpg;rw [str_nilS] at hpg;have HPg := keep hpg;have HLk := keep hlk;have HSp := keep hsp;have HFa := keep hfa;have HG0 := keep hg0;unfold shC at hB0 hw0;obtain ⟨c0, c1, c2, c3, c4, c5, c6, c7, c8, c9, c10, c11, c12, c13, c14, c15, c16, c17, c18, c19, c20, c21⟩ := shres hB0;clear hpg hlk hsp hfa hT0 h h4 h0 hg0 hB0;unfold shV;go_enter Tryz.func23, Tryz.ntmps23;go_upto_region 1 with fail;rw [<- hw0];clear hw0
 by_cases h0 : x.ask = 0
 ·have e0 : (x.ask == 0) = true := by simp [h0]
  clear h0;go_wp2_with fail;refine HPg.out.mono ?_;rintro y w1 ⟨rfl, hb1⟩;have HG1 := keep (Grow.trans HG0.out hb1);clear hb1 HPg c0 c1 c2 c3 c4 c5 c6 c7 c8 c9 c10 c11 c12 c13 c14 c15 c16 c17 c18 c19 c20 c21;go_wp2_with ((refine wpList_store_rec rfl _ _ rfl w1.heap.size _ rfl rfl (Blk.new w1 _ zC) rfl rfl rfl ?_); intro wz hset hbz; have Hset := keep hset; have Hbut := keep hbz; clear hset hbz);have hgz : Grow w1 wz := But.below ((Grow.refl w1).alloc _) Hbut.out (Nat.le_refl _) (by simp);go_ret;exact ⟨rfl, Grow.trans HG1.out hgz⟩
 ·have e0 : (x.ask == 0) = false := by simpa using h0
  by_cases h1 : x.ask = 1
  ·have e1 : (x.ask == 1) = true := by simp [h1]
   clear h0 h1;go_wp2_with fail;refine HLk.out.mono ?_;rintro y w1 ⟨rfl, hb1⟩;have HG1 := keep (Grow.trans HG0.out hb1);clear hb1 c0 c1 c2 c3 c4 c5 c6 c7 c8 c9 c10 c11 c12 c13 c14 c15 c16 c17 c18 c19 c20 c21;go_wp2_with fail;go_ret;exact ⟨rfl, HG1.out⟩
  ·have e1 : (x.ask == 1) = false := by simpa using h1
   by_cases h2 : x.ask = 2
   ·have e2 : (x.ask == 2) = true := by simp [h2]
    clear h0 h1 h2;go_wp2_with fail;refine HSp.out.mono ?_;rintro y w1 ⟨rfl, hb1⟩;have HG1 := keep (Grow.trans HG0.out hb1);clear hb1 c0 c1 c2 c3 c4 c5 c6 c7 c8 c9 c10 c11 c12 c13 c14 c15 c16 c17 c18 c19 c20 c21;go_wp2_with fail;go_ret;exact ⟨rfl, HG1.out⟩
   ·have e2 : (x.ask == 2) = false := by simpa using h2
    by_cases h3 : x.ask = 3
    ·have e3 : (x.ask == 3) = true := by simp [h3]
     clear h0 h1 h2 h3;go_wp2_with fail;refine HFa.out.mono ?_;rintro y w1 ⟨rfl, hb1⟩;have HG1 := keep (Grow.trans HG0.out hb1);clear hb1 c0 c1 c2 c3 c4 c5 c6 c7 c8 c9 c10 c11 c12 c13 c14 c15 c16 c17 c18 c19 c20 c21;go_wp2_with fail;go_ret;exact ⟨rfl, HG1.out⟩
    ·have e3 : (x.ask == 3) = false := by simpa using h3
     clear h0 h1 h2 h3;go_wp2_with fail;go_ret;exact ⟨rfl, HG0.out⟩
theorem show_range {w : World} {T c off n cap : Nat} {l : List ShD} (h : Row w T (.slice (some ⟨c, off, none⟩) n cap) l.length (l.flatMap ShD.cells)) {i : Nat} (hi : i < l.length) : w.rangeAt c (off + i * 22) l[i].cells := by
 intro j v hv;obtain ⟨hj, rfl⟩ := List.getElem?_eq_some_iff.1 hv;rw [ShD.length] at hj;rcases h with ⟨h0, _⟩ | ⟨c', off', cap', e, h3⟩
 ·omega
 ·simp only [Value.slice.injEq, Option.some.injEq, Addr.mk.injEq, and_true] at e;obtain ⟨⟨rfl, rfl⟩, rfl, rfl⟩ := e;have hlen := flat_length ShD.cells 22 ShD.length l;have hlt : i * 22 + j < (l.flatMap ShD.cells).length := by
   rw [hlen];have : (i + 1) * 22 <= l.length * 22 := Nat.mul_le_mul_right _ hi;omega
  have h5 := flat_get ShD.cells 22 ShD.length l i hi j hj;rw [List.getElem?_eq_getElem hlt, List.getElem?_eq_getElem (by rw [ShD.length]; exact hj)] at h5;rw [Nat.add_assoc, h3 _ hlt]
  simpa using h5
theorem underShow : Tryz.prog.underlying 65 = some (Tryz.prog.underlying 65).get! := by kernel_rfl
theorem givesV_load_mid {P : Program} {o : Oper} {kn : Kn} {f : Tmp -> Value} {xs : Nat -> Value} {w : World} {K : Value -> World -> Prop} (hg : o.guard = none) (ty : TypeId) (x : Operand) (ho : o.op = .load ty x) (b off : Nat) (hx : evalF f x = .pointer (some ⟨b, off, none⟩)) (cs : List Value) {d : TypeDesc} (hc : w.rangeAt b off cs)
  (hu : P.underlying ty = some d) (hd : d.isRow = true) (hi : (P.info? ty).map (·.size) = some cs.length) (hK : K (.agg cs.toArray) w) : givesV P o kn f xs w K := by
 unfold givesV;rw [hg];unfold execOp;simp only [ho, hx, Instr.loadAt, Instr.sureAddr, Sem.run_bind, Sem.run_pure, Result.andThen_ok, run_loadVar_mid w b off ty cs d hc hu hd hi];exact hK
theorem wpList_load_show {ops : Array Oper} {rest : List Oper} {o : Oper} {a : Act} {Q : Exit -> Act -> World -> Prop} {w : World} (hgd : o.guard = none) (x : Operand) (ho : o.op = .load 65 x) (b off : Nat)
  (hx : a.eval x = .pointer (some ⟨b, off, none⟩)) {cs : List Value} (hb : w.rangeAt b off cs) (hl : cs.length = 22)
  (h : wpList Tryz.prog ops Q rest (a.put o.dst (.agg cs.toArray)) w) : wpList Tryz.prog ops Q (o :: rest) a w :=
 wpList_load_mid hgd _ x ho b off hx cs _ hb underShow (by kernel_rfl) (by rw [hl]; kernel_rfl) h
theorem shows_at {w : World} {T c off n cap : Nat} {l : List ShD} (h : Row w T (.slice (some ⟨c, off, none⟩) n cap) l.length (l.flatMap ShD.cells)) {i : Nat} (hi : i < l.length) :
  w.cell? ⟨c, off + i * 22, none⟩ = some (.int .i64 l[i].x.ask) /\ w.cell? ⟨c, off + i * 22 + 1, none⟩ = some (.int .i64 l[i].x.body.lsn) /\ w.cell? ⟨c, off + i * 22 + 2, none⟩ = some (.int .i64 l[i].x.body.kind) /\ w.cell? ⟨c, off + i * 22 + 3, none⟩ = some (.int .i64 l[i].x.body.level) /\ w.cell? ⟨c, off + i * 22 + 4, none⟩ = some (.int .i64 l[i].x.body.right) /\ w.cell? ⟨c, off + i * 22 + 5, none⟩ = some (.string (str l[i].x.body.high)) /\ w.cell? ⟨c, off + i * 22 + 6, none⟩ = some (l[i].bv) /\ w.cell? ⟨c, off + i * 22 + 7, none⟩ = some (.int .i64 l[i].x.view.m) /\ w.cell? ⟨c, off + i * 22 + 8, none⟩ = some (.int .i64 l[i].x.view.next) /\ w.cell? ⟨c, off + i * 22 + 9, none⟩ = some (l[i].av) /\ w.cell? ⟨c, off + i * 22 + 10, none⟩ = some (.int .i64 l[i].x.view.own) /\ w.cell? ⟨c, off + i * 22 + 11, none⟩ = some (l[i].rv) /\ w.cell? ⟨c, off + i * 22 + 12, none⟩ = some (.int .i64 l[i].x.view.clog.lsn) /\ w.cell? ⟨c, off + i * 22 + 13, none⟩ = some (.int .i64 l[i].x.view.clog.kind) /\ w.cell? ⟨c, off + i * 22 + 14, none⟩ = some (.int .i64 l[i].x.view.clog.level) /\ w.cell? ⟨c, off + i * 22 + 15, none⟩ = some (.int .i64 l[i].x.view.clog.right) /\ w.cell? ⟨c, off + i * 22 + 16, none⟩ = some (.string (str l[i].x.view.clog.high)) /\ w.cell? ⟨c, off + i * 22 + 17, none⟩ = some (l[i].iv) /\ w.cell? ⟨c, off + i * 22 + 18, none⟩ = some (l[i].fv) /\ w.cell? ⟨c, off + i * 22 + 19, none⟩ = some (.bool l[i].x.got) /\ w.cell? ⟨c, off + i * 22 + 20, none⟩ = some (.int .i64 l[i].x.e) /\ w.cell? ⟨c, off + i * 22 + 21, none⟩ = some (.int .i64 l[i].x.n) := by
 have hc : ∀ j (hj : j < 22), w.cell? ⟨c, off + i * 22 + j, none⟩ = some (l[i].cells[j]'(by rw [ShD.length]; exact hj)) := by
  intro j hj;rcases h with ⟨h0, _⟩ | ⟨c', off', cap', e, h3⟩
  ·omega
  ·simp only [Value.slice.injEq, Option.some.injEq, Addr.mk.injEq, and_true] at e;obtain ⟨⟨rfl, rfl⟩, rfl, rfl⟩ := e;have hlen := flat_length ShD.cells 22 ShD.length l;have hlt : i * 22 + j < (l.flatMap ShD.cells).length := by
    rw [hlen];have : (i + 1) * 22 <= l.length * 22 := Nat.mul_le_mul_right _ hi;omega
   have h5 := flat_get ShD.cells 22 ShD.length l i hi j hj;rw [List.getElem?_eq_getElem hlt, List.getElem?_eq_getElem (by rw [ShD.length]; exact hj)] at h5;rw [Nat.add_assoc, h3 _ hlt]
   simpa using h5
 exact ⟨hc 0 (by decide), hc 1 (by decide), hc 2 (by decide), hc 3 (by decide), hc 4 (by decide), hc 5 (by decide), hc 6 (by decide), hc 7 (by decide), hc 8 (by decide), hc 9 (by decide), hc 10 (by decide), hc 11 (by decide), hc 12 (by decide), hc 13 (by decide), hc 14 (by decide), hc 15 (by decide), hc 16 (by decide), hc 17 (by decide), hc 18 (by decide), hc 19 (by decide), hc 20 (by decide), hc 21 (by decide)⟩
theorem row22_slice {w : World} {T m : Nat} {v : Value} {cs : List Value} (h : Row w T v m cs) : ∃ a c, v = .slice a m c /\ (0 < m -> ∃ b off, a = some ⟨b, off, none⟩) := by
 rcases h with ⟨rfl, _, a, c, rfl⟩ | ⟨c, off, cap, rfl, _⟩
 ·exact ⟨a, c, rfl, fun h => absurd h (by omega)⟩
 ·exact ⟨_, _, rfl, fun _ => ⟨_, _, rfl⟩⟩
end Go.Proofs.YtcdapdcablnhpaaGreat
