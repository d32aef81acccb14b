import Derived.Test.YtcdapdcablnhpaaGreatKZa6
import Derived.Test.YtcdapdcablnhpaaGreatKOpn4
namespace Go.Proofs.YtcdapdcablnhpaaGreat
open Go.ChangeShapes Go.WideShapes Go.ChangeAt Go.RowKit
theorem cellsBoolO : Tryz.prog.cellsOf 4 = 1 := by kernel_rfl
theorem cellsErrO : Tryz.prog.cellsOf 29 = 1 := by kernel_rfl
theorem cellsIntsO : Tryz.prog.cellsOf 23 = 1 := by kernel_rfl
theorem bytesIntO : Tryz.prog.bytesOf 3 = 8 := by kernel_rfl
theorem cellsSnapO : Tryz.prog.cellsOf 38 = 2 := by kernel_rfl
theorem cellsViewO : Tryz.prog.cellsOf 40 = 11 := by kernel_rfl
theorem cellsShowO : Tryz.prog.cellsOf 65 = 22 := by kernel_rfl
structure ShD where
 x : Sh
 bv : Value
 av : Value
 rv : Value
 iv : Value
 fv : Value
def ShD.cells (d : ShD) : List Value := shC d.x d.bv d.av d.rv d.iv d.fv
theorem ShD.length (d : ShD) : d.cells.length = 22 := rfl
instance : Inhabited ShD := ⟨⟨⟨0, zeroP, ⟨0, 0, [], 0, [], zeroP⟩, [], false, 0, 0⟩, .slice none 0 0, .slice none 0 0, .slice none 0 0, .slice none 0 0, .slice none 0 0⟩⟩
structure ShIn (w : World) (d : ShD) : Prop where
 pg : PgIn w d.bv d.x.body
 cap : Capd d.bv
 len : d.x.body.items.length ≤ 8796093021952
 vw : VwIn w d.x.view d.av d.rv d.iv
 fr : Ints w d.fv d.x.fresh
 frl : (d.x.fresh.length : Int) ≤ 17592186043904
theorem ShIn.fits {W w : World} {d : ShD} (h : ShIn W d) (k : Below W.heap.size W w) : ShIn w d := ⟨h.pg.fits k, h.cap, h.len, h.vw.fits k, Row.fits h.fr k, h.frl⟩
theorem ShIn.ok {W w : World} {d : ShD} {pb : Nat} (h : ShIn W d) (hb : Below W.heap.size W w) (hp : W.heap.size ≤ pb) : ShOk W.heap.size pb w d.x d.bv d.av d.rv d.iv d.fv :=
 ⟨fun _ k => h.pg.fits (Below.trans hb (k.below hp)), h.cap, Nat.le_trans h.len (by decide), fun _ k => h.vw.fits (Below.trans hb (k.below hp)), fun _ k => Row.fits h.fr (Below.trans hb (k.below hp)), by have := h.frl; omega⟩
theorem ShIn.forms {w : World} {d : ShD} (h : ShIn w d) : ∃ ba bn bc aa an ac ra rn rc ia iN ic fa fn fc, d.bv = .slice ba bn bc ∧ d.av = .slice aa an ac ∧ d.rv = .slice ra rn rc ∧ d.iv = .slice ia iN ic ∧ d.fv = .slice fa fn fc := by
 obtain ⟨ba, bc, e1⟩ := items_form h.pg.1
 obtain ⟨ia, ic, e2⟩ := items_form h.vw.items
 obtain ⟨ra, rc, e3, _⟩ := ints_form h.vw.run
 obtain ⟨aa, ac, e4, _⟩ := ints_form h.vw.act
 obtain ⟨fa, fc, e5, _⟩ := ints_form h.fr
 exact ⟨_, _, _, _, _, _, _, _, _, _, _, _, _, _, _, e1, e4, e3, e2, e5⟩
section
variable {H : Type} {enc : TypeId × Value → H} {w : World} {base : Nat} {spare : Nat → Bool} {held : Bool} {r : Reach} {b0 : Nat}
theorem len11o {α : Type} {l : List α} (h : l.length = 11) : ∃ c0 c1 c2 c3 c4 c5 c6 c7 c8 c9 c10, l = [c0, c1, c2, c3, c4, c5, c6, c7, c8, c9, c10] := by
 match l, h with
 | [c0, c1, c2, c3, c4, c5, c6, c7, c8, c9, c10], _ => exact ⟨c0, c1, c2, c3, c4, c5, c6, c7, c8, c9, c10, rfl⟩
theorem len22o {α : Type} {l : List α} (h : l.length = 22) : ∃ c0 c1 c2 c3 c4 c5 c6 c7 c8 c9 c10 c11 c12 c13 c14 c15 c16 c17 c18 c19 c20 c21, l = [c0, c1, c2, c3, c4, c5, c6, c7, c8, c9, c10, c11, c12, c13, c14, c15, c16, c17, c18, c19, c20, c21] := by
 match l, h with
 | [c0, c1, c2, c3, c4, c5, c6, c7, c8, c9, c10, c11, c12, c13, c14, c15, c16, c17, c18, c19, c20, c21], _ => exact ⟨c0, c1, c2, c3, c4, c5, c6, c7, c8, c9, c10, c11, c12, c13, c14, c15, c16, c17, c18, c19, c20, c21, rfl⟩
set_option maxRecDepth 100000 in
theorem ints_shape {n : Nat} {v : Value} {y : DataW H × List MemPlace} (h : DataW.trod enc Tryz.prog w base spare held n 23 [v] = some y) (hl : Light Tryz.prog 23 y.1) :
  ∃ l : List Int, Ints w v l ∧ (l.length : Int) ≤ 17592186043904 := by
 obtain ⟨l, h1, h3, h2⟩ := rows_of_light (fun x : Int => [Value.int .i64 x]) (fun _ => True) 1 3 (by decide) Tryz.underlying23 cellsInt (fun _ => rfl) (fun m cs y hy _ => by
  obtain ⟨x, h1, _⟩ := DataW.trod_int Tryz.underlying3 hy
  exact ⟨x, h1, trivial⟩) h hl
 have hlen := light_len hl Tryz.underlying23 h2
 rw [bytesIntO] at hlen
 have e9 : reachBytes = 140737488351232 := by decide
 refine ⟨l, ?_, by omega⟩
 have e : l.flatMap (fun x : Int => [Value.int .i64 x]) = iCells l := by
  clear h1 h3 h2 hlen
  induction l with
  | nil => rfl
  | cons a l ih => rw [List.flatMap_cons, ih]; rfl
 rw [e] at h1
 exact h1
theorem bool_shape {n : Nat} {v : Value} {y : DataW H × List MemPlace} (h : DataW.trod enc Tryz.prog w base spare held n 4 [v] = some y) : ∃ x : Bool, v = .bool x := by
 obtain ⟨x, h1, _⟩ := DataW.trod_bool Tryz.underlying4 h
 simp only [List.cons.injEq, and_true] at h1
 exact ⟨x, h1⟩
theorem err_shape {n : Nat} {v : Value} {y : DataW H × List MemPlace} (h : DataW.trod enc Tryz.prog w base spare held n 29 [v] = some y) : ∃ x : Int, v = .int .i64 x := by
 obtain ⟨x, h1, _⟩ := DataW.trod_int Tryz.underlying29 h
 simp only [List.cons.injEq, and_true] at h1
 exact ⟨x, h1⟩
set_option maxRecDepth 100000 in
theorem page_shape {n : Nat} {cs : List Value} {y : DataW H × List MemPlace} (h : DataW.trod enc Tryz.prog w base spare held n 28 cs = some y) (hl : Light Tryz.prog 28 y.1) :
  ∃ (P : Pg) (iv : Value), cs = pgCells P iv ∧ PgIn w iv P ∧ Capd iv ∧ P.items.length ≤ 8796093021952 := by
 obtain ⟨m, parts, hd, hc, hF⟩ := field_at Tryz.underlying28 h
 rw [cellsPage] at hc
 obtain ⟨a, b, c, dd, e, f, rfl⟩ := len6 hc
 obtain ⟨y0, h0, p0⟩ := hF 0 _ rfl
 obtain ⟨y1, h1, p1⟩ := hF 1 _ rfl
 obtain ⟨y2, h2, p2⟩ := hF 2 _ rfl
 obtain ⟨y3, h3, p3⟩ := hF 3 _ rfl
 obtain ⟨y4, h4, p4⟩ := hF 4 _ rfl
 obtain ⟨y5, h5, p5⟩ := hF 5 _ rfl
 rw [hd] at hl
 have hl4 := hl.part Tryz.underlying28 (i := 4) rfl p4
 have hl5 := hl.part Tryz.underlying28 (i := 5) rfl p5
 simp only [List.getElem_toArray, List.getElem_cons_zero, List.getElem_cons_succ] at h0 h1 h2 h3 h4 h5 hl4 hl5
 rw [cellsInt] at h0 h1 h2 h3
 rw [cellsString] at h4
 rw [cellsStrings] at h5
 obtain ⟨x0, rfl, hx0⟩ := int_light h0
 obtain ⟨x1, rfl, _⟩ := int_light h1
 obtain ⟨x2, rfl, _⟩ := int_light h2
 obtain ⟨x3, rfl, _⟩ := int_light h3
 obtain ⟨x4, rfl, hx4⟩ := string_light h4 hl4
 obtain ⟨l, g1, g2, g3⟩ := items_of_light h5 hl5
 refine ⟨⟨x0, x1, x2, x3, x4, l⟩, f, rfl, ⟨g1, g2, hx4, g3, hx0⟩, ?_⟩
 obtain ⟨a, k, c, rfl, k1, k2⟩ := room_of_light h5 hl5
 obtain ⟨a', c', e⟩ := items_form g1
 simp only [Value.slice.injEq] at e
 obtain ⟨_, e2, _⟩ := e
 subst e2
 exact ⟨k1, k2⟩
set_option maxRecDepth 100000 in
theorem view_shape {n : Nat} {cs : List Value} {y : DataW H × List MemPlace} (h : DataW.trod enc Tryz.prog w base spare held n 40 cs = some y) (hl : Light Tryz.prog 40 y.1) :
  ∃ (vw : Vw) (av rv iv : Value), cs = vwCells vw av rv iv ∧ VwIn w vw av rv iv := by
 obtain ⟨m, parts, hd, hc, hF⟩ := field_at Tryz.underlying40 h
 rw [cellsViewO] at hc
 obtain ⟨c0, c1, c2, c3, c4, c5, c6, c7, c8, c9, c10, rfl⟩ := len11o hc
 obtain ⟨y0, h0, p0⟩ := hF 0 _ rfl
 obtain ⟨y1, h1, p1⟩ := hF 1 _ rfl
 obtain ⟨y2, h2, p2⟩ := hF 2 _ rfl
 obtain ⟨y3, h3, p3⟩ := hF 3 _ rfl
 obtain ⟨y4, h4, p4⟩ := hF 4 _ rfl
 rw [hd] at hl
 have hl1 := hl.part Tryz.underlying40 (i := 1) rfl p1
 have hl3 := hl.part Tryz.underlying40 (i := 3) rfl p3
 have hl4 := hl.part Tryz.underlying40 (i := 4) rfl p4
 simp only [List.getElem_toArray, List.getElem_cons_zero, List.getElem_cons_succ] at h0 h1 h2 h3 h4 hl1 hl3 hl4
 rw [cellsInt] at h0 h2
 rw [cellsSnapO] at h1
 rw [cellsIntsO] at h3
 rw [cellsPage] at h4
 obtain ⟨x0, rfl⟩ := one_int h0
 obtain ⟨own, rfl⟩ := one_int h2
 obtain ⟨rl, r1, r2⟩ := ints_shape h3 hl3
 obtain ⟨_, sp, sd, _, sF⟩ := field_at Tryz.underlying38 h1
 obtain ⟨u0, s0, _⟩ := sF 0 _ rfl
 obtain ⟨u1, s1, q1⟩ := sF 1 _ rfl
 rw [sd] at hl1
 have hls := hl1.part Tryz.underlying38 (i := 1) rfl q1
 simp only [List.getElem_toArray, List.getElem_cons_zero, List.getElem_cons_succ] at s0 s1 hls
 rw [cellsInt] at s0
 rw [cellsIntsO] at s1
 obtain ⟨next, rfl⟩ := one_int s0
 obtain ⟨al, a1, a2⟩ := ints_shape s1 hls
 obtain ⟨P, iv, e, g1, _, g2⟩ := page_shape h4 hl4
 obtain ⟨lsn, kind, level, right, high, il⟩ := P
 simp only [pgCells, List.take, List.drop, List.cons.injEq, and_true] at e
 obtain ⟨rfl, rfl, rfl, rfl, rfl, rfl⟩ := e
 refine ⟨⟨x0, next, al, own, rl, ⟨lsn, kind, level, right, high, il⟩⟩, _, _, _, rfl, a1, r1, g1.1, by dsimp only; omega, by dsimp only; omega, by dsimp only at g2 ⊢; omega, fun x hx => Int.le_trans (g1.2.1 x hx) (by decide)⟩
set_option maxRecDepth 100000 in
set_option maxHeartbeats 1000000 in
theorem show_shape (n : Nat) (cs : List Value) (y : DataW H × List MemPlace) (h : DataW.trod enc Tryz.prog w base spare held n 65 cs = some y) (hl : Light Tryz.prog 65 y.1) :
  ∃ d : ShD, cs = d.cells ∧ ShIn w d := by
 obtain ⟨m, parts, hd, hc, hF⟩ := field_at Tryz.underlying65 h
 rw [cellsShowO] at hc
 obtain ⟨c0, c1, c2, c3, c4, c5, c6, c7, c8, c9, c10, c11, c12, c13, c14, c15, c16, c17, c18, c19, c20, c21, rfl⟩ := len22o hc
 obtain ⟨y0, h0, p0⟩ := hF 0 _ rfl
 obtain ⟨y1, h1, p1⟩ := hF 1 _ rfl
 obtain ⟨y2, h2, p2⟩ := hF 2 _ rfl
 obtain ⟨y3, h3, p3⟩ := hF 3 _ rfl
 obtain ⟨y4, h4, p4⟩ := hF 4 _ rfl
 obtain ⟨y5, h5, p5⟩ := hF 5 _ rfl
 obtain ⟨y6, h6, p6⟩ := hF 6 _ rfl
 rw [hd] at hl
 have hl1 := hl.part Tryz.underlying65 (i := 1) rfl p1
 have hl2 := hl.part Tryz.underlying65 (i := 2) rfl p2
 have hl3 := hl.part Tryz.underlying65 (i := 3) rfl p3
 simp only [List.getElem_toArray, List.getElem_cons_zero, List.getElem_cons_succ] at h0 h1 h2 h3 h4 h5 h6 hl1 hl2 hl3
 rw [cellsInt] at h0 h6
 rw [cellsPage] at h1
 rw [cellsViewO] at h2
 rw [cellsIntsO] at h3
 rw [cellsBoolO] at h4
 rw [cellsErrO] at h5
 obtain ⟨ask, rfl⟩ := one_int h0
 obtain ⟨nn, rfl⟩ := one_int h6
 obtain ⟨got, rfl⟩ := bool_shape h4
 obtain ⟨ee, rfl⟩ := err_shape h5
 obtain ⟨fr, f1, f2⟩ := ints_shape h3 hl3
 obtain ⟨P, bv, e, g1, g2, g3⟩ := page_shape h1 hl1
 simp only [pgCells, List.take, List.drop, List.cons.injEq, and_true] at e
 obtain ⟨rfl, rfl, rfl, rfl, rfl, rfl⟩ := e
 obtain ⟨vw, av, rv, iv, e, k1⟩ := view_shape h2 hl2
 simp only [vwCells, List.take, List.drop, List.cons.injEq, and_true] at e
 obtain ⟨rfl, rfl, rfl, rfl, rfl, rfl, rfl, rfl, rfl, rfl, rfl⟩ := e
 exact ⟨⟨⟨ask, P, vw, fr, got, ee, nn⟩, _, _, _, _, _⟩, rfl, g1, g2, g3, k1, f1, f2⟩
set_option maxRecDepth 100000 in
theorem show_of_trod {v : Value} {d : DataW H} {p : List MemPlace} (hval : Value.okWide Tryz.prog w r b0 65 v) (h : DataW.Trod enc Tryz.prog w base spare held 65 v d p) (hl : Light Tryz.prog 65 d) :
  ∃ s : ShD, v = shV s.x s.bv s.av s.rv s.iv s.fv ∧ ShIn w s := by
 obtain ⟨cs, rfl, hsz⟩ := okWide_struct Tryz.underlying65 hval
 obtain ⟨fuel, hf⟩ := h
 simp only [Value.cells] at hf
 obtain ⟨s, e, k⟩ := show_shape _ _ _ hf hl
 refine ⟨s, ?_, k⟩
 obtain ⟨l0⟩ := cs
 simp only at e
 rw [e]
 rfl
end
end Go.Proofs.YtcdapdcablnhpaaGreat
namespace Go.Proofs.YtcdapdcablnhpaaGreat
open Go.RowKit
theorem nil19_top (s : ShD) (w : World) (h : ShIn w s) :
  Calls Tryz.prog 8 #[shV s.x s.bv s.av s.rv s.iv s.fv] w fun y w' => y = .returned (.bool true) ∧ Below w.heap.size w w' := by
 obtain ⟨ba, bn, bc, aa, an, ac, ra, rn, rc, ia, iN, ic, fa, fn, fc, e1, e2, e3, e4, e5⟩ := h.forms
 obtain ⟨x, bv, av, rv, iv, fv⟩ := s
 dsimp only at e1 e2 e3 e4 e5 ⊢
 subst e1 e2 e3 e4 e5
 exact nil_law x _ _ _ _ _ _ _ _ _ _ _ _ _ _ _ w
end Go.Proofs.YtcdapdcablnhpaaGreat
