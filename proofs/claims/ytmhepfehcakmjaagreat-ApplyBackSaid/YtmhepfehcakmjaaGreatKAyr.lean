import Derived.Test.YtmhepfehcakmjaaGreatKAyd
import Derived.Test.YtmhepfehcakmjaaGreatKOpn4
namespace Go.Proofs.YtmhepfehcakmjaaGreat
open Go.ChangeShapes Go.WideShapes Go.ChangeAt Go.RowKit
theorem cellsKindY : Tryz.prog.cellsOf 27 = 1 := by kernel_rfl
theorem cellsIntsY : Tryz.prog.cellsOf 28 = 1 := by kernel_rfl
theorem bytesIntY : Tryz.prog.bytesOf 3 = 8 := by kernel_rfl
theorem cellsImageY : Tryz.prog.cellsOf 44 = 7 := by kernel_rfl
theorem bytesImageY : Tryz.prog.bytesOf 44 = 80 := by kernel_rfl
theorem cellsImagesY : Tryz.prog.cellsOf 29 = 1 := by kernel_rfl
theorem cellsOwedY : Tryz.prog.cellsOf 30 = 1 := by kernel_rfl
theorem cellsBegunY : Tryz.prog.cellsOf 31 = 1 := by kernel_rfl
theorem cellsRecordY : Tryz.prog.cellsOf 33 = 16 := by kernel_rfl
instance : Inhabited Img := ⟨⟨0, zeroP, .slice none 0 0⟩⟩
structure RcD where
 R : Rc
 V : RcV
def RcD.cells (d : RcD) : List Value := rcC d.R d.V
theorem RcD.length (d : RcD) : d.cells.length = 16 := rfl
instance : Inhabited RcD := ⟨⟨zeroR, zeroV⟩⟩
def RcG (w : World) (d : RcD) : Prop := RcIn w d.R d.V /\ d.R.lsn <= 9223372036854775807
section
variable {H : Type} {enc : TypeId × Value -> H} {w : World} {base : Nat} {spare : Nat -> Bool} {held : Bool} {r : Reach} {b0 : Nat}
theorem len7y {α : Type} {l : List α} (h : l.length = 7) : ∃ c0 c1 c2 c3 c4 c5 c6, l = [c0, c1, c2, c3, c4, c5, c6] := by
 match l, h with
 | [c0, c1, c2, c3, c4, c5, c6], _ => exact ⟨c0, c1, c2, c3, c4, c5, c6, rfl⟩
theorem len16y {α : Type} {l : List α} (h : l.length = 16) : ∃ c0 c1 c2 c3 c4 c5 c6 c7 c8 c9 c10 c11 c12 c13 c14 c15, l = [c0, c1, c2, c3, c4, c5, c6, c7, c8, c9, c10, c11, c12, c13, c14, c15] := by
 match l, h with
 | [c0, c1, c2, c3, c4, c5, c6, c7, c8, c9, c10, c11, c12, c13, c14, c15], _ => exact ⟨c0, c1, c2, c3, c4, c5, c6, c7, c8, c9, c10, c11, c12, c13, c14, c15, rfl⟩
theorem slice_shapeY {t e : TypeId} {n : Nat} {v : Value} {y : DataW H × List MemPlace} (ht : Tryz.prog.underlying t = some (.slice e)) (h : DataW.trod enc Tryz.prog w base spare held n t [v] = some y) : ∃ a k c, v = .slice a k c := by
 rcases DataW.trod_slice ht h with ⟨hcs, rfl⟩ | ⟨a, len, cap, elems, rest, n, hf, hcs, _⟩
 ·simp only [List.cons.injEq, and_true] at hcs;exact ⟨_, _, _, hcs⟩
 ·simp only [List.cons.injEq, and_true] at hcs;exact ⟨_, _, _, hcs⟩
set_option maxRecDepth 100000 in
theorem ints_shapeY {n : Nat} {v : Value} {y : DataW H × List MemPlace} (h : DataW.trod enc Tryz.prog w base spare held n 28 [v] = some y) (hl : Light Tryz.prog 28 y.1) :
  ∃ (l : List Int) (a : Option Addr) (c : Nat), v = .slice a l.length c /\ Ints w v l /\ (l.length : Int) <= 17592186043904 := by
 obtain ⟨l, h1, h3, h2⟩ := rows_of_light (fun x : Int => [Value.int .i64 x]) (fun _ => True) 1 3 (by decide) Tryz.underlying28 cellsInt (fun _ => rfl) (fun m cs y hy _ => by
  obtain ⟨x, h1, _⟩ := DataW.trod_int Tryz.underlying3 hy
  exact ⟨x, h1, trivial⟩) h hl
 have hlen := light_len hl Tryz.underlying28 h2;rw [bytesIntY] at hlen;have e9 : reachBytes = 140737488351232 := by decide
 have e : l.flatMap (fun x : Int => [Value.int .i64 x]) = iCells l := by
  clear h1 h3 h2 hlen
  induction l with
  | nil => rfl
  | cons a l ih => rw [List.flatMap_cons, ih]; rfl
 rw [e] at h1;obtain ⟨a, c, hv⟩ := row_slice h1;exact ⟨l, a, c, hv, h1, by omega⟩
theorem kind_shapeY {n : Nat} {v : Value} {y : DataW H × List MemPlace} (h : DataW.trod enc Tryz.prog w base spare held n 27 [v] = some y) : ∃ x : Int, v = .int .u8 x /\ 0 <= x /\ x <= 255 := by
 obtain ⟨x, h1, _, h2⟩ := DataW.trod_int Tryz.underlying27 h;simp only [List.cons.injEq, and_true] at h1;refine ⟨x, h1, ?_⟩;have e1 : IntKind.u8.min = 0 := rfl;have e2 : IntKind.u8.max = 255 := rfl;simp only [Lit.wf, Bool.and_eq_true, decide_eq_true_eq] at h2;omega
set_option maxRecDepth 100000 in
theorem page_shapeY {n : Nat} {cs : List Value} {y : DataW H × List MemPlace} (h : DataW.trod enc Tryz.prog w base spare held n 24 cs = some y) (hl : Light Tryz.prog 24 y.1) :
  ∃ (P : Pg) (iv : Value), cs = pgCells P iv /\ PgIn w iv P /\ P.items.length <= 8796093021952 := by
 obtain ⟨m, parts, hd, hc, hF⟩ := field_at Tryz.underlying24 h;rw [cellsPage] at hc;obtain ⟨a, b, c, dd, e, f, rfl⟩ := len6 hc;obtain ⟨y0, h0, p0⟩ := hF 0 _ rfl;obtain ⟨y1, h1, p1⟩ := hF 1 _ rfl;obtain ⟨y2, h2, p2⟩ := hF 2 _ rfl;obtain ⟨y3, h3, p3⟩ := hF 3 _ rfl;obtain ⟨y4, h4, p4⟩ := hF 4 _ rfl;obtain ⟨y5, h5, p5⟩ := hF 5 _ rfl;rw [hd] at hl;have hl4 := hl.part Tryz.underlying24 (i := 4) rfl p4;have hl5 := hl.part Tryz.underlying24 (i := 5) rfl p5;simp only [List.getElem_toArray, List.getElem_cons_zero, List.getElem_cons_succ] at h0 h1 h2 h3 h4 h5 hl4 hl5;rw [cellsInt] at h0 h1 h2 h3;rw [cellsString] at h4;rw [cellsStrings] at h5;obtain ⟨x0, rfl, hx0⟩ := int_light h0;obtain ⟨x1, rfl, _⟩ := int_light h1;obtain ⟨x2, rfl, _⟩ := int_light h2;obtain ⟨x3, rfl, _⟩ := int_light h3;obtain ⟨x4, rfl, hx4⟩ := string_light h4 hl4;obtain ⟨l, g1, g2, g3⟩ := items_of_light h5 hl5;refine ⟨⟨x0, x1, x2, x3, x4, l⟩, f, rfl, ⟨g1, g2, hx4, g3, hx0⟩, ?_⟩;obtain ⟨a, k, c, rfl, k1, k2⟩ := room_of_light h5 hl5;obtain ⟨a', c', e⟩ := items_form g1;simp only [Value.slice.injEq] at e;obtain ⟨_, e2, _⟩ := e;subst e2;exact k2
set_option maxRecDepth 100000 in
theorem image_shapeY (n : Nat) (cs : List Value) (y : DataW H × List MemPlace) (h : DataW.trod enc Tryz.prog w base spare held n 44 cs = some y) (hl : Light Tryz.prog 44 y.1) :
  ∃ m : Img, cs = imC m /\ PgIn w m.iv m.body /\ m.body.items.length <= 8796093021952 := by
 obtain ⟨m, parts, hd, hc, hF⟩ := field_at Tryz.underlying44 h;rw [cellsImageY] at hc;obtain ⟨c0, c1, c2, c3, c4, c5, c6, rfl⟩ := len7y hc;obtain ⟨y0, h0, p0⟩ := hF 0 _ rfl;obtain ⟨y1, h1, p1⟩ := hF 1 _ rfl;rw [hd] at hl;have hl1 := hl.part Tryz.underlying44 (i := 1) rfl p1;simp only [List.getElem_toArray, List.getElem_cons_zero, List.getElem_cons_succ] at h0 h1 hl1;rw [cellsInt] at h0;rw [cellsPage] at h1;obtain ⟨x0, rfl⟩ := one_int h0;obtain ⟨P, bv, e, g1, g2⟩ := page_shapeY h1 hl1;simp only [pgCells, List.take, List.drop, List.cons.injEq, and_true] at e;obtain ⟨rfl, rfl, rfl, rfl, rfl, rfl⟩ := e;exact ⟨⟨x0, P, _⟩, rfl, g1, g2⟩
set_option maxRecDepth 100000 in
set_option maxHeartbeats 1000000 in
theorem record_shapeY (n : Nat) (cs : List Value) (y : DataW H × List MemPlace) (h : DataW.trod enc Tryz.prog w base spare held n 33 cs = some y) (hl : Light Tryz.prog 33 y.1) :
  ∃ d : RcD, cs = d.cells /\ RcG w d := by
 obtain ⟨m, parts, hd, hc, hF⟩ := field_at Tryz.underlying33 h;rw [cellsRecordY] at hc;obtain ⟨c0, c1, c2, c3, c4, c5, c6, c7, c8, c9, c10, c11, c12, c13, c14, c15, rfl⟩ := len16y hc;obtain ⟨y0, h0, p0⟩ := hF 0 _ rfl;obtain ⟨y1, h1, p1⟩ := hF 1 _ rfl;obtain ⟨y2, h2, p2⟩ := hF 2 _ rfl;obtain ⟨y3, h3, p3⟩ := hF 3 _ rfl;obtain ⟨y4, h4, p4⟩ := hF 4 _ rfl;obtain ⟨y5, h5, p5⟩ := hF 5 _ rfl;obtain ⟨y6, h6, p6⟩ := hF 6 _ rfl;obtain ⟨y7, h7, p7⟩ := hF 7 _ rfl;obtain ⟨y8, h8, p8⟩ := hF 8 _ rfl;obtain ⟨y9, h9, p9⟩ := hF 9 _ rfl;obtain ⟨y10, h10, p10⟩ := hF 10 _ rfl;obtain ⟨y11, h11, p11⟩ := hF 11 _ rfl;obtain ⟨y12, h12, p12⟩ := hF 12 _ rfl;obtain ⟨y13, h13, p13⟩ := hF 13 _ rfl;obtain ⟨y14, h14, p14⟩ := hF 14 _ rfl;obtain ⟨y15, h15, p15⟩ := hF 15 _ rfl;rw [hd] at hl;have hl10 := hl.part Tryz.underlying33 (i := 10) rfl p10;have hl11 := hl.part Tryz.underlying33 (i := 11) rfl p11;have hl12 := hl.part Tryz.underlying33 (i := 12) rfl p12;have hl13 := hl.part Tryz.underlying33 (i := 13) rfl p13;simp only [List.getElem_toArray, List.getElem_cons_zero, List.getElem_cons_succ] at h0 h1 h2 h3 h4 h5 h6 h7 h8 h9 h10 h11 h12 h13 h14 h15 hl10 hl11 hl12 hl13;rw [cellsInt] at h0 h1 h2 h4 h5 h6 h7 h8 h9;rw [cellsKindY] at h3;rw [cellsString] at h10;rw [cellsIntsY] at h11 h12;rw [cellsImagesY] at h13;rw [cellsOwedY] at h14;rw [cellsBegunY] at h15;obtain ⟨x0, rfl, hx0⟩ := int_light h0;obtain ⟨x1, rfl⟩ := one_int h1;obtain ⟨x2, rfl⟩ := one_int h2;obtain ⟨x3, rfl, k0, k1⟩ := kind_shapeY h3
 obtain ⟨x4, rfl⟩ := one_int h4;obtain ⟨x5, rfl⟩ := one_int h5;obtain ⟨x6, rfl⟩ := one_int h6;obtain ⟨x7, rfl⟩ := one_int h7;obtain ⟨x8, rfl⟩ := one_int h8;obtain ⟨x9, rfl⟩ := one_int h9;obtain ⟨s10, rfl, hs10⟩ := string_light h10 hl10;obtain ⟨l11, a11, b11, rfl, i11, n11⟩ := ints_shapeY h11 hl11;obtain ⟨l12, a12, b12, rfl, i12, n12⟩ := ints_shapeY h12 hl12;obtain ⟨l13, i13, g13, d13⟩ := rows_of_light imC (fun m : Img => PgIn w m.iv m.body /\ m.body.items.length <= 8796093021952) 7 44 (by decide) Tryz.underlying29 cellsImageY imC_length image_shapeY h13 hl13;have hlen := light_len hl13 Tryz.underlying29 d13;rw [bytesImageY] at hlen;have e9 : reachBytes = 140737488351232 := by decide
 obtain ⟨a13, b13, rfl⟩ := row_slice i13;obtain ⟨a14, n14, b14, rfl⟩ := slice_shapeY Tryz.underlying30 h14;obtain ⟨a15, n15, b15, rfl⟩ := slice_shapeY Tryz.underlying31 h15;exact ⟨⟨⟨x0, x1, x2, x3, x4, x5, x6, x7, x8, x9, s10, l11, l12, l13⟩, ⟨a11, b11, a12, b12, a13, b13, a14, n14, b14, a15, n15, b15⟩⟩, rfl, ⟨i11, i12, i13, g13, hs10, n11, n12, by dsimp only; omega, k0, k1⟩, hx0⟩
set_option maxRecDepth 100000 in
theorem record_of_trodY {v : Value} {d : DataW H} {p : List MemPlace} (hval : Value.okWide Tryz.prog w r b0 33 v) (h : DataW.Trod enc Tryz.prog w base spare held 33 v d p) (hl : Light Tryz.prog 33 d) :
  ∃ s : RcD, v = rcV s.R s.V /\ RcG w s := by
 obtain ⟨cs, rfl, hsz⟩ := okWide_struct Tryz.underlying33 hval;obtain ⟨fuel, hf⟩ := h;simp only [Value.cells] at hf;obtain ⟨s, e, k⟩ := record_shapeY _ _ _ hf hl;refine ⟨s, ?_, k⟩;obtain ⟨l0⟩ := cs;simp only at e;rw [e]
 rfl
set_option maxRecDepth 100000 in
theorem page_of_trodY {v : Value} {d : DataW H} {p : List MemPlace} (hval : Value.okWide Tryz.prog w r b0 24 v) (h : DataW.Trod enc Tryz.prog w base spare held 24 v d p) (hl : Light Tryz.prog 24 d) :
  ∃ (P : Pg) (iv : Value), v = pgV P iv /\ PgIn w iv P /\ P.items.length <= 8796093021952 := by
 obtain ⟨cs, rfl, hsz⟩ := okWide_struct Tryz.underlying24 hval;obtain ⟨fuel, hf⟩ := h;simp only [Value.cells] at hf;obtain ⟨P, iv, e, k⟩ := page_shapeY hf hl;refine ⟨P, iv, ?_, k⟩;obtain ⟨l0⟩ := cs;simp only at e;rw [e]
 rfl
end
theorem Tryz.own : ownKnob Tryz.prog.godebug = none := by kernel_rfl
theorem Tryz.laidOut : laidOutB Tryz.prog = true := by kernel_rfl
end Go.Proofs.YtmhepfehcakmjaaGreat
namespace Go.Proofs.YtmhepfehcakmjaaGreat
open Go.RowKit
attribute [local go_sem] givesV lookV knAt hgs
def ItA (w_ u : World) (v : Value) (l : List (List UInt8)) : Prop := Items w_ v l \/ ItemsS u v l
theorem ItA.items {w_ u : World} {v : Value} {l : List (List UInt8)} (h : ItA w_ u v l) (g : Below w_.heap.size w_ u) : Items u v l := h.elim (fun h => Row.fits h g) fun h => h.weak
theorem ItA.fits {w_ u x : World} {v : Value} {l : List (List UInt8)} (h : ItA w_ u v l) (g : Grow u x) : ItA w_ x v l := h.imp id fun h => RowS.fits h g
theorem ItA.but {w_ u x : World} {b : Nat} {cs : List Value} {v : Value} {l : List (List UInt8)} {t : Nat} (h : ItA w_ u v l) (k : But b u x) (hb : Blk u b t cs) (ht : t ≠ 9) : ItA w_ x v l := h.imp id fun h => h.but k (ne_blk hb ht)
theorem ItA.form {w_ u : World} {v : Value} {l : List (List UInt8)} (h : ItA w_ u v l) : ∃ a c, v = .slice a l.length c := h.elim (fun h => items_form h) fun h => itemsS_form h
end Go.Proofs.YtmhepfehcakmjaaGreat
