import Derived.Test.YtmhepfehcakmjaaGreatKAyf
import Derived.Test.YtmhepfehcakmjaaGreatKOpn4
namespace Go.Proofs.YtmhepfehcakmjaaGreat
open Go.ChangeShapes Go.WideShapes Go.ChangeAt Go.RowKit
theorem cellsKindY : Tryz.prog.cellsOf 27 = 1 := by kernel_rfl
theorem cellsIntsY : Tryz.prog.cellsOf 28 = 1 := by kernel_rfl
theorem bytesIntY : Tryz.prog.bytesOf 3 = 8 := by kernel_rfl
theorem cellsImageY : Tryz.prog.cellsOf 44 = 7 := by kernel_rfl
theorem bytesImageY : Tryz.prog.bytesOf 44 = 80 := by kernel_rfl
theorem cellsImagesY : Tryz.prog.cellsOf 29 = 1 := by kernel_rfl
theorem cellsOwedY : Tryz.prog.cellsOf 30 = 1 := by kernel_rfl
theorem cellsBegunY : Tryz.prog.cellsOf 31 = 1 := by kernel_rfl
theorem cellsRecordY : Tryz.prog.cellsOf 33 = 16 := by kernel_rfl
theorem bytesRecordY : Tryz.prog.bytesOf 33 = 216 := by kernel_rfl
theorem cellsOnY : Tryz.prog.cellsOf 26 = 7 := by kernel_rfl
theorem cellsPairY : Tryz.prog.cellsOf 42 = 12 := by kernel_rfl
instance : Inhabited Img := ⟨⟨0, zeroP, .slice none 0 0⟩⟩
structure RcD where
 R : Rc
 V : RcV
def RcD.cells (d : RcD) : List Value := rcC d.R d.V
theorem RcD.length (d : RcD) : d.cells.length = 16 := rfl
instance : Inhabited RcD := ⟨⟨zeroR, zeroV⟩⟩
def RcG (w : World) (d : RcD) : Prop := RcIn w d.R d.V /\ d.R.lsn <= 9223372036854775807
section
variable {H : Type} {enc : TypeId × Value -> H} {w : World} {base : Nat} {spare : Nat -> Bool} {held : Bool} {r : Reach} {b0 : Nat}
theorem len7y {α : Type} {l : List α} (h : l.length = 7) : ∃ c0 c1 c2 c3 c4 c5 c6, l = [c0, c1, c2, c3, c4, c5, c6] := by
 match l, h with
 | [c0, c1, c2, c3, c4, c5, c6], _ => exact ⟨c0, c1, c2, c3, c4, c5, c6, rfl⟩
theorem len12y {α : Type} {l : List α} (h : l.length = 12) : ∃ c0 c1 c2 c3 c4 c5 c6 c7 c8 c9 c10 c11, l = [c0, c1, c2, c3, c4, c5, c6, c7, c8, c9, c10, c11] := by
 match l, h with
 | [c0, c1, c2, c3, c4, c5, c6, c7, c8, c9, c10, c11], _ => exact ⟨c0, c1, c2, c3, c4, c5, c6, c7, c8, c9, c10, c11, rfl⟩
theorem len16y {α : Type} {l : List α} (h : l.length = 16) : ∃ c0 c1 c2 c3 c4 c5 c6 c7 c8 c9 c10 c11 c12 c13 c14 c15, l = [c0, c1, c2, c3, c4, c5, c6, c7, c8, c9, c10, c11, c12, c13, c14, c15] := by
 match l, h with
 | [c0, c1, c2, c3, c4, c5, c6, c7, c8, c9, c10, c11, c12, c13, c14, c15], _ => exact ⟨c0, c1, c2, c3, c4, c5, c6, c7, c8, c9, c10, c11, c12, c13, c14, c15, rfl⟩
theorem slice_shapeY {t e : TypeId} {n : Nat} {v : Value} {y : DataW H × List MemPlace} (ht : Tryz.prog.underlying t = some (.slice e)) (h : DataW.trod enc Tryz.prog w base spare held n t [v] = some y) : ∃ a k c, v = .slice a k c := by
 rcases DataW.trod_slice ht h with ⟨hcs, rfl⟩ | ⟨a, len, cap, elems, rest, n, hf, hcs, _⟩
 ·simp only [List.cons.injEq, and_true] at hcs;exact ⟨_, _, _, hcs⟩
 ·simp only [List.cons.injEq, and_true] at hcs;exact ⟨_, _, _, hcs⟩
set_option maxRecDepth 100000 in
theorem ints_shapeY {n : Nat} {v : Value} {y : DataW H × List MemPlace} (h : DataW.trod enc Tryz.prog w base spare held n 28 [v] = some y) (hl : Light Tryz.prog 28 y.1) :
  ∃ (l : List Int) (a : Option Addr) (c : Nat), v = .slice a l.length c /\ Ints w v l /\ (l.length : Int) <= 17592186043904 := by
 obtain ⟨l, h1, h3, h2⟩ := rows_of_light (fun x : Int => [Value.int .i64 x]) (fun _ => True) 1 3 (by decide) Tryz.underlying28 cellsInt (fun _ => rfl) (fun m cs y hy _ => by
  obtain ⟨x, h1, _⟩ := DataW.trod_int Tryz.underlying3 hy
  exact ⟨x, h1, trivial⟩) h hl
 have hlen := light_len hl Tryz.underlying28 h2;rw [bytesIntY] at hlen;have e9 : reachBytes = 140737488351232 := by decide
 have e : l.flatMap (fun x : Int => [Value.int .i64 x]) = iCells l := by
  clear h1 h3 h2 hlen
  induction l with
  | nil => rfl
  | cons a l ih => rw [List.flatMap_cons, ih]; rfl
 rw [e] at h1;obtain ⟨a, c, hv⟩ := row_slice h1;exact ⟨l, a, c, hv, h1, by omega⟩
theorem kind_shapeY {n : Nat} {v : Value} {y : DataW H × List MemPlace} (h : DataW.trod enc Tryz.prog w base spare held n 27 [v] = some y) : ∃ x : Int, v = .int .u8 x /\ 0 <= x /\ x <= 255 := by
 obtain ⟨x, h1, _, h2⟩ := DataW.trod_int Tryz.underlying27 h;simp only [List.cons.injEq, and_true] at h1;refine ⟨x, h1, ?_⟩;have e1 : IntKind.u8.min = 0 := rfl;have e2 : IntKind.u8.max = 255 := rfl;simp only [Lit.wf, Bool.and_eq_true, decide_eq_true_eq] at h2;omega
set_option maxRecDepth 100000 in
theorem page_shapeY {n : Nat} {cs : List Value} {y : DataW H × List MemPlace} (h : DataW.trod enc Tryz.prog w base spare held n 24 cs = some y) (hl : Light Tryz.prog 24 y.1) :
  ∃ (P : Pg) (iv : Value), cs = pgCells P iv /\ PgIn w iv P /\ P.items.length <= 8796093021952 := by
 obtain ⟨m, parts, hd, hc, hF⟩ := field_at Tryz.underlying24 h;rw [cellsPage] at hc;obtain ⟨a, b, c, dd, e, f, rfl⟩ := len6 hc;obtain ⟨y0, h0, p0⟩ := hF 0 _ rfl;obtain ⟨y1, h1, p1⟩ := hF 1 _ rfl;obtain ⟨y2, h2, p2⟩ := hF 2 _ rfl;obtain ⟨y3, h3, p3⟩ := hF 3 _ rfl;obtain ⟨y4, h4, p4⟩ := hF 4 _ rfl;obtain ⟨y5, h5, p5⟩ := hF 5 _ rfl;rw [hd] at hl;have hl4 := hl.part Tryz.underlying24 (i := 4) rfl p4;have hl5 := hl.part Tryz.underlying24 (i := 5) rfl p5;simp only [List.getElem_toArray, List.getElem_cons_zero, List.getElem_cons_succ] at h0 h1 h2 h3 h4 h5 hl4 hl5;rw [cellsInt] at h0 h1 h2 h3;rw [cellsString] at h4;rw [cellsStrings] at h5;obtain ⟨x0, rfl, hx0⟩ := int_light h0;obtain ⟨x1, rfl, _⟩ := int_light h1;obtain ⟨x2, rfl, _⟩ := int_light h2;obtain ⟨x3, rfl, _⟩ := int_light h3;obtain ⟨x4, rfl, hx4⟩ := string_light h4 hl4;obtain ⟨l, g1, g2, g3⟩ := items_of_light h5 hl5;refine ⟨⟨x0, x1, x2, x3, x4, l⟩, f, rfl, ⟨g1, g2, hx4, g3, hx0⟩, ?_⟩;obtain ⟨a, k, c, rfl, k1, k2⟩ := room_of_light h5 hl5;obtain ⟨a', c', e⟩ := items_form g1;simp only [Value.slice.injEq] at e;obtain ⟨_, e2, _⟩ := e;subst e2;exact k2
set_option maxRecDepth 100000 in
theorem image_shapeY (n : Nat) (cs : List Value) (y : DataW H × List MemPlace) (h : DataW.trod enc Tryz.prog w base spare held n 44 cs = some y) (hl : Light Tryz.prog 44 y.1) :
  ∃ m : Img, cs = imC m /\ PgIn w m.iv m.body /\ m.body.items.length <= 8796093021952 := by
 obtain ⟨m, parts, hd, hc, hF⟩ := field_at Tryz.underlying44 h;rw [cellsImageY] at hc;obtain ⟨c0, c1, c2, c3, c4, c5, c6, rfl⟩ := len7y hc;obtain ⟨y0, h0, p0⟩ := hF 0 _ rfl;obtain ⟨y1, h1, p1⟩ := hF 1 _ rfl;rw [hd] at hl;have hl1 := hl.part Tryz.underlying44 (i := 1) rfl p1;simp only [List.getElem_toArray, List.getElem_cons_zero, List.getElem_cons_succ] at h0 h1 hl1;rw [cellsInt] at h0;rw [cellsPage] at h1;obtain ⟨x0, rfl⟩ := one_int h0;obtain ⟨P, bv, e, g1, g2⟩ := page_shapeY h1 hl1;simp only [pgCells, List.take, List.drop, List.cons.injEq, and_true] at e;obtain ⟨rfl, rfl, rfl, rfl, rfl, rfl⟩ := e;exact ⟨⟨x0, P, _⟩, rfl, g1, g2⟩
set_option maxRecDepth 100000 in
set_option maxHeartbeats 1000000 in
theorem record_shapeY (n : Nat) (cs : List Value) (y : DataW H × List MemPlace) (h : DataW.trod enc Tryz.prog w base spare held n 33 cs = some y) (hl : Light Tryz.prog 33 y.1) :
  ∃ d : RcD, cs = d.cells /\ RcG w d := by
 obtain ⟨m, parts, hd, hc, hF⟩ := field_at Tryz.underlying33 h;rw [cellsRecordY] at hc;obtain ⟨c0, c1, c2, c3, c4, c5, c6, c7, c8, c9, c10, c11, c12, c13, c14, c15, rfl⟩ := len16y hc;obtain ⟨y0, h0, p0⟩ := hF 0 _ rfl;obtain ⟨y1, h1, p1⟩ := hF 1 _ rfl;obtain ⟨y2, h2, p2⟩ := hF 2 _ rfl;obtain ⟨y3, h3, p3⟩ := hF 3 _ rfl;obtain ⟨y4, h4, p4⟩ := hF 4 _ rfl;obtain ⟨y5, h5, p5⟩ := hF 5 _ rfl;obtain ⟨y6, h6, p6⟩ := hF 6 _ rfl;obtain ⟨y7, h7, p7⟩ := hF 7 _ rfl;obtain ⟨y8, h8, p8⟩ := hF 8 _ rfl;obtain ⟨y9, h9, p9⟩ := hF 9 _ rfl;obtain ⟨y10, h10, p10⟩ := hF 10 _ rfl;obtain ⟨y11, h11, p11⟩ := hF 11 _ rfl;obtain ⟨y12, h12, p12⟩ := hF 12 _ rfl;obtain ⟨y13, h13, p13⟩ := hF 13 _ rfl;obtain ⟨y14, h14, p14⟩ := hF 14 _ rfl;obtain ⟨y15, h15, p15⟩ := hF 15 _ rfl;rw [hd] at hl;have hl10 := hl.part Tryz.underlying33 (i := 10) rfl p10;have hl11 := hl.part Tryz.underlying33 (i := 11) rfl p11;have hl12 := hl.part Tryz.underlying33 (i := 12) rfl p12;have hl13 := hl.part Tryz.underlying33 (i := 13) rfl p13;simp only [List.getElem_toArray, List.getElem_cons_zero, List.getElem_cons_succ] at h0 h1 h2 h3 h4 h5 h6 h7 h8 h9 h10 h11 h12 h13 h14 h15 hl10 hl11 hl12 hl13;rw [cellsInt] at h0 h1 h2 h4 h5 h6 h7 h8 h9;rw [cellsKindY] at h3;rw [cellsString] at h10;rw [cellsIntsY] at h11 h12;rw [cellsImagesY] at h13;rw [cellsOwedY] at h14;rw [cellsBegunY] at h15;obtain ⟨x0, rfl, hx0⟩ := int_light h0;obtain ⟨x1, rfl⟩ := one_int h1;obtain ⟨x2, rfl⟩ := one_int h2;obtain ⟨x3, rfl, k0, k1⟩ := kind_shapeY h3
 obtain ⟨x4, rfl⟩ := one_int h4;obtain ⟨x5, rfl⟩ := one_int h5;obtain ⟨x6, rfl⟩ := one_int h6;obtain ⟨x7, rfl⟩ := one_int h7;obtain ⟨x8, rfl⟩ := one_int h8;obtain ⟨x9, rfl⟩ := one_int h9;obtain ⟨s10, rfl, hs10⟩ := string_light h10 hl10;obtain ⟨l11, a11, b11, rfl, i11, n11⟩ := ints_shapeY h11 hl11;obtain ⟨l12, a12, b12, rfl, i12, n12⟩ := ints_shapeY h12 hl12;obtain ⟨l13, i13, g13, d13⟩ := rows_of_light imC (fun m : Img => PgIn w m.iv m.body /\ m.body.items.length <= 8796093021952) 7 44 (by decide) Tryz.underlying29 cellsImageY imC_length image_shapeY h13 hl13;have hlen := light_len hl13 Tryz.underlying29 d13;rw [bytesImageY] at hlen;have e9 : reachBytes = 140737488351232 := by decide
 obtain ⟨a13, b13, rfl⟩ := row_slice i13;obtain ⟨a14, n14, b14, rfl⟩ := slice_shapeY Tryz.underlying30 h14;obtain ⟨a15, n15, b15, rfl⟩ := slice_shapeY Tryz.underlying31 h15;exact ⟨⟨⟨x0, x1, x2, x3, x4, x5, x6, x7, x8, x9, s10, l11, l12, l13⟩, ⟨a11, b11, a12, b12, a13, b13, a14, n14, b14, a15, n15, b15⟩⟩, rfl, ⟨i11, i12, i13, g13, hs10, n11, n12, by dsimp only; omega, k0, k1⟩, hx0⟩
set_option maxRecDepth 100000 in
theorem record_of_trodY {v : Value} {d : DataW H} {p : List MemPlace} (hval : Value.okWide Tryz.prog w r b0 33 v) (h : DataW.Trod enc Tryz.prog w base spare held 33 v d p) (hl : Light Tryz.prog 33 d) :
  ∃ s : RcD, v = rcV s.R s.V /\ RcG w s := by
 obtain ⟨cs, rfl, hsz⟩ := okWide_struct Tryz.underlying33 hval;obtain ⟨fuel, hf⟩ := h;simp only [Value.cells] at hf;obtain ⟨s, e, k⟩ := record_shapeY _ _ _ hf hl;refine ⟨s, ?_, k⟩;obtain ⟨l0⟩ := cs;simp only at e;rw [e]
 rfl
set_option maxRecDepth 100000 in
theorem records_of_trodY {v : Value} {d : DataW H} {p : List MemPlace} (hval : Value.okWide Tryz.prog w r b0 40 v) (h : DataW.Trod enc Tryz.prog w base spare held 40 v d p) (hl : Light Tryz.prog 40 d) :
  ∃ l : List RcD, Row w 33 v l.length (l.flatMap RcD.cells) /\ (∀ d ∈ l, RcG w d) /\ (l.length : Int) <= 1000000000000 := by
 obtain ⟨a, len, cap, rfl⟩ := okWide_slice Tryz.underlying40 hval;obtain ⟨fuel, hf⟩ := h;obtain ⟨l, h1, h3, h2⟩ := rows_of_light RcD.cells (RcG w) 16 33 (by decide) Tryz.underlying40 cellsRecordY RcD.length record_shapeY hf hl;have hlen := light_len hl Tryz.underlying40 h2;rw [bytesRecordY] at hlen;have e9 : reachBytes = 140737488351232 := by decide
 exact ⟨l, h1, h3, by omega⟩
set_option maxRecDepth 100000 in
theorem on_of_trodY {v : Value} {d : DataW H} {p : List MemPlace} (hval : Value.okWide Tryz.prog w r b0 26 v) (h : DataW.Trod enc Tryz.prog w base spare held 26 v d p) (hl : Light Tryz.prog 26 d) :
  ∃ (P : Pg) (iv : Value) (n : Int), v = onV P iv n /\ PgIn w iv P /\ P.items.length <= 8796093021952 := by
 obtain ⟨cs, rfl, hsz⟩ := okWide_struct Tryz.underlying26 hval;obtain ⟨fuel, hf⟩ := h;obtain ⟨m, parts, hd, hc, hF⟩ := field_at Tryz.underlying26 hf;rw [cellsOnY] at hsz hc;have hd' : d = .agg parts := hd;subst hd';simp only [Value.cells] at hf hF hc;obtain ⟨c0, c1, c2, c3, c4, c5, c6, hcs⟩ := len7y hc;obtain ⟨l0⟩ := cs;simp only at hcs;subst hcs;obtain ⟨y0, h0, p0⟩ := hF 0 _ rfl;obtain ⟨y1, h1, p1⟩ := hF 1 _ rfl;have hl0 := hl.part Tryz.underlying26 (i := 0) rfl p0;simp only [List.getElem_toArray, List.getElem_cons_zero, List.getElem_cons_succ] at h0 h1 hl0;rw [cellsPage] at h0;rw [cellsInt] at h1;obtain ⟨P, iv, e, g1, g2⟩ := page_shapeY h0 hl0;obtain ⟨n, e1⟩ := one_int (v := c6) h1;simp only [pgCells, List.take, List.drop, List.cons.injEq, and_true] at e;obtain ⟨rfl, rfl, rfl, rfl, rfl, rfl⟩ := e;subst e1;exact ⟨P, _, n, rfl, g1, g2⟩
def pairV (P : Pg) (iv : Value) (Q : Pg) (jv : Value) : Value := .agg #[.int .i64 P.lsn, .int .i64 P.kind, .int .i64 P.level, .int .i64 P.right, .string (str P.high), iv, .int .i64 Q.lsn, .int .i64 Q.kind, .int .i64 Q.level, .int .i64 Q.right, .string (str Q.high), jv]
set_option maxRecDepth 100000 in
theorem pair_of_trodY {v : Value} {d : DataW H} {p : List MemPlace} (hval : Value.okWide Tryz.prog w r b0 42 v) (h : DataW.Trod enc Tryz.prog w base spare held 42 v d p) (hl : Light Tryz.prog 42 d) :
  ∃ (P : Pg) (iv : Value) (Q : Pg) (jv : Value), v = pairV P iv Q jv /\ PgIn w iv P /\ P.items.length <= 8796093021952 /\ PgIn w jv Q /\ Q.items.length <= 8796093021952 := by
 obtain ⟨cs, rfl, hsz⟩ := okWide_struct Tryz.underlying42 hval;obtain ⟨fuel, hf⟩ := h;obtain ⟨m, parts, hd, hc, hF⟩ := field_at Tryz.underlying42 hf;rw [cellsPairY] at hsz hc;have hd' : d = .agg parts := hd;subst hd';simp only [Value.cells] at hf hF hc;obtain ⟨c0, c1, c2, c3, c4, c5, c6, c7, c8, c9, c10, c11, hcs⟩ := len12y hc;obtain ⟨l0⟩ := cs;simp only at hcs;subst hcs;obtain ⟨y0, h0, p0⟩ := hF 0 _ rfl;obtain ⟨y1, h1, p1⟩ := hF 1 _ rfl;have hl0 := hl.part Tryz.underlying42 (i := 0) rfl p0;have hl1 := hl.part Tryz.underlying42 (i := 1) rfl p1;simp only [List.getElem_toArray, List.getElem_cons_zero, List.getElem_cons_succ] at h0 h1 hl0 hl1;rw [cellsPage] at h0 h1;obtain ⟨P, iv, e, g1, g2⟩ := page_shapeY h0 hl0;obtain ⟨Q, jv, e', k1, k2⟩ := page_shapeY h1 hl1;simp only [pgCells, List.take, List.drop, List.cons.injEq, and_true] at e e';obtain ⟨rfl, rfl, rfl, rfl, rfl, rfl⟩ := e;obtain ⟨rfl, rfl, rfl, rfl, rfl, rfl⟩ := e';exact ⟨P, _, Q, _, rfl, g1, g2, k1, k2⟩
end
theorem Tryz.own : ownKnob Tryz.prog.godebug = none := by kernel_rfl
theorem Tryz.laidOut : laidOutB Tryz.prog = true := by kernel_rfl
end Go.Proofs.YtmhepfehcakmjaaGreat
namespace Go.Proofs.YtmhepfehcakmjaaGreat
open Go.RowKit
attribute [local go_sem] givesV lookV knAt hgs
theorem rec_range {w : World} {T : Nat} {v : Value} {l : List RcD} (h : Row w T v l.length (l.flatMap RcD.cells)) {k : Nat} (hk : k < l.length) : ∃ c off cap, v = .slice (some ⟨c, off, none⟩) l.length cap /\ ∀ u, Grow w u -> u.rangeAt c (off + k * 16) l[k].cells := by
 rcases h with ⟨h0, _⟩ | ⟨c, off, cap, e, h3⟩
 ·omega
 ·refine ⟨c, off, cap, e, fun u hu j x hx => ?_⟩;obtain ⟨hj, rfl⟩ := List.getElem?_eq_some_iff.1 hx;have hj7 : j < 16 := by rw [RcD.length] at hj; exact hj
  have hlen := flat_length RcD.cells 16 RcD.length l;have hlt : k * 16 + j < (l.flatMap RcD.cells).length := by
   rw [hlen];have : (k + 1) * 16 <= l.length * 16 := Nat.mul_le_mul_right _ hk;omega
  have h5 := flat_get RcD.cells 16 RcD.length l k hk j hj7;rw [List.getElem?_eq_getElem hlt, List.getElem?_eq_getElem hj] at h5;have h6 := h3 _ hlt;rw [Nat.add_assoc, Below.cell hu (World.block_lt_of_cell? w _ h6), h6]
  simpa using h5
theorem do_image (m : Int) (A B : Pg) (n : Int) (R : Rc) (h : R.images.any (fun x => x.page == n) = true) : doN m A n R = doN m B n R := by
 unfold doN;cases hf : R.images.find? (fun x => x.page == n) with
 | some x => rfl
 | none =>
  obtain ⟨x, hx, he⟩ := List.any_eq_true.1 h;exact absurd he (List.find?_eq_none.1 hf x hx)
theorem meas_step {n k : Nat} (h : k < n) : n - (intOf (.int .i64 ((k : Int) + 1))).toNat < n - (intOf (.int .i64 (k : Int))).toNat := by simp [intOf]; omega
def ItA (w_ u : World) (v : Value) (l : List (List UInt8)) : Prop := Items w_ v l \/ ItemsS u v l
theorem ItA.items {w_ u : World} {v : Value} {l : List (List UInt8)} (h : ItA w_ u v l) (g : Below w_.heap.size w_ u) : Items u v l := h.elim (fun h => Row.fits h g) fun h => h.weak
theorem ItA.fits {w_ u x : World} {v : Value} {l : List (List UInt8)} (h : ItA w_ u v l) (g : Grow u x) : ItA w_ x v l := h.imp id fun h => RowS.fits h g
theorem ItA.but {w_ u x : World} {b : Nat} {cs : List Value} {v : Value} {l : List (List UInt8)} {t : Nat} (h : ItA w_ u v l) (k : But b u x) (hb : Blk u b t cs) (ht : t ≠ 9) : ItA w_ x v l := h.imp id fun h => h.but k (ne_blk hb ht)
theorem ItA.form {w_ u : World} {v : Value} {l : List (List UInt8)} (h : ItA w_ u v l) : ∃ a c, v = .slice a l.length c := h.elim (fun h => items_form h) fun h => itemsS_form h
def RoRel (ba bb : Nat) (N : Nat) (w_ : World) (L : Nat) (mt i : Value) (wr : World) : Prop := ∃ (k : Nat) (met : Bool) (A : Pg) (va : Value) (B : Pg) (vb : Value), k <= L /\ mt = .bool met /\ i = .int .i64 k /\ Kept (Blk wr ba 24 (pgCells A va)) /\ Kept (ItA w_ wr va A.items) /\ Kept (PgS A) /\ Kept (Blk wr bb 24 (pgCells B vb)) /\ Kept (ItA w_ wr vb B.items) /\ Kept (PgS B) /\ Kept (met = true -> A = B) /\ Kept (Below N w_ wr)
set_option maxRecDepth 100000 in
set_option maxHeartbeats 16000000 in
theorem row_law (m : Int) (lv : Value) (l : List RcD) (P : Pg) (pv : Value) (Q : Pg) (qv : Value) (w_ : World) (hlr : Row w_ 33 lv l.length (l.flatMap RcD.cells)) (hld : ∀ d ∈ l, RcG w_ d) (hln : (l.length : Int) <= 1000000000000)
  (hp : PgIn w_ pv P) (hpl : P.items.length <= 8796093021952) (hq : PgIn w_ qv Q) (hql : Q.items.length <= 8796093021952) :
  Calls Tryz.prog 4 #[.int .i64 m, lv, pairV P pv Q qv] w_ fun x w' => x = .returned (.bool true) /\ Below w_.heap.size w_ w' := by
 obtain ⟨pa, pc, rfl⟩ := items_form hp.1;obtain ⟨qa, qc, rfl⟩ := items_form hq.1;obtain ⟨la, lc, rfl⟩ := row_slice hlr;obtain ⟨w0, hw0⟩ : ∃ w0, w0 = w_.alloc (.cells (List.toArray [.int .i64 P.lsn, .int .i64 P.kind, .int .i64 P.level, .int .i64 P.right, .string (str P.high), .slice pa P.items.length pc, .int .i64 Q.lsn, .int .i64 Q.kind, .int .i64 Q.level, .int .i64 Q.right, .string (str Q.high), .slice qa Q.items.length qc]) 42) := ⟨_, rfl⟩;have hg0 : Grow w_ w0 := by subst hw0; exact (Grow.refl _).alloc _
 have hB0 : Blk w0 w_.heap.size 42 [.int .i64 P.lsn, .int .i64 P.kind, .int .i64 P.level, .int .i64 P.right, .string (str P.high), .slice pa P.items.length pc, .int .i64 Q.lsn, .int .i64 Q.kind, .int .i64 Q.level, .int .i64 Q.right, .string (str Q.high), .slice qa Q.items.length qc] := by subst hw0; exact Blk.new w_ _ _
 have HO := keep (fun (u : World) (hu : Grow w0 u) (j : Nat) (hj : j < 12) => (hB0.fits hu).cell j hj);have HRow := keep hlr;have HLd := keep hld;have HLn := keep hln;have HP := keep hp;have HQ := keep hq;have HPs := keep (pgS_of hp hpl);have HQs := keep (pgS_of hq hql);have HG0 := keep hg0;have hlt := hB0.lt;clear hlr hld hln hp hpl hq hql hg0 hB0;unfold pairV;go_enter Tryz.func4, Tryz.ntmps4;go_upto_region 1 with fail;rw [<- hw0];clear hw0;have hcell := HO.out w0 (Grow.refl _);have o0 := hcell 0 (by decide);have o1 := hcell 1 (by decide);have o2 := hcell 2 (by decide);have o3 := hcell 3 (by decide);have o4 := hcell 4 (by decide);have o5 := hcell 5 (by decide);simp only [List.getElem_cons_zero, List.getElem_cons_succ] at o0 o1 o2 o3 o4 o5;clear hcell;go_upto_region 2 with fail;obtain ⟨w1, hw1⟩ : ∃ w1, w1 = w0.alloc (.cells #[.int .i64 P.lsn, .int .i64 P.kind, .int .i64 P.level, .int .i64 P.right, .string (str P.high), .slice pa P.items.length pc] 24) := ⟨_, rfl⟩;rw [<- hw1];have hgw1 : Grow w0 w1 := by subst hw1; exact (Grow.refl _).alloc _
 have hBw1 : Blk w1 w0.heap.size 24 (pgCells P (.slice pa P.items.length pc)) := by subst hw1; exact Blk.new w0 _ [_, _, _, _, _, _]
 have HA1 := keep hBw1;obtain ⟨ba, hba⟩ : ∃ b, b = w0.heap.size := ⟨_, rfl⟩;rw [<- hba] at HA1;rw [<- hba];have hgeba : w0.heap.size <= ba := Nat.le_of_eq hba.symm;clear hw1 hBw1 hba;have HGw1 := keep (Grow.trans HG0.out hgw1);have HGs := keep hgw1;clear hgw1;clear o0 o1 o2 o3 o4 o5;have hcell := HO.out w1 HGs.out;have o6 := hcell 6 (by decide);have o7 := hcell 7 (by decide);have o8 := hcell 8 (by decide);have o9 := hcell 9 (by decide);have o10 := hcell 10 (by decide);have o11 := hcell 11 (by decide);simp only [List.getElem_cons_zero, List.getElem_cons_succ] at o6 o7 o8 o9 o10 o11;clear hcell;go_upto_region 3 with fail;obtain ⟨w2, hw2⟩ : ∃ w2, w2 = w1.alloc (.cells #[.int .i64 Q.lsn, .int .i64 Q.kind, .int .i64 Q.level, .int .i64 Q.right, .string (str Q.high), .slice qa Q.items.length qc] 24) := ⟨_, rfl⟩;rw [<- hw2];have hgw2 : Grow w1 w2 := by subst hw2; exact (Grow.refl _).alloc _
 have hBw2 : Blk w2 w1.heap.size 24 (pgCells Q (.slice qa Q.items.length qc)) := by subst hw2; exact Blk.new w1 _ [_, _, _, _, _, _]
 have HB2 := keep hBw2;obtain ⟨bb, hbb⟩ : ∃ b, b = w1.heap.size := ⟨_, rfl⟩;rw [<- hbb] at HB2;rw [<- hbb];have hgebb : w1.heap.size <= bb := Nat.le_of_eq hbb.symm;clear hw2 hBw2 hbb;have HGw2 := keep (Grow.trans HGw1.out hgw2);have HA2 := keep (HA1.out.fits hgw2);clear hgw2;clear o6 o7 o8 o9 o10 o11 HO HGs;have hab := HA1.out.lt;have hba : w_.heap.size <= ba := by omega
 have hbb : w_.heap.size <= bb := by omega
 have HNE := keep (show ba ≠ bb by omega);clear hgeba hgebb hab hlt HA1;have HIp := HP.out.1;have HIq := HQ.out.1;have HAi := keep (show ItA w_ w2 (.slice pa P.items.length pc) P.items from .inl HIp);have HBi := keep (show ItA w_ w2 (.slice qa Q.items.length qc) Q.items from .inl HIq);clear HIp HIq HP HQ;go_wp2_with fail;go_loopw [9, 10] (fun x i wr => RoRel ba bb w_.heap.size w_ l.length x i wr) (fun _ i _ => l.length - (intOf i).toNat)
 case atStart => exact show RoRel _ _ _ _ _ _ _ _ from ⟨0, false, P, _, Q, _, Nat.zero_le _, rfl, rfl, HA2, HAi, HPs, HB2, HBi, HQs, keep (fun h => by cases h), keep HGw2.out⟩
 case round =>
  clear HA2 HAi HPs HB2 HBi HQs HGw2;obtain ⟨i, met, A, va, B, vb, hi, rfl, rfl, HA, HAi, HAs, HB, HBi, HBs, HM, HG⟩ := hrel;obtain ⟨aa, ac, rfl⟩ := HAi.out.form;obtain ⟨bv, bc, rfl⟩ := HBi.out.form
  by_cases hlt2 : i < l.length
  ·obtain ⟨c, off, cap, e5, hrg⟩ := rec_range HRow.out hlt2;simp only [Value.slice.injEq] at e5;obtain ⟨rfl, -, rfl⟩ := e5;have hrr := hrg wr HG.out;have hgd9 := HLd.out l[i] (List.getElem_mem hlt2);have HLt := keep hlt2;have HL9 := HLn.out;generalize l[i] = d at *;obtain ⟨R, V⟩ := d;obtain ⟨sa, sc, ma, mc, xa, xc, oa, on, oc, ta, tn, tc⟩ := V;obtain ⟨hri, hrl⟩ := hgd9;have HRg := keep (show wr.rangeAt c (off + i * 16) [.int .i64 R.lsn, .int .i64 R.prev, .int .i64 R.next, .int .u8 R.kind, .int .i64 R.xid, .int .i64 R.page, .int .i64 R.slot, .int .i64 R.old, .int .i64 R.new, .int .i64 R.redo, .string (str R.data), .slice sa R.slots.length sc, .slice ma R.more.length mc, .slice xa R.images.length xc, .slice oa on oc, .slice ta tn tc] from hrr);have HRi := keep (show RcIn w_ { R with lsn := 10 + (i : Int) } ⟨sa, sc, ma, mc, xa, xc, oa, on, oc, ta, tn, tc⟩ from ⟨hri.slots, hri.more, hri.imgs, hri.each, hri.data, hri.slotl, hri.morel, hri.imgl, hri.kind0, hri.kind1⟩);have HLs := keep (show (10 + (i : Int)) <= 9223372036854775807 by omega);have ew : wrap64 ((i : Int) + 1) = (i : Int) + 1 := by unfold wrap64; omega
   have ew2 : wrap64 (10 + (i : Int)) = 10 + (i : Int) := by unfold wrap64; omega
   clear hrg hrr hri hrl hi;go_upto_region 8 with (refine wpList_load_mid rfl _ _ rfl c (off + i * 16) rfl _ _ HRg.out underRec (by kernel_rfl) (by rw [sizeRecord]; rfl) ?_);obtain ⟨w1, hw1⟩ : ∃ w1, w1 = wr.alloc (.cells #[.int .i64 R.lsn, .int .i64 R.prev, .int .i64 R.next, .int .u8 R.kind, .int .i64 R.xid, .int .i64 R.page, .int .i64 R.slot, .int .i64 R.old, .int .i64 R.new, .int .i64 R.redo, .string (str R.data), .slice sa R.slots.length sc, .slice ma R.more.length mc, .slice xa R.images.length xc, .slice oa on oc, .slice ta tn tc] 33) := ⟨_, rfl⟩;rw [<- hw1];have hg1 : Grow wr w1 := by subst hw1; exact (Grow.refl _).alloc _
   have hR1 : Blk w1 wr.heap.size 33 [.int .i64 R.lsn, .int .i64 R.prev, .int .i64 R.next, .int .u8 R.kind, .int .i64 R.xid, .int .i64 R.page, .int .i64 R.slot, .int .i64 R.old, .int .i64 R.new, .int .i64 R.redo, .string (str R.data), .slice sa R.slots.length sc, .slice ma R.more.length mc, .slice xa R.images.length xc, .slice oa on oc, .slice ta tn tc] := by subst hw1; exact Blk.new wr _ [.int .i64 R.lsn, .int .i64 R.prev, .int .i64 R.next, .int .u8 R.kind, .int .i64 R.xid, .int .i64 R.page, .int .i64 R.slot, .int .i64 R.old, .int .i64 R.new, .int .i64 R.redo, .string (str R.data), .slice sa R.slots.length sc, .slice ma R.more.length mc, .slice xa R.images.length xc, .slice oa on oc, .slice ta tn tc]
   have hR2 := hR1.set 0 (.int .i64 (10 + (i : Int)));simp only [List.set_cons_zero] at hR2;obtain ⟨⟨c0, c1, c2, c3, c4, c5, c6, c7, c8, c9, c10, c11, c12, c13, c14, c15⟩, hfz⟩ := recres hR1;have z0 := hfz 0;have hlA := HA.out.lt;have hlB := HB.out.lt;have HA1 := keep (HA.out.fits hg1);have HB1 := keep (HB.out.fits hg1);have HAi1 := keep (HAi.out.fits hg1);have HBi1 := keep (HBi.out.fits hg1);have HG1 := keep (Below.trans HG.out (Below.mono hg1 HG.out.size));have HR2 := keep hR2;have HR1 := keep hR1;obtain ⟨br, hbr⟩ : ∃ b, b = wr.heap.size := ⟨_, rfl⟩;rw [<- hbr] at HR2 HR1 z0;rw [<- hbr] at c0;rw [<- hbr];have HRA := keep (show ba ≠ br by omega);have HRBn := keep (show bb ≠ br by omega);have hrN : w_.heap.size <= br := by have := HG.out.size; omega
   clear hw1 hg1 hR1 hR2 hfz hbr c1 c2 c3 c4 c5 c6 c7 c8 c9 c10 c11 c12 c13 c14 c15 HA HB HAi HBi HG;go_upto_region 9 with fail;obtain ⟨w2, hw2⟩ : ∃ w2, w2 = w1.setCell ⟨br, 0, none⟩ (.int .i64 (10 + (i : Int))) := ⟨_, rfl⟩;rw [<- hw2];have hk2 := (But.refl br w1).setCell 0 (.int .i64 (10 + (i : Int)));have hr2 := HR2.out;rw [<- hw2] at hk2 hr2;clear HR2;have HR2 := keep hr2;have HA2 := keep (HA1.out.but hk2 HRA.out);have HB2 := keep (HB1.out.but hk2 HRBn.out);have HAi2 := keep (HAi1.out.but hk2 HR1.out (by decide));have HBi2 := keep (HBi1.out.but hk2 HR1.out (by decide));have HG2 := keep (But.below HG1.out hk2 hrN HG1.out.size);clear hw2 hk2 hr2 c0 z0 HA1 HB1 HAi1 HBi1 HG1 HR1 HRg;have hca := do_any m A (.slice aa A.items.length ac) 7 { R with lsn := 10 + (i : Int) } ⟨sa, sc, ma, mc, xa, xc, oa, on, oc, ta, tn, tc⟩ w2 (pgS_in (HAi2.out.items HG2.out) HAs.out) HAs.out.2.2.1 (HRi.out.fits HG2.out);have hgd := gd_do m A 7 { R with lsn := 10 + (i : Int) } HAs.out (rc_pgS HRi.out) HLs.out;have him := fun (B : Pg) => do_image m A B 7 { R with lsn := 10 + (i : Int) }
   generalize hC : doN m A 7 { R with lsn := 10 + (i : Int) } = C at *;obtain ⟨C1, C2⟩ := C;unfold CpgPost pgV rcV at hca;unfold Gd at hgd;dsimp only at hca hgd him;have HCa := keep hca;have HGd := keep hgd;have HCe := keep hC;have HIm := keep him;clear hca hgd hC him;have hp_ := HA2.out;unfold pgCells at hp_;obtain ⟨p0, p1, p2, p3, p4, p5, _⟩ := pgres hp_;clear hp_;go_wp2_with (refine wpList_load_box sizeRecord underRec (by kernel_rfl) rfl _ rfl br rfl HR2.out rfl ?_);refine HCa.out.mono ?_;rintro y w3 ⟨jv, rfl, hj, hb3⟩;obtain ⟨ja, jc, rfl⟩ := itemsS_form hj;have HJ3 := keep hj;have HGw3 := keep (show Grow w_ w3 from Below.trans HG2.out (Below.mono hb3 HG2.out.size));have HR3 := keep (HR2.out.fits hb3);have HA3 := keep (HA2.out.fits hb3);have HB3 := keep (HB2.out.fits hb3);have HBi3 := keep (HBi2.out.fits hb3);have hl3 := hb3.size;have hlr := HR2.out.lt;have hlA2 := HA2.out.lt;have hlB2 := HB2.out.lt;clear hj hb3 HCa p0 p1 p2 p3 p4 p5 HA2 HB2 HAi2 HBi2 HR2;go_upto_region 10 with fail;obtain ⟨w4, hw4⟩ : ∃ w4, w4 = w3.alloc (.cells #[.int .i64 C1.lsn, .int .i64 C1.kind, .int .i64 C1.level, .int .i64 C1.right, .string (str C1.high), .slice ja C1.items.length jc] 24) := ⟨_, rfl⟩;rw [<- hw4];have hgw4 : Grow w3 w4 := by subst hw4; exact (Grow.refl _).alloc _
   have hBw4 : Blk w4 w3.heap.size 24 (pgCells C1 (.slice ja C1.items.length jc)) := by subst hw4; exact Blk.new w3 _ [_, _, _, _, _, _]
   have HC4 := keep hBw4;obtain ⟨bc4, hbc4⟩ : ∃ b, b = w3.heap.size := ⟨_, rfl⟩;rw [<- hbc4] at HC4;rw [<- hbc4];have hgebc4 : w3.heap.size <= bc4 := Nat.le_of_eq hbc4.symm;clear hw4 hBw4 hbc4;have HGw4 := keep (Grow.trans HGw3.out hgw4);have HR4 := keep (HR3.out.fits hgw4);have HA4 := keep (HA3.out.fits hgw4);have HB4 := keep (HB3.out.fits hgw4);have HBi4 := keep (HBi3.out.fits hgw4);have HJ4 := keep (RowS.fits HJ3.out hgw4);clear hgw4;have hp_ := HC4.out;unfold pgCells at hp_;obtain ⟨p0, p1, p2, p3, p4, p5, _⟩ := pgres hp_;clear hp_
   by_cases hc : C2 = 0
   ·subst hc;have HCs := keep (HGd.out.2 rfl);have hbcN : w_.heap.size <= bc4 := by omega
    have HCA4 := keep (show bc4 ≠ ba by omega);have HCB4 := keep (show bc4 ≠ bb by omega);have HCR4 := keep (show br ≠ bc4 by omega);clear HGd;go_wp2_with ((refine wpList_store_box sizePage rfl _ _ rfl ba (pgCells C1 (.slice ja C1.items.length jc)) rfl rfl HA4.out rfl rfl rfl ?_); intro w5 hset hbz; have HA5 := keep hset; have HK5 := keep hbz; clear hset hbz);have HR5 := keep (HR4.out.but HK5.out (fun h => HRA.out h.symm));have HB5 := keep (HB4.out.but HK5.out (fun h => HNE.out h.symm));have HC5 := keep (HC4.out.but HK5.out HCA4.out);have HBi5 := keep (HBi4.out.but HK5.out HA4.out (by decide));have HCi5 := keep (HJ4.out.but HK5.out (ne_blk HA4.out (by decide)));have HG5 := keep (But.below HGw4.out HK5.out hba HGw4.out.size);clear HK5 HA4 HB4 HC4 HR4 HBi4 HJ4 HGw4 p0 p1 p2 p3 p4 p5 HB3 HBi3 HA3 HR3 HJ3 HGw3 HG2;have hr5 := HR5.out;obtain ⟨⟨c0, c1, c2, c3, c4, c5, c6, c7, c8, c9, c10, c11, c12, c13, c14, c15⟩, _⟩ := recres hr5;clear hr5 c0 c1 c2 c3 c4 c5 c6 c7 c8 c9 c10 c11 c12 c14 c15;have HXi := keep (show Row w_ 44 (.slice xa R.images.length xc) R.images.length (R.images.flatMap imC) from HRi.out.imgs);have HXl := keep (show (R.images.length : Int) <= 17592186043904 from HRi.out.imgl);go_loopw [14, 15] (fun x k wq => ∃ k' : Nat, k' <= R.images.length /\ x = .bool ((R.images.take k').any (fun x => x.page == 7)) /\ k = .int .i64 k' /\ Kept (wq = w5)) (fun _ k _ => R.images.length - (intOf k).toNat)
    case atStart => exact ⟨0, Nat.zero_le _, rfl, rfl, keep rfl⟩
    case round =>
     obtain ⟨k, hk, rfl, rfl, hwq⟩ := hrel;have hwq := hwq.out;subst hwq
     by_cases hlt3 : k < R.images.length
     ·obtain ⟨c', off', cap', e6, hrg⟩ := img_range HXi.out hlt3;simp only [Value.slice.injEq] at e6;obtain ⟨rfl, -, rfl⟩ := e6;have q0 := hrg _ HG5.out 0 (.int .i64 R.images[k].page) rfl;rw [Nat.add_zero] at q0;have hst : (R.images.take (k + 1)).any (fun x => x.page == 7) = ((R.images.take k).any (fun x => x.page == 7) || (R.images[k].page == 7)) := by rw [List.take_succ_eq_append_getElem hlt3, List.any_append]; simp
      have HSt := keep hst;have HLt3 := keep hlt3;generalize R.images[k].page = pk at *;have ew3 : wrap64 ((k : Int) + 1) = (k : Int) + 1 := by have h2 := HXl.out; unfold wrap64; omega
      obtain ⟨bx, hbx⟩ : ∃ bx, (pk == 7) = bx := ⟨_, rfl⟩;rw [hbx] at HSt;clear hrg hst;cases hany : (R.images.take k).any (fun x => x.page == 7) with
      | true =>
       rw [hany] at HSt;go_wp2_with fail;go_roundw
       case rel => exact ⟨k + 1, HLt3.out, by rw [HSt.out]; rfl, by rw [ew3]; rfl, keep (by trivial)⟩
       case measure => rw [ew3]; exact meas_step HLt3.out
      | false =>
       rw [hany] at HSt;go_wp2_with fail;go_roundw
       case rel => exact ⟨k + 1, HLt3.out, by rw [HSt.out]; rfl, by rw [ew3]; rfl, keep (by trivial)⟩
       case measure => rw [ew3]; exact meas_step HLt3.out
     ·have he : k = R.images.length := by omega
      subst he;rw [List.take_length];clear hk hlt3;obtain ⟨img, himg⟩ : ∃ b, R.images.any (fun x => x.page == 7) = b := ⟨_, rfl⟩;rw [himg]
      have HM2 := keep (show (met || img) = true -> doN m B 7 { R with lsn := 10 + (i : Int) } = (C1, 0) from fun h => by
       rcases Bool.or_eq_true _ _ ▸ h with h | h
       ·rw [<- HM.out h]; exact HCe.out
       ·rw [<- HIm.out B (himg.trans h)])
      clear himg HIm HCe HM;go_upto_region 18 with fail;go_cut [9] from 63 to 66 (fun s9 wx => s9 = .bool (met || img) /\ wx = wr)
      case first =>
       cases met with
       | true =>
        go_wp2_with fail;go_meet
        case rel => exact ⟨rfl, rfl⟩
       | false =>
        go_wp2_with fail;go_meet
        case rel => exact ⟨rfl, rfl⟩
      case rest =>
       obtain ⟨rfl, rfl⟩ := hcut;generalize (met || img) = met2 at *;clear c13;have hca := do_any m B (.slice bv B.items.length bc) 7 { R with lsn := 10 + (i : Int) } ⟨sa, sc, ma, mc, xa, xc, oa, on, oc, ta, tn, tc⟩ wc (pgS_in (HBi5.out.items HG5.out) HBs.out) HBs.out.2.2.1 (HRi.out.fits HG5.out);have hgd := gd_do m B 7 { R with lsn := 10 + (i : Int) } HBs.out (rc_pgS HRi.out) HLs.out;generalize hD : doN m B 7 { R with lsn := 10 + (i : Int) } = D at *;obtain ⟨D1, D2⟩ := D;unfold CpgPost pgV rcV at hca;unfold Gd at hgd;dsimp only at hca hgd;have HCa := keep hca;have HGd := keep hgd;clear hca hgd hD;have hp_ := HB5.out;unfold pgCells at hp_;obtain ⟨p0, p1, p2, p3, p4, p5, _⟩ := pgres hp_;clear hp_;go_wp2_with (refine wpList_load_box sizeRecord underRec (by kernel_rfl) rfl _ rfl br rfl HR5.out rfl ?_);refine HCa.out.mono ?_;rintro y w6 ⟨jv, rfl, hj, hb6⟩;obtain ⟨da, dc, rfl⟩ := itemsS_form hj;have HDi6 := keep hj;have HGw6 := keep (show Grow w_ w6 from Below.trans HG5.out (Below.mono hb6 HG5.out.size));have HR6 := keep (HR5.out.fits hb6);have HA6 := keep (HA5.out.fits hb6);have HB6 := keep (HB5.out.fits hb6);have HC6 := keep (HC5.out.fits hb6);have HBi6 := keep (HBi5.out.fits hb6);have HCi6 := keep (RowS.fits HCi5.out hb6);have hs6 := HGw6.out.size;have hl6 := HB6.out.lt;have hl7 := HA6.out.lt;have hl8 := HC6.out.lt;clear hj hb6 HCa p0 p1 p2 p3 p4 p5 HR5 HA5 HB5 HC5 HBi5 HCi5 HG5;go_upto_region 20 with fail
       obtain ⟨w7, hw7⟩ : ∃ w7, w7 = w6.alloc (.cells #[.int .i64 D1.lsn, .int .i64 D1.kind, .int .i64 D1.level, .int .i64 D1.right, .string (str D1.high), .slice da D1.items.length dc] 24) := ⟨_, rfl⟩;rw [<- hw7];have hgw7 : Grow w6 w7 := by subst hw7; exact (Grow.refl _).alloc _
       have hBw7 : Blk w7 w6.heap.size 24 (pgCells D1 (.slice da D1.items.length dc)) := by subst hw7; exact Blk.new w6 _ [_, _, _, _, _, _]
       have HD7 := keep hBw7;obtain ⟨bd7, hbd7⟩ : ∃ b, b = w6.heap.size := ⟨_, rfl⟩;rw [<- hbd7] at HD7;rw [<- hbd7];have hgebd7 : w6.heap.size <= bd7 := Nat.le_of_eq hbd7.symm;clear hw7 hBw7 hbd7;have HGw7 := keep (Grow.trans HGw6.out hgw7);have HR7 := keep (HR6.out.fits hgw7);have HA7 := keep (HA6.out.fits hgw7);have HB7 := keep (HB6.out.fits hgw7);have HC7 := keep (HC6.out.fits hgw7);have HBi7 := keep (HBi6.out.fits hgw7);have HDi7 := keep (RowS.fits HDi6.out hgw7);have HCi7 := keep (RowS.fits HCi6.out hgw7);clear hgw7;have HNA := keep (show ba ≠ bd7 by omega);have HNB := keep (show bb ≠ bd7 by omega);have HND := keep (show bd7 ≠ bb by omega);clear hs6 hl6 hl7 hl8 hgebd7;have hp_ := HD7.out;unfold pgCells at hp_;obtain ⟨p0, p1, p2, p3, p4, p5, _⟩ := pgres hp_;clear hp_;have hq_ := HC7.out;unfold pgCells at hq_;obtain ⟨q0, q1, q2, q3, q4, q5, _⟩ := pgres hq_;clear hq_;cases met2 with
       | true =>
        have hM := HM2.out rfl;simp only [Prod.mk.injEq] at hM;obtain ⟨rfl, rfl⟩ := hM;have HSm := keep (same_self D1 (.slice ja D1.items.length jc) (.slice da D1.items.length dc) w7 HCi7.out.weak HDi7.out.weak (pgS_same HCs.out));unfold pgV at HSm;clear HM2 HGd;go_wp2_with fail;refine HSm.out.mono ?_;rintro y w8 ⟨rfl, hb8⟩;have HGw8 := keep (Grow.trans HGw7.out hb8);have HA8 := keep (HA7.out.fits hb8);have HB8 := keep (HB7.out.fits hb8);have HD8 := keep (HD7.out.fits hb8);have HCi8 := keep (RowS.fits HCi7.out hb8);have HDi8 := keep (RowS.fits HDi7.out hb8);clear hb8 HSm p0 p1 p2 p3 p4 p5 q0 q1 q2 q3 q4 q5;have hp_ := HD8.out;unfold pgCells at hp_;obtain ⟨p0, p1, p2, p3, p4, p5, _⟩ := pgres hp_;clear hp_;go_wp2_with ((refine wpList_store_box sizePage rfl _ _ rfl bb (pgCells D1 (.slice da D1.items.length dc)) rfl rfl HB8.out rfl rfl rfl ?_); intro w9 hset hbz; have HB9 := keep hset; have HK9 := keep hbz; clear hset hbz);go_roundw
        case rel => exact show RoRel _ _ _ _ _ _ _ _ from ⟨i + 1, true, D1, _, D1, _, HLt.out, rfl, by first | rfl | (rw [ew]; rfl), keep (HA8.out.but HK9.out HNE.out), keep (.inr (HCi8.out.but HK9.out (ne_blk HB8.out (by decide)))), HCs, HB9, keep (.inr (HDi8.out.but HK9.out (ne_blk HB8.out (by decide)))), HCs, keep (fun _ => rfl), keep (But.below HGw8.out HK9.out hbb HGw8.out.size)⟩
        case measure => first | exact meas_step HLt.out | (rw [ew]; exact meas_step HLt.out)
       | false =>
        by_cases hd : D2 = 0
        ·subst hd;have HDs := keep (HGd.out.2 rfl);clear HM2 HGd q0 q1 q2 q3 q4 q5;go_wp2_with ((refine wpList_store_box sizePage rfl _ _ rfl bb (pgCells D1 (.slice da D1.items.length dc)) rfl rfl HB7.out rfl rfl rfl ?_); intro w9 hset hbz; have HB9 := keep hset; have HK9 := keep hbz; clear hset hbz);go_roundw
         case rel => exact show RoRel _ _ _ _ _ _ _ _ from ⟨i + 1, false, C1, _, D1, _, HLt.out, rfl, by first | rfl | (rw [ew]; rfl), keep (HA7.out.but HK9.out HNE.out), keep (.inr (HCi7.out.but HK9.out (ne_blk HB7.out (by decide)))), HCs, HB9, keep (.inr (HDi7.out.but HK9.out (ne_blk HB7.out (by decide)))), HDs, keep (fun h => by cases h), keep (But.below HGw7.out HK9.out hbb HGw7.out.size)⟩
         case measure => first | exact meas_step HLt.out | (rw [ew]; exact meas_step HLt.out)
        ·have e2 : (D2 == 0) = false := by simpa using hd
         clear hd HM2 HGd q0 q1 q2 q3 q4 q5 p0 p1 p2 p3 p4 p5;go_wp2_with fail;go_roundw
         case rel => exact show RoRel _ _ _ _ _ _ _ _ from ⟨i + 1, false, C1, _, B, _, HLt.out, rfl, by first | rfl | (rw [ew]; rfl), HA7, keep (.inr HCi7.out), HCs, HB7, HBi7, HBs, keep (fun h => by cases h), HGw7⟩
         case measure => first | exact meas_step HLt.out | (rw [ew]; exact meas_step HLt.out)
   ·have e1 : (C2 != 0) = true := by simp [hc]
    clear hc;go_wp2_with fail;refine (awake16_any _).mono ?_;rintro y wz ⟨rfl, hbz⟩;have HGz := keep (Grow.trans HGw4.out hbz);clear hbz;go_wp2_with fail;go_ret;exact ⟨rfl, HGz.out⟩
  ·have he : i = l.length := by omega
   subst he;have HGw0 := keep (show Grow w_ wr from HG.out);go_wp2_with fail;refine (awake16_any _).mono ?_;rintro y wz ⟨rfl, hbz⟩;have HGz := keep (Grow.trans HGw0.out hbz);clear hbz;go_wp2_with fail;go_ret;exact ⟨rfl, HGz.out⟩
end Go.Proofs.YtmhepfehcakmjaaGreat
