import Derived.Test.YtmhepfehcakmjaaGreatKRf2
import Derived.Test.YtmhepfehcakmjaaGreatKRs1
import Derived.Maps.AppendAt
import Derived.Deep.Cut
namespace Go.Proofs.YtmhepfehcakmjaaGreat
open Go.RowKit
def itemN (lv : Int) (l : List UInt8) : En × Int × Int := if lv = 0 then ((decN l).1, 0, (decN l).2) else unsN l
def roundOk (lv : Int) (hi : En) (bd : Bool) (k : Nat) (prev x : En × Int × Int) : Bool :=
 (decide (lv = 0) || (decide (x.1 = leastE) == decide (k = 0))) && (decide (x.2.2 = 0) && ((decide (k = 0) || decide (cmpE prev.1 x.1 < 0)) && (!bd || !(decide (0 < cmpE x.1 hi) || (decide (cmpE x.1 hi = 0) && decide (0 < lv))))))
def okTo (lv : Int) (hi : En) (bd : Bool) (items : List (List UInt8)) : Nat → Bool
 | 0 => true
 | k + 1 => okTo lv hi bd items k && roundOk lv hi bd k (itemN lv (items.getD (k - 1) [])) (itemN lv (items.getD k []))
def bdN (P : Pg) : Bool := decide (P.high ≠ [])
def hiN (P : Pg) : En := if P.high = [] then leastE else (decN P.high).1
def headOk (P : Pg) : Bool := (encOk P && (decide (P.kind = 3) && inB P.right 0 65535)) && (decide (P.high = []) || decide ((decN P.high).2 = 0))
def openOk (P : Pg) : Bool := headOk P && (okTo P.level (hiN P) (bdN P) P.items P.items.length && (decide (P.level = 0) || decide (0 < P.items.length)))
def ensTo (lv : Int) (items : List (List UInt8)) (k : Nat) : List En := (items.take k).map fun l => (itemN lv l).1
def kidsTo (lv : Int) (items : List (List UInt8)) (k : Nat) : List Int := if lv = 0 then [] else (items.take k).map fun l => (itemN lv l).2.1
def ensN (P : Pg) : List En := ensTo P.level P.items P.items.length
def kidsN (P : Pg) : List Int := kidsTo P.level P.items P.items.length
theorem ensTo_length (lv : Int) (items : List (List UInt8)) (k : Nat) (h : k ≤ items.length) : (ensTo lv items k).length = k := by simp [ensTo]; omega
theorem ensTo_succ (lv : Int) (items : List (List UInt8)) (k : Nat) (h : k < items.length) : ensTo lv items (k + 1) = ensTo lv items k ++ [(itemN lv items[k]).1] := by
 unfold ensTo
 rw [List.take_add_one, List.map_append, List.getElem?_eq_getElem h]
 rfl
theorem kidsTo_succ (lv : Int) (items : List (List UInt8)) (k : Nat) (h : k < items.length) (hl : lv ≠ 0) : kidsTo lv items (k + 1) = kidsTo lv items k ++ [(itemN lv items[k]).2.1] := by
 unfold kidsTo
 rw [if_neg hl, if_neg hl, List.take_add_one, List.map_append, List.getElem?_eq_getElem h]
 rfl
theorem kidsTo_length (lv : Int) (items : List (List UInt8)) (k : Nat) : (kidsTo lv items k).length ≤ k := by
 unfold kidsTo
 split
 ·exact Nat.zero_le _
 ·rw [List.length_map, List.length_take]; exact Nat.min_le_left _ _
def eCells (l : List En) : List Value := l.flatMap fun x => enC x
@[simp] theorem eCells_length (l : List En) : (eCells l).length = 3 * l.length := by
 induction l with
 | nil => rfl
 | cons a l ih => rw [eCells, List.flatMap_cons, List.length_append, ← eCells, ih]; simp [enC]; omega
theorem eCells_at (l : List En) (i j : Nat) (h : i < l.length) (hj : j < 3) : (eCells l)[3 * i + j]? = (enC l[i])[j]? := by
 induction l generalizing i with
 | nil => simp at h
 | cons a l ih =>
  rw [eCells, List.flatMap_cons, ← eCells]
  cases i with
  | zero =>
   rw [List.getElem?_append_left (by simp [enC]; omega)]
   simp
  | succ i =>
   rw [List.getElem?_append_right (by simp [enC]; omega)]
   rw [show 3 * (i + 1) + j - (enC a).length = 3 * i + j by simp [enC]; omega, ih i (by simpa using h)]
   simp
def EnsS (w : World) (v : Value) (l : List En) : Prop := RowS w 102 v l.length (eCells l)
structure OpAt (w : World) (b : Nat) (ens : List En) (kids : List Int) (hi : En) (bd : Bool) (ev cv : Value) : Prop where
 blk : Blk w b 170 [ev, cv, .string (str hi.1), .int .i64 hi.2.1, .int .i64 hi.2.2, .bool bd]
 ens : w.ownsRow (b + 1) 102 3 ev ens.length (eCells ens)
 kids : w.ownsRow (b + 1) 3 1 cv kids.length (iCells kids)
theorem grow_grownO {w w' : World} (h : Grow w w') (row : Option Nat) : w.grownBy w' row := ⟨h.os, h.tape, h.output, h.size, fun k hk _ => h.block k hk⟩
theorem owns_fits {w w' : World} {b e s n : Nat} {v : Value} {xs : List Value} (h : w.ownsRow b e s v n xs) (k : Grow w w') : w'.ownsRow b e s v n xs :=
 h.kept (grow_grownO k none) (by cases v.ownBlock <;> simp)
theorem owns_but {w w' : World} {b e s n c : Nat} {v : Value} {xs : List Value} (h : w.ownsRow b e s v n xs) (k : But c w w') (hc : v.ownBlock ≠ some c) : w'.ownsRow b e s v n xs :=
 h.kept (row := some c) ⟨k.os, k.tape, k.output, k.size, fun i hi hne => k.block i hi (by simpa using hne)⟩ (by cases hv : v.ownBlock with
  | none => exact .inl rfl
  | some g => exact .inr (by rw [hv] at hc; exact hc))
theorem own_neO {w : World} {b b' e e' s s' n n' : Nat} {v v' : Value} {xs xs' : List Value} (h : w.ownsRow b e s v n xs) (h' : w.ownsRow b' e' s' v' n' xs') (he : e ≠ e') : v.ownBlock = none ∨ v.ownBlock ≠ v'.ownBlock := by
 rcases h.2 with ⟨rfl, _⟩ | ⟨g, cap, cur, rfl, _, hg, _⟩
 ·exact .inl rfl
 ·rcases h'.2 with ⟨rfl, _⟩ | ⟨g', cap', cur', rfl, _, hg', _⟩
  ·exact .inr (by simp [Value.ownBlock])
  ·refine .inr fun e1 => ?_
   simp only [Value.ownBlock, Option.some.injEq] at e1
   subst e1
   rw [hg] at hg'
   simp at hg'
   exact he hg'.2
theorem own_rowO {w : World} {b e s n : Nat} {v : Value} {xs : List Value} (h : w.ownsRow b e s v n xs) : RowS w e v n xs := by
 rcases h.2 with ⟨rfl, rfl⟩ | ⟨g, cap, cur, rfl, _, hg, _, _, _, ht⟩
 ·exact .inl ⟨rfl, by have := h.1; simpa using this, _, _, rfl⟩
 ·refine .inr ⟨g, 0, cap, cur, (0, 0), rfl, hg, fun j hj => ?_⟩
  rw [Nat.zero_add, ← ht, List.getElem?_take]
  have hl := h.1
  rw [if_pos (by omega)]
  simp
theorem own_young {w : World} {b e s n : Nat} {v : Value} {xs : List Value} (h : w.ownsRow b e s v n xs) {c : Nat} (hc : w.heap.size ≤ c) : v.ownBlock ≠ some c := fun e => by
 have := (h.lt _ e).2
 omega
theorem OpAt.fits {w w' : World} {b : Nat} {ens : List En} {kids : List Int} {hi : En} {bd : Bool} {ev cv : Value} (h : OpAt w b ens kids hi bd ev cv) (g : Grow w w') : OpAt w' b ens kids hi bd ev cv :=
 ⟨h.blk.fits g, owns_fits h.ens g, owns_fits h.kids g⟩
theorem OpAt.but {w w' : World} {b c : Nat} {ens : List En} {kids : List Int} {hi : En} {bd : Bool} {ev cv : Value} (h : OpAt w b ens kids hi bd ev cv) (k : But c w w') (h1 : ev.ownBlock ≠ some c) (h2 : cv.ownBlock ≠ some c) (h3 : b ≠ c) : OpAt w' b ens kids hi bd ev cv :=
 ⟨h.blk.but k h3, owns_but h.ens k h1, owns_but h.kids k h2⟩
theorem row_stands {w w1 : World} {b c t e n s : Nat} {v : Value} {cs xs : List Value} (h : Blk w c t cs) {o : Obj} (_ : w.ownsRow b e s v n xs) (hg : (w.alloc o).grownBy w1 v.ownBlock) (hr : v.ownBlock ≠ some c) : Blk w1 c t cs := by
 have h1 := h.alloc o
 have hl := h1.lt
 unfold Blk at *
 rw [hg.block c hl (fun e => hr e.symm)]
 exact h1
theorem OpAt.pushEns {w w1 : World} {b : Nat} {ens : List En} {kids : List Int} {hi : En} {bd : Bool} {ev cv v' : Value} (h : OpAt w b ens kids hi bd ev cv) {o : Obj} (hg : (w.alloc o).grownBy w1 ev.ownBlock) {x : En}
  (hown : w1.ownsRow (b + 1) 102 3 v' (ens.length + 1) (eCells ens ++ [.string (str x.1), .int .i64 x.2.1, .int .i64 x.2.2])) : OpAt (w1.setCell ⟨b, 0, none⟩ v') b (ens ++ [x]) kids hi bd v' cv := by
 have hB := row_stands h.blk h.ens hg (fun e => by have := (h.ens.lt _ e).1; omega)
 refine ⟨hB.set 0 v', ownsRow_setCell_below ?_ (a := ⟨b, 0, none⟩) (by simp) v', ownsRow_setCell_below ((h.kids.alloc o).kept hg (own_neO h.kids h.ens (by decide))) (a := ⟨b, 0, none⟩) (by simp) v'⟩
 simpa [eCells, enC] using hown
theorem OpAt.pushKids {w w1 : World} {b : Nat} {ens : List En} {kids : List Int} {hi : En} {bd : Bool} {ev cv v' : Value} (h : OpAt w b ens kids hi bd ev cv) {o : Obj} (hg : (w.alloc o).grownBy w1 cv.ownBlock) {x : Int}
  (hown : w1.ownsRow (b + 1) 3 1 v' (kids.length + 1) (iCells kids ++ [.int .i64 x])) : OpAt (w1.setCell ⟨b, 1, none⟩ v') b ens (kids ++ [x]) hi bd ev v' := by
 have hB := row_stands h.blk h.kids hg (fun e => by have := (h.kids.lt _ e).1; omega)
 refine ⟨hB.set 1 v', ownsRow_setCell_below ((h.ens.alloc o).kept hg (own_neO h.ens h.kids (by decide))) (a := ⟨b, 1, none⟩) (by simp) v', ownsRow_setCell_below ?_ (a := ⟨b, 1, none⟩) (by simp) v'⟩
 simpa [iCells] using hown
theorem infoIntO : (Tryz.prog.info? 3).map (fun i => (i.zero, i.size, i.bytes)) = some (some (.int .i64 0), 1, 8) := by kernel_rfl
theorem infoEntryO : (Tryz.prog.info? 102).map (fun i => (i.zero, i.size, i.bytes)) = some (some (.agg #[.string ⟨#[]⟩, .int .i64 0, .int .i64 0]), 3, 32) := by kernel_rfl
theorem cell_three_newO (w : World) (x y z : Value) (t : TypeId) : ∀ j u, [x, y, z][j]? = some u → (w.alloc (.cells #[x, y, z] t)).cell? ((⟨w.heap.size, 0, none⟩ : Addr).add j) = some u := by
 intro j u hj
 match j, hj with
 | 0, hj => simp at hj; subst hj; simp [Addr.add]
 | 1, hj => simp at hj; subst hj; simp [Addr.add]
 | 2, hj => simp at hj; subst hj; simp [Addr.add]
theorem round_belowO {b : Nat} {w1 x x3 : World} {o : Obj} {row : Option Nat} {i : Nat} {v' : Value} (hbw : Below b w1 x) (hb : b ≤ x.heap.size) (hgrow : (x.alloc o).grownBy x3 row) (hrow : ∀ g, row = some g → b + 1 ≤ g) : Below b w1 (x3.setCell ⟨b, i, none⟩ v') := by
 refine ((hbw.alloc hb o).grown hgrow (by simp; omega) ?_).setCell (Nat.le_refl _) _
 intro k e
 have := hrow k e
 omega
def OpenPost (P : Pg) (w : World) (e : Ending) (w' : World) : Prop :=
 ∃ a1 n1 c1 a2 n2 c2 hi bd ok, e = .returned (.tuple #[.agg #[.slice a1 n1 c1, .slice a2 n2 c2, .string (str hi.1), .int .i64 hi.2.1, .int .i64 hi.2.2, .bool bd], .bool ok]) ∧
  ok = openOk P ∧ (ok = true → EnsS w' (.slice a1 n1 c1) (ensN P) ∧ IntsS w' (.slice a2 n2 c2) (kidsN P) ∧ hi = hiN P ∧ bd = bdN P) ∧ Below w.heap.size w w'
def OpenCap (P : Pg) (w : World) (e : Ending) (w' : World) : Prop :=
 ∃ a1 n1 c1 a2 n2 c2 hi bd ok, e = .returned (.tuple #[.agg #[.slice a1 n1 c1, .slice a2 n2 c2, .string (str hi.1), .int .i64 hi.2.1, .int .i64 hi.2.2, .bool bd], .bool ok]) ∧
  ok = openOk P ∧ (ok = true → EnsS w' (.slice a1 n1 c1) (ensN P) ∧ IntsS w' (.slice a2 n2 c2) (kidsN P) ∧ hi = hiN P ∧ bd = bdN P ∧ n1 ≤ c1) ∧ Below w.heap.size w w'
theorem OpenCap.post {P : Pg} {w w' : World} {e : Ending} (h : OpenCap P w e w') : OpenPost P w e w' := by
 obtain ⟨a1, n1, c1, a2, n2, c2, hi, bd, ok, h1, h2, h3, h4⟩ := h
 exact ⟨a1, n1, c1, a2, n2, c2, hi, bd, ok, h1, h2, fun h => ⟨(h3 h).1, (h3 h).2.1, (h3 h).2.2.1, (h3 h).2.2.2.1⟩, h4⟩
theorem own_cap {w : World} {b e s n n' cap : Nat} {a : Option Addr} {xs : List Value} (h : w.ownsRow b e s (.slice a n' cap) n xs) : n' ≤ cap := by
 rcases h.2 with ⟨h1, _⟩ | ⟨g, cap', cur, h1, _, _, h2, _⟩
 ·simp at h1; omega
 ·simp at h1; omega
end Go.Proofs.YtmhepfehcakmjaaGreat
namespace Go.Proofs.YtmhepfehcakmjaaGreat
open Go.RowKit
attribute [local go_sem] gives givesUpon_value givesUpon_skip givesUpon_enter
theorem openPost_no {P : Pg} {w_ w' : World} {e : Ending} {a1 a2 : Option Addr} {n1 c1 n2 c2 : Nat} {k : List UInt8} {p s : Int} {bd : Bool} (he : e = .returned (.tuple #[.agg #[.slice a1 n1 c1, .slice a2 n2 c2, .string (str k), .int .i64 p, .int .i64 s, .bool bd], .bool false])) (hno : false = openOk P) (hg : Below w_.heap.size w_ w') : OpenCap P w_ e w' :=
 ⟨a1, n1, c1, a2, n2, c2, (k, p, s), bd, false, he, hno, fun h => absurd h (by decide), hg⟩
set_option maxRecDepth 100000 in
set_option maxHeartbeats 2000000 in
theorem opened_enc (P : Pg) (iv : Value) (w_ : World) (hi : Items w_ iv P.items) (hs : ∀ x ∈ P.items, (x.length : Int) ≤ 140737488355328) (hh : (P.high.length : Int) ≤ 140737488355328) (hl : (P.items.length : Int) ≤ 140737488355328) (hlsn : P.lsn ≤ 9223372036854775807)
  (hbad : encOk P = false) : Calls Tryz.prog 108 #[pgV P iv] w_ (OpenCap P w_) := by
 have hho : headOk P = false := by unfold headOk; rw [hbad]; rfl
 have hno : false = openOk P := by unfold openOk; rw [hho]; rfl
 have HNo := keep hno
 clear hno
 clear hho
 obtain ⟨w1, hw1⟩ : ∃ w1, w1 = ((w_.alloc (.cells (pgCells P iv).toArray 24)).alloc (.cells #[.slice none 0 0, .slice none 0 0, .string ⟨#[]⟩, .int .i64 0, .int .i64 0, .bool false] 170)).alloc (.cells #[.slice none 0 0, .slice none 0 0, .string ⟨#[]⟩, .int .i64 0, .int .i64 0, .bool false] 170) := ⟨_, rfl⟩
 have hg1 : Grow w_ w1 := by subst hw1; exact (((Grow.refl w_).alloc _).alloc _).alloc _
 have hz1 : w1.heap.size = w_.heap.size + 3 := by subst hw1; simp
 have hP1 : Blk w1 w_.heap.size 24 (pgCells P iv) := by subst hw1; exact ((Blk.new w_ _ _).alloc _).alloc _
 have hR1 : Blk w1 (w_.heap.size + 1) 170 [.slice none 0 0, .slice none 0 0, .string ⟨#[]⟩, .int .i64 0, .int .i64 0, .bool false] := by
  have := (Blk.new (w_.alloc (.cells (pgCells P iv).toArray 24)) 170 [.slice none 0 0, .slice none 0 0, .string ⟨#[]⟩, .int .i64 0, .int .i64 0, .bool false]).alloc (.cells #[.slice none 0 0, .slice none 0 0, .string ⟨#[]⟩, .int .i64 0, .int .i64 0, .bool false] 170)
  have e : (w_.alloc (.cells (pgCells P iv).toArray 24)).heap.size = w_.heap.size + 1 := by simp
  rw [e] at this
  subst hw1; exact this
 have hO1 : OpAt w1 (w_.heap.size + 2) [] [] leastE false (.slice none 0 0) (.slice none 0 0) := by
  have := Blk.new ((w_.alloc (.cells (pgCells P iv).toArray 24)).alloc (.cells #[.slice none 0 0, .slice none 0 0, .string ⟨#[]⟩, .int .i64 0, .int .i64 0, .bool false] 170)) 170 [.slice none 0 0, .slice none 0 0, .string ⟨#[]⟩, .int .i64 0, .int .i64 0, .bool false]
  have e : ((w_.alloc (.cells (pgCells P iv).toArray 24)).alloc (.cells #[.slice none 0 0, .slice none 0 0, .string ⟨#[]⟩, .int .i64 0, .int .i64 0, .bool false] 170)).heap.size = w_.heap.size + 2 := by simp
  rw [e] at this
  subst hw1; exact ⟨this, World.ownsRow_nil _ _ _ _, World.ownsRow_nil _ _ _ _⟩
 have hI1 := Row.fits hi hg1
 have hen := pageEnc_any P iv w1 hI1 hs hh hl hlsn
 obtain ⟨ia, ic, rfl⟩ := items_form hi
 have HEn := keep hen
 have HI := keep hi
 have HS := keep hs
 have HP1 := keep hP1
 clear hen hi hI1 hs
 unfold pgCells at hw1 hP1
 have hw0 := w_.heap.size.zero_le
 unfold pgV
 go_enter Tryz.func108, Tryz.ntmps108
 go_upto_region 2 with fail
 rw [← hw1]
 clear hw1
 have e1 : w_.heap.size + 1 + 1 = w_.heap.size + 2 := by omega
 rw [e1]
 obtain ⟨p0, p1, p2, p3, p4, p5, _⟩ := pgres hP1
 clear e1
 go_wp2_with fail
 refine HEn.out.mono ?_
 rintro e w2 ⟨es, c, rfl, hc, hb2⟩
 have hP2 := hP1.fits hb2
 have hR2 := hR1.fits hb2
 have hO2 := hO1.fits hb2
 have hG2 : Grow w_ w2 := Grow.trans hg1 hb2
 clear p0 p1 p2 p3 p4 p5 hP1 hR1 hO1 hb2 hg1
 obtain ⟨p0, p1, p2, p3, p4, p5, _⟩ := pgres hP2
 have hc0 : (c != 0) = true := by
  have : ¬ c = 0 := fun e => by rw [hbad] at hc; exact absurd (hc.1 e) (by decide)
  simp [this]
 clear hc hbad
 have HOB : Kept (Blk w2 (w_.heap.size + 2) 170 [.slice none 0 0, .slice none 0 0, .string (str []), .int .i64 0, .int .i64 0, .bool false]) := keep hO2.blk
 obtain ⟨o0, o1, o2, o3, o4, o5, _⟩ := pgres HOB.out
 obtain ⟨r0, r1, r2, r3, r4, r5, f0, f1, f2, f3, f4, f5⟩ := pgres hR2
 have Hset := keep (pgset hR2 (.slice none 0 0) (.slice none 0 0) (.string (str [])) (.int .i64 0) (.int .i64 0) (.bool false))
 have Hlt := keep hR2.lt
 have HG9 := keep hG2
 clear hO2 hR2 hG2
 go_wp2_with fail
 refine bodyPost_ret (v := .tuple #[.agg #[.slice none 0 0, .slice none 0 0, .string (str []), .int .i64 0, .int .i64 0, .bool false], .bool false]) ?_ rfl (openPost_no rfl HNo.out (But.below HG9.out (pgbut w2 _ _ _ _ _ _ _) (by omega) (Nat.le_of_lt (Nat.lt_of_le_of_lt (by omega) Hlt.out))))
 obtain ⟨s0, s1, s2, s3, s4, s5, _⟩ := pgres Hset.out
 simp [results, Tryz.results108, go_sem, s0, s1, s2, s3, s4, s5]
 try rfl
set_option maxRecDepth 100000 in
set_option maxHeartbeats 2000000 in
theorem opened_kind (P : Pg) (iv : Value) (w_ : World) (hi : Items w_ iv P.items) (hs : ∀ x ∈ P.items, (x.length : Int) ≤ 140737488355328) (hh : (P.high.length : Int) ≤ 140737488355328) (hl : (P.items.length : Int) ≤ 140737488355328) (hlsn : P.lsn ≤ 9223372036854775807)
  (he : encOk P = true) (hbad : (decide (P.kind = 3) && inB P.right 0 65535) = false) : Calls Tryz.prog 108 #[pgV P iv] w_ (OpenCap P w_) := by
 have hho : headOk P = false := by unfold headOk; rw [hbad, Bool.and_false]; rfl
 have hno : false = openOk P := by unfold openOk; rw [hho]; rfl
 have HNo := keep hno
 clear hno
 clear hho
 obtain ⟨w1, hw1⟩ : ∃ w1, w1 = ((w_.alloc (.cells (pgCells P iv).toArray 24)).alloc (.cells #[.slice none 0 0, .slice none 0 0, .string ⟨#[]⟩, .int .i64 0, .int .i64 0, .bool false] 170)).alloc (.cells #[.slice none 0 0, .slice none 0 0, .string ⟨#[]⟩, .int .i64 0, .int .i64 0, .bool false] 170) := ⟨_, rfl⟩
 have hg1 : Grow w_ w1 := by subst hw1; exact (((Grow.refl w_).alloc _).alloc _).alloc _
 have hz1 : w1.heap.size = w_.heap.size + 3 := by subst hw1; simp
 have hP1 : Blk w1 w_.heap.size 24 (pgCells P iv) := by subst hw1; exact ((Blk.new w_ _ _).alloc _).alloc _
 have hR1 : Blk w1 (w_.heap.size + 1) 170 [.slice none 0 0, .slice none 0 0, .string ⟨#[]⟩, .int .i64 0, .int .i64 0, .bool false] := by
  have := (Blk.new (w_.alloc (.cells (pgCells P iv).toArray 24)) 170 [.slice none 0 0, .slice none 0 0, .string ⟨#[]⟩, .int .i64 0, .int .i64 0, .bool false]).alloc (.cells #[.slice none 0 0, .slice none 0 0, .string ⟨#[]⟩, .int .i64 0, .int .i64 0, .bool false] 170)
  have e : (w_.alloc (.cells (pgCells P iv).toArray 24)).heap.size = w_.heap.size + 1 := by simp
  rw [e] at this
  subst hw1; exact this
 have hO1 : OpAt w1 (w_.heap.size + 2) [] [] leastE false (.slice none 0 0) (.slice none 0 0) := by
  have := Blk.new ((w_.alloc (.cells (pgCells P iv).toArray 24)).alloc (.cells #[.slice none 0 0, .slice none 0 0, .string ⟨#[]⟩, .int .i64 0, .int .i64 0, .bool false] 170)) 170 [.slice none 0 0, .slice none 0 0, .string ⟨#[]⟩, .int .i64 0, .int .i64 0, .bool false]
  have e : ((w_.alloc (.cells (pgCells P iv).toArray 24)).alloc (.cells #[.slice none 0 0, .slice none 0 0, .string ⟨#[]⟩, .int .i64 0, .int .i64 0, .bool false] 170)).heap.size = w_.heap.size + 2 := by simp
  rw [e] at this
  subst hw1; exact ⟨this, World.ownsRow_nil _ _ _ _, World.ownsRow_nil _ _ _ _⟩
 have hI1 := Row.fits hi hg1
 have hen := pageEnc_any P iv w1 hI1 hs hh hl hlsn
 obtain ⟨ia, ic, rfl⟩ := items_form hi
 have HEn := keep hen
 have HI := keep hi
 have HS := keep hs
 have HP1 := keep hP1
 clear hen hi hI1 hs
 unfold pgCells at hw1 hP1
 have hw0 := w_.heap.size.zero_le
 unfold pgV
 go_enter Tryz.func108, Tryz.ntmps108
 go_upto_region 2 with fail
 rw [← hw1]
 clear hw1
 have e1 : w_.heap.size + 1 + 1 = w_.heap.size + 2 := by omega
 rw [e1]
 obtain ⟨p0, p1, p2, p3, p4, p5, _⟩ := pgres hP1
 clear e1
 go_wp2_with fail
 refine HEn.out.mono ?_
 rintro e w2 ⟨es, c, rfl, hc, hb2⟩
 have hP2 := hP1.fits hb2
 have hR2 := hR1.fits hb2
 have hO2 := hO1.fits hb2
 have hG2 : Grow w_ w2 := Grow.trans hg1 hb2
 clear p0 p1 p2 p3 p4 p5 hP1 hR1 hO1 hb2 hg1
 obtain ⟨p0, p1, p2, p3, p4, p5, _⟩ := pgres hP2
 have hc0 : c = 0 := hc.2 he
 subst hc0
 clear hc he
 by_cases hk : P.kind = 3
 ·have hk2 : (P.kind != 3) = false := by simp [hk]
  have hr : inB P.right 0 65535 = false := by rw [decide_eq_true hk, Bool.true_and] at hbad; exact hbad
  have hwi := fun u => within_any P.right 0 65535 u
  rw [hr] at hwi
  have HWi := keep hwi
  clear hk hbad hr hwi
  go_wp2_with fail
  refine (HWi.out w2).mono ?_
  rintro x w3 ⟨rfl, rfl⟩
  have HOB : Kept (Blk w2 (w_.heap.size + 2) 170 [.slice none 0 0, .slice none 0 0, .string (str []), .int .i64 0, .int .i64 0, .bool false]) := keep hO2.blk
  obtain ⟨o0, o1, o2, o3, o4, o5, _⟩ := pgres HOB.out
  obtain ⟨r0, r1, r2, r3, r4, r5, f0, f1, f2, f3, f4, f5⟩ := pgres hR2
  have Hset := keep (pgset hR2 (.slice none 0 0) (.slice none 0 0) (.string (str [])) (.int .i64 0) (.int .i64 0) (.bool false))
  have Hlt := keep hR2.lt
  have HG9 := keep hG2
  clear hO2 hR2 hG2
  go_wp2_with fail
  refine bodyPost_ret (v := .tuple #[.agg #[.slice none 0 0, .slice none 0 0, .string (str []), .int .i64 0, .int .i64 0, .bool false], .bool false]) ?_ rfl (openPost_no rfl HNo.out (But.below HG9.out (pgbut w2 _ _ _ _ _ _ _) (by omega) (Nat.le_of_lt (Nat.lt_of_le_of_lt (by omega) Hlt.out))))
  obtain ⟨s0, s1, s2, s3, s4, s5, _⟩ := pgres Hset.out
  simp [results, Tryz.results108, go_sem, s0, s1, s2, s3, s4, s5]
  try rfl
 ·have hk2 : (P.kind != 3) = true := by simp [hk]
  clear hk hbad
  have HOB : Kept (Blk w2 (w_.heap.size + 2) 170 [.slice none 0 0, .slice none 0 0, .string (str []), .int .i64 0, .int .i64 0, .bool false]) := keep hO2.blk
  obtain ⟨o0, o1, o2, o3, o4, o5, _⟩ := pgres HOB.out
  obtain ⟨r0, r1, r2, r3, r4, r5, f0, f1, f2, f3, f4, f5⟩ := pgres hR2
  have Hset := keep (pgset hR2 (.slice none 0 0) (.slice none 0 0) (.string (str [])) (.int .i64 0) (.int .i64 0) (.bool false))
  have Hlt := keep hR2.lt
  have HG9 := keep hG2
  clear hO2 hR2 hG2
  go_wp2_with fail
  refine bodyPost_ret (v := .tuple #[.agg #[.slice none 0 0, .slice none 0 0, .string (str []), .int .i64 0, .int .i64 0, .bool false], .bool false]) ?_ rfl (openPost_no rfl HNo.out (But.below HG9.out (pgbut w2 _ _ _ _ _ _ _) (by omega) (Nat.le_of_lt (Nat.lt_of_le_of_lt (by omega) Hlt.out))))
  obtain ⟨s0, s1, s2, s3, s4, s5, _⟩ := pgres Hset.out
  simp [results, Tryz.results108, go_sem, s0, s1, s2, s3, s4, s5]
  try rfl
set_option maxRecDepth 100000 in
set_option maxHeartbeats 2000000 in
theorem opened_high (P : Pg) (iv : Value) (w_ : World) (hi : Items w_ iv P.items) (hs : ∀ x ∈ P.items, (x.length : Int) ≤ 140737488355328) (hh : (P.high.length : Int) ≤ 140737488355328) (hl : (P.items.length : Int) ≤ 140737488355328) (hlsn : P.lsn ≤ 9223372036854775807)
  (he : encOk P = true) (hk : P.kind = 3) (hr : inB P.right 0 65535 = true) (hne : P.high ≠ []) (hbad : (decN P.high).2 ≠ 0) : Calls Tryz.prog 108 #[pgV P iv] w_ (OpenCap P w_) := by
 have hho : headOk P = false := by unfold headOk; rw [decide_eq_false hne, decide_eq_false hbad]; simp
 have hno : false = openOk P := by unfold openOk; rw [hho]; rfl
 have HNo := keep hno
 clear hno
 clear hho
 have hde := fun u => decode_any P.high u (by have := hh; omega)
 have hne2 : (str P.high).toList.isEmpty = false := by rw [str_list]; simpa using hne
 have hk2 : (P.kind != 3) = false := by simp [hk]
 have hwi := fun u => within_any P.right 0 65535 u
 rw [hr] at hwi
 have HWi := keep hwi
 clear hk hr hwi hne
 generalize decN P.high = D at *
 obtain ⟨de, dc⟩ := D
 dsimp only at hde hbad
 have hbad2 : (dc != 0) = true := by simp [hbad]
 have HDe := keep hde
 have HNe := keep hne2
 clear hde hbad hne2
 obtain ⟨w1, hw1⟩ : ∃ w1, w1 = ((w_.alloc (.cells (pgCells P iv).toArray 24)).alloc (.cells #[.slice none 0 0, .slice none 0 0, .string ⟨#[]⟩, .int .i64 0, .int .i64 0, .bool false] 170)).alloc (.cells #[.slice none 0 0, .slice none 0 0, .string ⟨#[]⟩, .int .i64 0, .int .i64 0, .bool false] 170) := ⟨_, rfl⟩
 have hg1 : Grow w_ w1 := by subst hw1; exact (((Grow.refl w_).alloc _).alloc _).alloc _
 have hz1 : w1.heap.size = w_.heap.size + 3 := by subst hw1; simp
 have hP1 : Blk w1 w_.heap.size 24 (pgCells P iv) := by subst hw1; exact ((Blk.new w_ _ _).alloc _).alloc _
 have hR1 : Blk w1 (w_.heap.size + 1) 170 [.slice none 0 0, .slice none 0 0, .string ⟨#[]⟩, .int .i64 0, .int .i64 0, .bool false] := by
  have := (Blk.new (w_.alloc (.cells (pgCells P iv).toArray 24)) 170 [.slice none 0 0, .slice none 0 0, .string ⟨#[]⟩, .int .i64 0, .int .i64 0, .bool false]).alloc (.cells #[.slice none 0 0, .slice none 0 0, .string ⟨#[]⟩, .int .i64 0, .int .i64 0, .bool false] 170)
  have e : (w_.alloc (.cells (pgCells P iv).toArray 24)).heap.size = w_.heap.size + 1 := by simp
  rw [e] at this
  subst hw1; exact this
 have hO1 : OpAt w1 (w_.heap.size + 2) [] [] leastE false (.slice none 0 0) (.slice none 0 0) := by
  have := Blk.new ((w_.alloc (.cells (pgCells P iv).toArray 24)).alloc (.cells #[.slice none 0 0, .slice none 0 0, .string ⟨#[]⟩, .int .i64 0, .int .i64 0, .bool false] 170)) 170 [.slice none 0 0, .slice none 0 0, .string ⟨#[]⟩, .int .i64 0, .int .i64 0, .bool false]
  have e : ((w_.alloc (.cells (pgCells P iv).toArray 24)).alloc (.cells #[.slice none 0 0, .slice none 0 0, .string ⟨#[]⟩, .int .i64 0, .int .i64 0, .bool false] 170)).heap.size = w_.heap.size + 2 := by simp
  rw [e] at this
  subst hw1; exact ⟨this, World.ownsRow_nil _ _ _ _, World.ownsRow_nil _ _ _ _⟩
 have hI1 := Row.fits hi hg1
 have hen := pageEnc_any P iv w1 hI1 hs hh hl hlsn
 obtain ⟨ia, ic, rfl⟩ := items_form hi
 have HEn := keep hen
 have HI := keep hi
 have HS := keep hs
 have HP1 := keep hP1
 clear hen hi hI1 hs
 unfold pgCells at hw1 hP1
 have hw0 := w_.heap.size.zero_le
 unfold pgV
 go_enter Tryz.func108, Tryz.ntmps108
 go_upto_region 2 with fail
 rw [← hw1]
 clear hw1
 have e1 : w_.heap.size + 1 + 1 = w_.heap.size + 2 := by omega
 rw [e1]
 obtain ⟨p0, p1, p2, p3, p4, p5, _⟩ := pgres hP1
 clear e1
 go_wp2_with fail
 refine HEn.out.mono ?_
 rintro e w2 ⟨es, c, rfl, hc, hb2⟩
 have hP2 := hP1.fits hb2
 have hR2 := hR1.fits hb2
 have hO2 := hO1.fits hb2
 have hG2 : Grow w_ w2 := Grow.trans hg1 hb2
 clear p0 p1 p2 p3 p4 p5 hP1 hR1 hO1 hb2 hg1
 obtain ⟨p0, p1, p2, p3, p4, p5, _⟩ := pgres hP2
 have hc0 : c = 0 := hc.2 he
 subst hc0
 clear hc he
 have hne3 := HNe.out
 go_wp2_with fail
 refine (HWi.out w2).mono ?_
 rintro x w3 ⟨rfl, rfl⟩
 go_wp2_with fail
 refine (HDe.out w2).mono ?_
 rintro x w3 ⟨rfl, hb3⟩
 have hR3 := hR2.fits hb3
 have hO3 := hO2.fits hb3
 have hG3 : Grow w_ w3 := Grow.trans hG2 hb3
 clear p0 p1 p2 p3 p4 p5 hP2 hR2 hO2 hb3 hG2
 unfold enV
 go_upto_region 7 with fail
 obtain ⟨w4, hw4⟩ : ∃ w4, w4 = w3.alloc (.cells #[.string (str de.1), .int .i64 de.2.1, .int .i64 de.2.2] 102) := ⟨_, rfl⟩
 rw [← hw4]
 have hb4 : Grow w3 w4 := by subst hw4; exact (Grow.refl _).alloc _
 have hR4 := hR3.fits hb4
 have hO4 := hO3.fits hb4
 have hG4 : Grow w_ w4 := Grow.trans hG3 hb4
 clear hw4 hb4 hR3 hO3 hG3
 have HOB : Kept (Blk w4 (w_.heap.size + 2) 170 [.slice none 0 0, .slice none 0 0, .string (str []), .int .i64 0, .int .i64 0, .bool false]) := keep hO4.blk
 obtain ⟨o0, o1, o2, o3, o4, o5, _⟩ := pgres HOB.out
 obtain ⟨r0, r1, r2, r3, r4, r5, f0, f1, f2, f3, f4, f5⟩ := pgres hR4
 have Hset := keep (pgset hR4 (.slice none 0 0) (.slice none 0 0) (.string (str [])) (.int .i64 0) (.int .i64 0) (.bool false))
 have Hlt := keep hR4.lt
 have HG9 := keep hG4
 clear hO4 hR4 hG4
 go_wp2_with fail
 refine bodyPost_ret (v := .tuple #[.agg #[.slice none 0 0, .slice none 0 0, .string (str []), .int .i64 0, .int .i64 0, .bool false], .bool false]) ?_ rfl (openPost_no rfl HNo.out (But.below HG9.out (pgbut w4 _ _ _ _ _ _ _) (by omega) (Nat.le_of_lt (Nat.lt_of_le_of_lt (by omega) Hlt.out))))
 obtain ⟨s0, s1, s2, s3, s4, s5, _⟩ := pgres Hset.out
 simp [results, Tryz.results108, go_sem, s0, s1, s2, s3, s4, s5]
 try rfl
end Go.Proofs.YtmhepfehcakmjaaGreat
