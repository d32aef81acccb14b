import Derived.Test.YtigbgodbalpgdaaGreatKCg9
import Derived.Test.YtigbgodbalpgdaaGreatKCg6
import Derived.Test.YtigbgodbalpgdaaGreatKSp2
import Derived.Test.YtigbgodbalpgdaaGreatKSm1
import Derived.Test.YtigbgodbalpgdaaGreatKAw1
import Derived.Deep.CutRange
/- node.Split and the document's Split, of any page; rows that may be stored into; how long a changed page is. -/
namespace Go.Proofs.YtigbgodbalpgdaaGreat
open Go.RowKit

theorem own_any_set {N n c : Nat} {a : Option Addr} {w : World} {l : List (List UInt8)} (h : OwnS N w (.slice a n c) l) (g i : Nat) (y : List UInt8) :
    ∃ l', l'.length = l.length ∧ OwnS N (w.setCell ⟨g, i, none⟩ (.string (str y))) (.slice a n c) l' := by
  rcases h.2 with ⟨h1, h2⟩ | ⟨g', cap, cur, h1, h2, h3, h4, h5, h6, h7⟩
  · exact ⟨l, rfl, h.1, .inl ⟨h1, h2⟩⟩
  · simp only [Value.slice.injEq] at h1
    obtain ⟨rfl, rfl, rfl⟩ := h1
    by_cases hg : g' = g
    · subst hg
      have hb : Blk w g' 9 cur.toList := by unfold Blk; simpa using h3
      refine ⟨l.set i y, by simp, ?_⟩
      unfold OwnS
      rw [List.length_set]
      refine owns_of h2 (hb.set i (.string (str y))) h4 h5 (by rw [List.length_set]; simpa using h6) ?_
      have h8 : cur.toList.take l.length = sCells l := by simpa using h7
      rw [List.take_set, h8]
      simp [sCells, List.map_set]
    · exact ⟨l, rfl, own_other h hg⟩

/-- A row of strings that may be stored into. -/
def Sto (N : Nat) (w : World) (a : Option Addr) (n c : Nat) : Prop := n = 0 ∨ ∃ l : List (List UInt8), l.length = n ∧ OwnS N w (.slice a n c) l
theorem Sto.fits {N n c : Nat} {a : Option Addr} {w w' : World} (h : Sto N w a n c) (g : Grow w w') : Sto N w' a n c := h.imp id fun ⟨l, h1, h2⟩ => ⟨l, h1, h2.fits g⟩
theorem Sto.set {N n c : Nat} {a : Option Addr} {w : World} (h : Sto N w a n c) (g i : Nat) (y : List UInt8) : Sto N (w.setCell ⟨g, i, none⟩ (.string (str y))) a n c := by
  rcases h with h | ⟨l, h1, h2⟩
  · exact .inl h
  · obtain ⟨l', h3, h4⟩ := own_any_set h2 g i y
    exact .inr ⟨l', by omega, h4⟩
theorem Sto.spot {N n c : Nat} {a : Option Addr} {w : World} (h : Sto N w a n c) {i : Nat} (hi : i < n) :
    ∃ g x, a = some ⟨g, 0, none⟩ ∧ N ≤ g ∧ w.cell? ⟨g, i, none⟩ = some (.string (str x)) ∧ w.frozen? ⟨g, i, none⟩ = false ∧ ∀ b t cs, Blk w b t cs → t ≠ 9 → b ≠ g := by
  rcases h with h | ⟨l, h1, h2⟩
  · omega
  · obtain ⟨g, rfl, h3, h4⟩ := own_some h2 (by omega)
    exact ⟨g, _, rfl, h3, (h4 i (by omega)).1, (h4 i (by omega)).2, fun b t cs hb ht => own_ne h2 hb ht⟩

def SplitWr (A B : Pg) (e : En) (c : Int) (w : World) (x : Ending) (w' : World) : Prop :=
  ∃ aa ac ba bc, x = .returned (.tuple #[pgV A (.slice aa A.items.length ac), pgV B (.slice ba B.items.length bc), enV e, .int .i64 c]) ∧ Items w' (.slice aa A.items.length ac) A.items ∧ Items w' (.slice ba B.items.length bc) B.items ∧
    Sto w.heap.size w' aa A.items.length ac ∧ Sto w.heap.size w' ba B.items.length bc ∧ Below w.heap.size w w'
theorem split_own {A B : Pg} {e : En} {c : Int} {w w' : World} {x : Ending} (h : SplitOwn A B e c w x w') : SplitWr A B e c w x w' := by
  obtain ⟨av, bv, h1, h2, h3, h4⟩ := h
  obtain ⟨aa, ac, rfl⟩ := h2.form
  obtain ⟨ba, bc, rfl⟩ := h3.form
  exact ⟨aa, ac, ba, bc, h1, h2.items.1.weak, h3.items.1.weak, .inr ⟨_, rfl, h2⟩, .inr ⟨_, rfl, h3⟩, h4⟩
theorem split_nil {e : En} {c : Int} {w w' : World} {x : Ending} (h : SplitPost zeroP zeroP e c w x w') : SplitWr zeroP zeroP e c w x w' := by
  obtain ⟨av, bv, h1, h2, h3, h4⟩ := h
  obtain ⟨aa, ac, rfl⟩ := itemsS_form h2.1
  obtain ⟨ba, bc, rfl⟩ := itemsS_form h3.1
  exact ⟨aa, ac, ba, bc, h1, h2.1.weak, h3.1.weak, .inl rfl, .inl rfl, h4⟩
theorem split_node (P : Pg) (iv : Value) (r : Int) (w_ : World) (hin : PgIn w_ iv P) (hcap : Capd iv) :
    Calls Tryz.prog 11 #[pgV P iv, .int .i64 r] w_ (SplitWr (splitN P r).1 (splitN P r).2.1 (splitN P r).2.2.1 (splitN P r).2.2.2 w_) := by
  unfold splitN
  cases h : splitOk P r with
  | true => exact (split_any P iv r w_ hin hcap h).mono fun _ _ k => split_own k
  | false => exact (split_no P iv r w_ hin h).mono fun _ _ k => split_nil k
theorem rsplit_node (P : Pg) (iv : Value) (r : Int) (w_ : World) (hin : PgIn w_ iv P) (hcap : Capd iv) :
    Calls Tryz.prog 12 #[pgV P iv, .int .i64 r] w_ (SplitWr (splitN P r).1 (splitN P r).2.1 (splitN P r).2.2.1 (splitN P r).2.2.2 w_) := by
  unfold splitN
  cases h : splitOk P r with
  | true => exact (rsplit_any P iv r w_ hin hcap h).mono fun _ _ k => split_own k
  | false => exact (rsplit_no P iv r w_ hin h).mono fun _ _ k => split_nil k

theorem turned_len (P : Pg) (l : List (List UInt8)) : (turnedN P l).1.items.length ≤ l.length := by
  unfold turnedN
  split
  · exact Nat.le_refl _
  · exact Nat.zero_le _
theorem put_len (P : Pg) (i : Nat) (x : List UInt8) : (putN P i x).1.items.length ≤ P.items.length + 1 := by
  refine Nat.le_trans (turned_len _ _) ?_
  rw [List.length_append, List.length_cons, List.length_take, List.length_drop]
  omega
theorem ins_len (P : Pg) (e : En) : (insN P e).1.items.length ≤ P.items.length + 1 := by
  unfold insN
  split
  · split
    · exact Nat.zero_le _
    · exact put_len _ _ _
  · exact Nat.zero_le _
theorem post_len (P : Pg) (e : En) (c : Int) : (postN P e c).1.items.length ≤ P.items.length + 1 := by
  unfold postN
  split
  · split
    · exact Nat.zero_le _
    · exact put_len _ _ _
  · exact Nat.zero_le _
theorem rem_len (P : Pg) (e : En) : (remN P e).1.items.length ≤ P.items.length + 1 := by
  unfold remN
  split
  · simp only [outP, List.length_append, List.length_take, List.length_drop]
    omega
  · exact Nat.zero_le _
theorem split_len (P : Pg) (r : Int) : (splitN P r).1.items.length ≤ P.items.length + 1 ∧ (splitN P r).2.1.items.length ≤ P.items.length + 1 := by
  unfold splitN
  cases h : splitOk P r with
  | true =>
    have h2 := rightI_length h
    refine ⟨?_, ?_⟩
    · simp only [if_true, leftG, List.length_take]
      omega
    · simp only [if_true, rightG]
      omega
  | false => exact ⟨Nat.zero_le _, Nat.zero_le _⟩
theorem items_mark {w : World} (x : List UInt8) : Items (w.alloc (.cells #[.string (str x)] 9)) (.slice (some ⟨w.heap.size, 0, none⟩) 1 1) [x] :=
  RowS.weak (RowS.blk (Blk.new w 9 [.string (str x)]) 1 1 _ 0 (by intro j hj; rw [Nat.zero_add]; rfl))
theorem neq_same (x0 : List UInt8) (x1 x2 : Int) (w : World) : (binOp .neq 26 (.agg #[.string (str x0), .int .i64 x1, .int .i64 x2]) (.agg #[.string (str x0), .int .i64 x1, .int .i64 x2])).run Tryz.prog w = .ok (.bool false) w := by
  rw [neq_entry]
  simp [sameE]

/-- Both halves' boxes and rows, and what was there ahead of them. -/
def Lp (z : World) (b : Nat) (QX QY : Pg) (xa ya : Option Addr) (xc yc : Nat) (w : World) : Prop :=
  Blk w b 24 (pgCells QX (.slice xa QX.items.length xc)) ∧ Blk w (b + 1) 24 (pgCells QY (.slice ya QY.items.length yc)) ∧ Sto z.heap.size w xa QX.items.length xc ∧ Sto z.heap.size w ya QY.items.length yc ∧ Below z.heap.size z w
theorem Lp.set {z w : World} {b : Nat} {QX QY : Pg} {xa ya : Option Addr} {xc yc : Nat} (h : Lp z b QX QY xa ya xc yc w) (g i : Nat) (y : List UInt8) (hN : z.heap.size ≤ g) (h1 : b ≠ g) (h2 : b + 1 ≠ g) : Lp z b QX QY xa ya xc yc (w.setCell ⟨g, i, none⟩ (.string (str y))) :=
  ⟨h.1.but ((But.refl g w).setCell i _) h1, h.2.1.but ((But.refl g w).setCell i _) h2, h.2.2.1.set g i y, h.2.2.2.1.set g i y, But.below h.2.2.2.2 ((But.refl g w).setCell i _) hN h.2.2.2.2.size⟩
theorem wrap_more (n : Nat) (h : n ≤ 8796093021952) : IntKind.i64.wrap ((n : Int) + 1) = (n : Int) + 1 := by rw [IntKind.wrap_i64]; omega

end Go.Proofs.YtigbgodbalpgdaaGreat

/- almonrylaw14.NodeChanges answers true, for every page, entry and number. -/
namespace Go.Proofs.YtigbgodbalpgdaaGreat
open Go.RowKit
attribute [local go_sem] givesF_none givesF_some evalF_tmp evalF_const evalF_global evalF_func lookL isB_bool isB_undef givesUpon_value givesUpon_skip givesUpon_enter
attribute [local simp] neq_same
attribute [local go_sem] guard_entry

set_option maxRecDepth 100000 in
set_option maxHeartbeats 4000000 in
theorem changes_any (P : Pg) (iv : Value) (e : En) (child : Int) (w_ : World) (hin : PgIn w_ iv P) (hcap : Capd iv) (hlen : P.items.length ≤ 8796093021952) :
    Calls Tryz.prog 3 #[pgV P iv, enV e, .int .i64 child] w_ fun x w' => x = .returned (.bool true) ∧ Below w_.heap.size w_ w' := by
  obtain ⟨ia, ic, rfl⟩ := items_form hin.1
  have hcap2 : P.items.length ≤ ic := hcap
  have hia := fun (u : World) (a : Option Addr) (c : Nat) (h : PgIn u (.slice a P.items.length c) P) => insert_any P (.slice a P.items.length c) e u h
  have hib := fun (u : World) (a : Option Addr) (c : Nat) (h : PgIn u (.slice a P.items.length c) P) (hc : P.items.length ≤ c) => rinsert_any P (.slice a P.items.length c) e u h hc
  have hra := fun (u : World) (a : Option Addr) (c : Nat) (h : PgIn u (.slice a P.items.length c) P) => remove_fn P (.slice a P.items.length c) e u h
  have hrb := fun (u : World) (a : Option Addr) (c : Nat) (h : PgIn u (.slice a P.items.length c) P) (hc : P.items.length ≤ c) => rremove_any P (.slice a P.items.length c) e u h hc
  have hpa := fun (u : World) (a : Option Addr) (c : Nat) (h : PgIn u (.slice a P.items.length c) P) => post_any P (.slice a P.items.length c) e child u h
  have hpb := fun (u : World) (a : Option Addr) (c : Nat) (h : PgIn u (.slice a P.items.length c) P) (hc : P.items.length ≤ c) => rpost_any P (.slice a P.items.length c) e child u h hc
  have hsa := fun (u : World) (a : Option Addr) (c : Nat) (h : PgIn u (.slice a P.items.length c) P) (hc : P.items.length ≤ c) => split_node P (.slice a P.items.length c) child u h hc
  have hsb := fun (u : World) (a : Option Addr) (c : Nat) (h : PgIn u (.slice a P.items.length c) P) (hc : P.items.length ≤ c) => rsplit_node P (.slice a P.items.length c) child u h hc
  have hlA := ins_len P e
  have hlB := rem_len P e
  have hlC := post_len P e child
  obtain ⟨hlX, hlY⟩ := split_len P child
  unfold PgPost at hia hib hra hrb hpa hpb
  unfold SplitWr at hsa hsb
  generalize insN P e = A at *
  generalize remN P e = B at *
  generalize postN P e child = C at *
  generalize splitN P child = D at *
  obtain ⟨QA, ca⟩ := A
  obtain ⟨QB, cb⟩ := B
  obtain ⟨QC, cc⟩ := C
  obtain ⟨QX, QY, ⟨xk, xp, xs⟩, cx⟩ := D
  obtain ⟨k, p, s⟩ := e
  dsimp only at hia hib hra hrb hpa hpb hsa hsb hlA hlB hlC hlX hlY
  unfold pgV enV at hia hib hra hrb hpa hpb hsa hsb
  dsimp only at hia hib hra hrb hpa hpb hsa hsb
  have HIa := keep hia
  have HIb := keep hib
  have HRa := keep hra
  have HRb := keep hrb
  have HPa := keep hpa
  have HPb := keep hpb
  have HSa := keep hsa
  have HSb := keep hsb
  have HLen := keep (And.intro hlA (And.intro hlB (And.intro hlC (And.intro hlX (And.intro hlY hlen)))))
  clear hia hib hra hrb hpa hpb hsa hsb hlA hlB hlC hlX hlY hcap
  obtain ⟨w0, hw0⟩ : ∃ w0, w0 = ((w_.alloc (.cells (pgCells P (.slice ia P.items.length ic)).toArray 24)).alloc (.cells #[.string (str k), .int .i64 p, .int .i64 s] 26)) := ⟨_, rfl⟩
  have hgz : Grow w_ w0 := by subst hw0; exact ((Grow.refl w_).alloc _).alloc _
  have hP0 : Blk w0 w_.heap.size 24 (pgCells P (.slice ia P.items.length ic)) := by
    have := (Blk.new w_ 24 (pgCells P (.slice ia P.items.length ic))).alloc (.cells #[.string (str k), .int .i64 p, .int .i64 s] 26)
    subst hw0; exact this
  have hE0 : Blk w0 (w_.heap.size + 1) 26 [.string (str k), .int .i64 p, .int .i64 s] := by
    have := Blk.new (w_.alloc (.cells (pgCells P (.slice ia P.items.length ic)).toArray 24)) 26 [.string (str k), .int .i64 p, .int .i64 s]
    have e : (w_.alloc (.cells (pgCells P (.slice ia P.items.length ic)).toArray 24)).heap.size = w_.heap.size + 1 := by simp
    rw [e] at this
    subst hw0; exact this
  have hzE := hE0.lt
  have HP0 := keep hP0
  have HE0 := keep hE0
  have HG0 := keep hgz
  have HIn := keep hin
  have HIu := keep (fun (u : World) (hu : Below w_.heap.size w_ u) => (Row.fits HIn.out.1 hu : Items u (.slice ia P.items.length ic) P.items))
  unfold pgCells at hw0
  obtain ⟨p0, p1, p2, p3, p4, p5, _⟩ := pgres hP0
  clear hE0 hgz hin hP0
  unfold pgV enV
  go_enter Tryz.func3, Tryz.ntmps3
  go_upto_region 1 with fail
  rw [← hw0]
  clear hw0
  obtain ⟨w1, hw1⟩ : ∃ w1, w1 = w0.alloc (.cells (pgCells P (.slice ia P.items.length ic)).toArray 24) := ⟨_, rfl⟩
  have hg1 : Grow w0 w1 := by subst hw1; exact (Grow.refl _).alloc _
  have hO1 : Blk w1 w0.heap.size 24 (pgCells P (.slice ia P.items.length ic)) := by subst hw1; exact Blk.new w0 _ _
  have hP1 := HP0.out.fits hg1
  have hz1 : w0.heap.size < w1.heap.size := hO1.lt
  have HO1 := keep hO1
  have HG1 := keep hg1
  have HGW1 := keep (Grow.trans HG0.out hg1)
  have HBd := keep (show 0 + P.items.length ≤ 8796093022208 by omega)
  clear hO1 hg1
  unfold pgCells at hw1
  go_upto_region 2 with fail
  rw [← hw1]
  clear hw1 p0 p1 p2 p3 p4 p5
  obtain ⟨p0, p1, p2, p3, p4, p5, _⟩ := pgres hP1
  have hlP : w_.heap.size < w1.heap.size := by omega
  clear hP1
  go_upto_region 3 with (at_builtin; go_must (refine wpList_sappn rfl _ _ rfl w1.heap.size [] P.items (List.nil_append _) rfl _ _ rfl rfl (own_empty w1) (HIu.out _ (Grow.alloc HGW1.out _)) HBd.out (by simp) ?_); intro la lc w2 ho2 hb2; have HG2 := keep (below_mk hb2); have HO2 := keep ho2; clear ho2 hb2; obtain ⟨q0, q1, q2, q3, q4, q5, f0, f1, f2, f3, f4, f5⟩ := pgres (HO1.out.fits HG2.out))
  have hgw2 := Grow.trans HGW1.out HG2.out
  have hO3 := (HO1.out.fits HG2.out).set 5 (.slice la P.items.length lc)
  have hbut := (But.refl w0.heap.size w2).setCell 5 (.slice la P.items.length lc)
  have hP3 := ((HP0.out.fits HG1.out).fits HG2.out).but hbut (show w_.heap.size ≠ w0.heap.size by omega)
  have hE3 := ((HE0.out.fits HG1.out).fits HG2.out).but hbut (show w_.heap.size + 1 ≠ w0.heap.size by omega)
  have hR3 := HO2.out.but hbut (HO1.out.fits HG2.out) (by decide)
  have hG3 := But.below hgw2 hbut (show w_.heap.size ≤ w0.heap.size by omega) hgw2.size
  have hz3 : (w2.setCell ⟨w0.heap.size, 5, none⟩ (.slice la P.items.length lc)).heap.size = w2.heap.size := by simp
  have hz2 := HG2.out.size
  clear p0 p1 p2 p3 p4 p5 q0 q1 q2 q3 q4 q5 f0 f1 f2 f3 f4 f5 hlP hgw2 hbut HO1 HO2 HP0 HE0 HG1 HG2 HGW1
  generalize w2.setCell ⟨w0.heap.size, 5, none⟩ (.slice la P.items.length lc) = w3 at *
  unfold pgCells at hO3
  simp only [List.set_cons_succ, List.set_cons_zero] at hO3
  obtain ⟨p0, p1, p2, p3, p4, p5, f0, f1, f2, f3, f4, f5⟩ := pgres hO3
  have HO3 := keep hO3
  have HP3 := keep hP3
  have HE3 := keep hE3
  have HR3 := keep hR3
  have HG3 := keep hG3
  have HB1 := keep (show w1.heap.size ≤ w3.heap.size by omega)
  have HBd2 := keep (show P.items.length + 1 ≤ 8796093022208 by omega)
  have hlO : w0.heap.size < w3.heap.size := hO3.lt
  clear hO3 hP3 hE3 hR3 hG3 hz3 hz2
  go_upto_region 4 with (at_builtin; go_must (refine wpList_sappn rfl _ _ rfl w1.heap.size P.items [[109, 97, 114, 107]] (n := P.items.length + 1) rfl (by simp) _ _ rfl rfl (HR3.out.fits (Grow.alloc (Grow.refl w3) (.cells #[.string (str [109, 97, 114, 107])] 9))) (items_mark [109, 97, 114, 107]) HBd2.out (by have := HB1.out; simp; omega) ?_); intro lb lc2 w4 ho4 hb4; have HG4 := keep (Below.trans ((Grow.refl w3).mono HB1.out) (Below.trans ((Grow.alloc (Grow.refl w3) (.cells #[.string (str [109, 97, 114, 107])] 9)).mono HB1.out) hb4)); have HO4 := keep ho4; clear ho4 hb4; obtain ⟨q0, q1, q2, q3, q4, q5, g0, g1, g2, g3, g4, g5⟩ := pgres (HO3.out.below HG4.out (by omega)))
  have hO5 := (HO3.out.below HG4.out (by omega)).set 5 (.slice lb (P.items.length + 1) lc2)
  have hbut := (But.refl w0.heap.size w4).setCell 5 (.slice lb (P.items.length + 1) lc2)
  have hP5 := (HP3.out.below HG4.out (by omega)).but hbut (show w_.heap.size ≠ w0.heap.size by omega)
  have hE5 := (HE3.out.below HG4.out (by omega)).but hbut (show w_.heap.size + 1 ≠ w0.heap.size by omega)
  have hR5 := HO4.out.but hbut (HO3.out.below HG4.out (by omega)) (by decide)
  have hgw4 := Below.trans HG3.out (HG4.out.mono (show w_.heap.size ≤ w1.heap.size by omega))
  have hG5 := But.below hgw4 hbut (show w_.heap.size ≤ w0.heap.size by omega) hgw4.size
  clear p0 p1 p2 p3 p4 p5 f0 f1 f2 f3 f4 f5 q0 q1 q2 q3 q4 q5 g0 g1 g2 g3 g4 g5 hgw4 hbut HO3 HP3 HE3 HR3 HG3 HB1 HG4 HO4
  generalize w4.setCell ⟨w0.heap.size, 5, none⟩ (.slice lb (P.items.length + 1) lc2) = w5 at *
  unfold pgCells at hP5
  simp only [List.set_cons_succ, List.set_cons_zero] at hO5
  obtain ⟨p0, p1, p2, p3, p4, p5, _⟩ := pgres hP5
  obtain ⟨q0, q1, q2, q3, q4, q5, f0, f1, f2, f3, f4, f5⟩ := pgres hO5
  have hrc : P.items.length + 1 ≤ lc2 := hR5.items.2
  have hrc2 : P.items.length ≤ lc2 := by omega
  have hrc3 : (P.items.length : Int) ≤ (lc2 : Int) := by omega
  have HO5 := keep hO5
  have HP5 := keep hP5
  have HE5 := keep hE5
  have HR5 := keep hR5
  have HG5 := keep hG5
  have HRc := keep hrc
  clear hO5 hP5 hE5 hR5 hG5 hrc
  go_upto_region 5 with fail
  have hO6 := HO5.out.set 5 (.slice lb P.items.length lc2)
  have hbut := (But.refl w0.heap.size w5).setCell 5 (.slice lb P.items.length lc2)
  have hP6 := HP5.out.but hbut (show w_.heap.size ≠ w0.heap.size by omega)
  have hE6 := HE5.out.but hbut (show w_.heap.size + 1 ≠ w0.heap.size by omega)
  have hR6 := HR5.out.but hbut HO5.out (by decide)
  have hG6 := But.below HG5.out hbut (show w_.heap.size ≤ w0.heap.size by omega) HG5.out.size
  clear p0 p1 p2 p3 p4 p5 f0 f1 f2 f3 f4 f5 q0 q1 q2 q3 q4 q5 hbut HO5 HP5 HE5 HR5 HG5 hrc3 hrc2
  generalize w5.setCell ⟨w0.heap.size, 5, none⟩ (.slice lb P.items.length lc2) = w6 at *
  simp only [List.set_cons_succ, List.set_cons_zero] at hO6
  have hi6 : Items w6 (.slice lb P.items.length lc2) P.items := by
    have h1 := sub_lo2 (k := P.items.length) hR6.items.1.weak (by simp) (by simp; exact HRc.out)
    simpa using h1
  obtain ⟨g, hlb, _, hmk⟩ := own_some hR6 (by simp)
  subst hlb
  have hm6 := (hmk P.items.length (by simp)).1
  have hx6 : (P.items ++ [[109, 97, 114, 107]])[P.items.length]'(by simp) = [109, 97, 114, 107] := by simp
  rw [hx6] at hm6
  have HO6 := keep hO6
  have HP6 := keep hP6
  have HE6 := keep hE6
  have HG6 := keep hG6
  have HOn := keep (show PgIn w6 (.slice (some ⟨g, 0, none⟩) P.items.length lc2) P from ⟨hi6, HIn.out.2⟩)
  have HPn := keep (show PgIn w6 (.slice ia P.items.length ic) P from ⟨HIu.out _ hG6, HIn.out.2⟩)
  have HM6 := keep hm6
  clear hO6 hP6 hE6 hG6 hi6 hm6 hx6 hmk hR6 hlO HBd HBd2 HIu
  obtain ⟨p0, p1, p2, p3, p4, p5, _⟩ := pgres (HO6.out.fits (Grow.refl w6))
  obtain ⟨e0, e1, e2, _⟩ := enres (HE6.out.fits (Grow.refl w6))
  go_wp2_with fail
  refine (HIa.out w6 _ _ (HOn.out.fits (Grow.refl w6))).mono ?_
  rintro x y0 ⟨xv, rfl, hix, hb⟩
  clear p0 p1 p2 p3 p4 p5 e0 e1 e2 HIa
  obtain ⟨a0, c0, rfl⟩ := itemsS_form hix.1
  go_upto_region 6 with fail
  obtain ⟨u0, hu⟩ : ∃ u, u = y0.alloc (.cells (pgCells QA (.slice a0 QA.items.length c0)).toArray 24) := ⟨_, rfl⟩
  have hbu : Grow y0 u0 := by subst hu; exact (Grow.refl _).alloc _
  have hB : Blk u0 y0.heap.size 24 (pgCells QA (.slice a0 QA.items.length c0)) := by subst hu; exact Blk.new y0 _ _
  have HB0 := keep hB
  have HI0 := keep (hix.fits hbu)
  have HS0 := keep (Grow.trans hb hbu)
  have HT0 := keep (Grow.trans (Grow.refl w6) HS0.out)
  unfold pgCells at hu
  rw [← hu]
  clear hu hB hix hb hbu
  obtain ⟨p0, p1, p2, p3, p4, p5, _⟩ := pgres (HP6.out.fits HT0.out)
  obtain ⟨e0, e1, e2, _⟩ := enres (HE6.out.fits HT0.out)
  go_wp2_with fail
  refine (HIb.out u0 _ _ (HPn.out.fits HT0.out) hcap2).mono ?_
  rintro x y1 ⟨xv, rfl, hix, hb⟩
  clear p0 p1 p2 p3 p4 p5 e0 e1 e2 HIb
  obtain ⟨a1, c1, rfl⟩ := itemsS_form hix.1
  go_upto_region 7 with fail
  obtain ⟨u1, hu⟩ : ∃ u, u = y1.alloc (.cells (pgCells QA (.slice a1 QA.items.length c1)).toArray 24) := ⟨_, rfl⟩
  have hbu : Grow y1 u1 := by subst hu; exact (Grow.refl _).alloc _
  have hB : Blk u1 y1.heap.size 24 (pgCells QA (.slice a1 QA.items.length c1)) := by subst hu; exact Blk.new y1 _ _
  have HB1 := keep hB
  have HI1 := keep (hix.fits hbu)
  have HS1 := keep (Grow.trans hb hbu)
  have HT1 := keep (Grow.trans HT0.out HS1.out)
  unfold pgCells at hu
  rw [← hu]
  clear hu hB hix hb hbu
  obtain ⟨p0, p1, p2, p3, p4, p5, _⟩ := pgres (HO6.out.fits HT1.out)
  obtain ⟨e0, e1, e2, _⟩ := enres (HE6.out.fits HT1.out)
  go_wp2_with fail
  refine (HRa.out u1 _ _ (HOn.out.fits HT1.out)).mono ?_
  rintro x y2 ⟨xv, rfl, hix, hb⟩
  clear p0 p1 p2 p3 p4 p5 e0 e1 e2 HRa
  obtain ⟨a2, c2, rfl⟩ := itemsS_form hix.1
  go_upto_region 8 with fail
  obtain ⟨u2, hu⟩ : ∃ u, u = y2.alloc (.cells (pgCells QB (.slice a2 QB.items.length c2)).toArray 24) := ⟨_, rfl⟩
  have hbu : Grow y2 u2 := by subst hu; exact (Grow.refl _).alloc _
  have hB : Blk u2 y2.heap.size 24 (pgCells QB (.slice a2 QB.items.length c2)) := by subst hu; exact Blk.new y2 _ _
  have HB2 := keep hB
  have HI2 := keep (hix.fits hbu)
  have HS2 := keep (Grow.trans hb hbu)
  have HT2 := keep (Grow.trans HT1.out HS2.out)
  unfold pgCells at hu
  rw [← hu]
  clear hu hB hix hb hbu
  obtain ⟨p0, p1, p2, p3, p4, p5, _⟩ := pgres (HP6.out.fits HT2.out)
  obtain ⟨e0, e1, e2, _⟩ := enres (HE6.out.fits HT2.out)
  go_wp2_with fail
  refine (HRb.out u2 _ _ (HPn.out.fits HT2.out) hcap2).mono ?_
  rintro x y3 ⟨xv, rfl, hix, hb⟩
  clear p0 p1 p2 p3 p4 p5 e0 e1 e2 HRb
  obtain ⟨a3, c3, rfl⟩ := itemsS_form hix.1
  go_upto_region 9 with fail
  obtain ⟨u3, hu⟩ : ∃ u, u = y3.alloc (.cells (pgCells QB (.slice a3 QB.items.length c3)).toArray 24) := ⟨_, rfl⟩
  have hbu : Grow y3 u3 := by subst hu; exact (Grow.refl _).alloc _
  have hB : Blk u3 y3.heap.size 24 (pgCells QB (.slice a3 QB.items.length c3)) := by subst hu; exact Blk.new y3 _ _
  have HB3 := keep hB
  have HI3 := keep (hix.fits hbu)
  have HS3 := keep (Grow.trans hb hbu)
  have HT3 := keep (Grow.trans HT2.out HS3.out)
  unfold pgCells at hu
  rw [← hu]
  clear hu hB hix hb hbu
  obtain ⟨p0, p1, p2, p3, p4, p5, _⟩ := pgres (HO6.out.fits HT3.out)
  obtain ⟨e0, e1, e2, _⟩ := enres (HE6.out.fits HT3.out)
  go_wp2_with fail
  refine (HPa.out u3 _ _ (HOn.out.fits HT3.out)).mono ?_
  rintro x y4 ⟨xv, rfl, hix, hb⟩
  clear p0 p1 p2 p3 p4 p5 e0 e1 e2 HPa
  obtain ⟨a4, c4, rfl⟩ := itemsS_form hix.1
  go_upto_region 10 with fail
  obtain ⟨u4, hu⟩ : ∃ u, u = y4.alloc (.cells (pgCells QC (.slice a4 QC.items.length c4)).toArray 24) := ⟨_, rfl⟩
  have hbu : Grow y4 u4 := by subst hu; exact (Grow.refl _).alloc _
  have hB : Blk u4 y4.heap.size 24 (pgCells QC (.slice a4 QC.items.length c4)) := by subst hu; exact Blk.new y4 _ _
  have HB4 := keep hB
  have HI4 := keep (hix.fits hbu)
  have HS4 := keep (Grow.trans hb hbu)
  have HT4 := keep (Grow.trans HT3.out HS4.out)
  unfold pgCells at hu
  rw [← hu]
  clear hu hB hix hb hbu
  obtain ⟨p0, p1, p2, p3, p4, p5, _⟩ := pgres (HP6.out.fits HT4.out)
  obtain ⟨e0, e1, e2, _⟩ := enres (HE6.out.fits HT4.out)
  go_wp2_with fail
  refine (HPb.out u4 _ _ (HPn.out.fits HT4.out) hcap2).mono ?_
  rintro x y5 ⟨xv, rfl, hix, hb⟩
  clear p0 p1 p2 p3 p4 p5 e0 e1 e2 HPb
  obtain ⟨a5, c5, rfl⟩ := itemsS_form hix.1
  go_upto_region 11 with fail
  obtain ⟨u5, hu⟩ : ∃ u, u = y5.alloc (.cells (pgCells QC (.slice a5 QC.items.length c5)).toArray 24) := ⟨_, rfl⟩
  have hbu : Grow y5 u5 := by subst hu; exact (Grow.refl _).alloc _
  have hB : Blk u5 y5.heap.size 24 (pgCells QC (.slice a5 QC.items.length c5)) := by subst hu; exact Blk.new y5 _ _
  have HB5 := keep hB
  have HI5 := keep (hix.fits hbu)
  have HS5 := keep (Grow.trans hb hbu)
  have HT5 := keep (Grow.trans HT4.out HS5.out)
  unfold pgCells at hu
  rw [← hu]
  clear hu hB hix hb hbu
  have HSm0 := keep (fun (u : World) (hu : Grow u5 u) => same_self QA (.slice a0 QA.items.length c0) (.slice a1 QA.items.length c1) u (ItemsS.weak (HI0.out.fits (Grow.trans (Grow.trans HS1.out (Grow.trans HS2.out (Grow.trans HS3.out (Grow.trans HS4.out (Grow.trans HS5.out (Grow.refl _)))))) hu)).1) (ItemsS.weak (HI1.out.fits (Grow.trans (Grow.trans HS2.out (Grow.trans HS3.out (Grow.trans HS4.out (Grow.trans HS5.out (Grow.refl _))))) hu)).1) (by have := HLen.out; omega))
  have HSm2 := keep (fun (u : World) (hu : Grow u5 u) => same_self QB (.slice a2 QB.items.length c2) (.slice a3 QB.items.length c3) u (ItemsS.weak (HI2.out.fits (Grow.trans (Grow.trans HS3.out (Grow.trans HS4.out (Grow.trans HS5.out (Grow.refl _)))) hu)).1) (ItemsS.weak (HI3.out.fits (Grow.trans (Grow.trans HS4.out (Grow.trans HS5.out (Grow.refl _))) hu)).1) (by have := HLen.out; omega))
  have HSm4 := keep (fun (u : World) (hu : Grow u5 u) => same_self QC (.slice a4 QC.items.length c4) (.slice a5 QC.items.length c5) u (ItemsS.weak (HI4.out.fits (Grow.trans (Grow.trans HS5.out (Grow.refl _)) hu)).1) (ItemsS.weak (HI5.out.fits (Grow.trans (Grow.refl _) hu)).1) (by have := HLen.out; omega))
  have hsm := HSm0.out u5 (Grow.refl u5)
  unfold pgV at hsm
  have HSm := keep hsm
  obtain ⟨p0, p1, p2, p3, p4, p5, _⟩ := pgres (HB0.out.fits (Grow.trans (Grow.trans HS1.out (Grow.trans HS2.out (Grow.trans HS3.out (Grow.trans HS4.out (Grow.trans HS5.out (Grow.refl _)))))) (Grow.refl u5)))
  obtain ⟨q0, q1, q2, q3, q4, q5, _⟩ := pgres (HB1.out.fits (Grow.trans (Grow.trans HS2.out (Grow.trans HS3.out (Grow.trans HS4.out (Grow.trans HS5.out (Grow.refl _))))) (Grow.refl u5)))
  clear hsm
  go_wp2_with fail
  refine HSm.out.mono ?_
  rintro x z0 ⟨rfl, hb⟩
  have hz := Grow.trans (Grow.refl u5) hb
  have HZ0 := keep hz
  clear p0 p1 p2 p3 p4 p5 q0 q1 q2 q3 q4 q5 HSm hz hb
  have hsm := HSm2.out z0 HZ0.out
  unfold pgV at hsm
  have HSm := keep hsm
  obtain ⟨p0, p1, p2, p3, p4, p5, _⟩ := pgres (HB2.out.fits (Grow.trans (Grow.trans HS3.out (Grow.trans HS4.out (Grow.trans HS5.out (Grow.refl _)))) HZ0.out))
  obtain ⟨q0, q1, q2, q3, q4, q5, _⟩ := pgres (HB3.out.fits (Grow.trans (Grow.trans HS4.out (Grow.trans HS5.out (Grow.refl _))) HZ0.out))
  clear hsm
  go_wp2_with fail
  refine HSm.out.mono ?_
  rintro x z1 ⟨rfl, hb⟩
  have hz := Grow.trans HZ0.out hb
  have HZ1 := keep hz
  clear p0 p1 p2 p3 p4 p5 q0 q1 q2 q3 q4 q5 HSm hz hb
  have hsm := HSm4.out z1 HZ1.out
  unfold pgV at hsm
  have HSm := keep hsm
  obtain ⟨p0, p1, p2, p3, p4, p5, _⟩ := pgres (HB4.out.fits (Grow.trans (Grow.trans HS5.out (Grow.refl _)) HZ1.out))
  obtain ⟨q0, q1, q2, q3, q4, q5, _⟩ := pgres (HB5.out.fits (Grow.trans (Grow.refl _) HZ1.out))
  clear hsm
  go_wp2_with fail
  refine HSm.out.mono ?_
  rintro x z2 ⟨rfl, hb⟩
  have hz := Grow.trans HZ1.out hb
  have HZ2 := keep hz
  clear p0 p1 p2 p3 p4 p5 q0 q1 q2 q3 q4 q5 HSm hz hb
  have HGz := keep (Grow.trans HT5.out HZ2.out)
  have hoc : P.items.length ≤ lc2 := by have := HRc.out; omega
  obtain ⟨p0, p1, p2, p3, p4, p5, _⟩ := pgres (HO6.out.fits HGz.out)
  go_wp2_with fail
  refine (HSa.out z2 _ _ (HOn.out.fits HGz.out) hoc).mono ?_
  rintro x v0 ⟨xa, xc, ya, yc, rfl, hix, hiy, hsx, hsy, hb⟩
  clear p0 p1 p2 p3 p4 p5 HSa hoc
  go_upto_region 14 with fail
  obtain ⟨v1, hu⟩ : ∃ u, u = ((v0.alloc (.cells (pgCells QX (.slice xa QX.items.length xc)).toArray 24)).alloc (.cells (pgCells QY (.slice ya QY.items.length yc)).toArray 24)).alloc (.cells #[.string (str xk), .int .i64 xp, .int .i64 xs] 26) := ⟨_, rfl⟩
  have hbu : Grow v0 v1 := by subst hu; exact (((Grow.refl _).alloc _).alloc _).alloc _
  have hA : Blk v1 v0.heap.size 24 (pgCells QX (.slice xa QX.items.length xc)) := by
    have := ((Blk.new v0 24 (pgCells QX (.slice xa QX.items.length xc))).alloc (.cells (pgCells QY (.slice ya QY.items.length yc)).toArray 24)).alloc (.cells #[.string (str xk), .int .i64 xp, .int .i64 xs] 26)
    subst hu; exact this
  have hB : Blk v1 (v0.heap.size + 1) 24 (pgCells QY (.slice ya QY.items.length yc)) := by
    have := (Blk.new (v0.alloc (.cells (pgCells QX (.slice xa QX.items.length xc)).toArray 24)) 24 (pgCells QY (.slice ya QY.items.length yc))).alloc (.cells #[.string (str xk), .int .i64 xp, .int .i64 xs] 26)
    have e : (v0.alloc (.cells (pgCells QX (.slice xa QX.items.length xc)).toArray 24)).heap.size = v0.heap.size + 1 := by simp
    rw [e] at this
    subst hu; exact this
  have hX : Blk v1 (v0.heap.size + 2) 26 [.string (str xk), .int .i64 xp, .int .i64 xs] := by
    have := Blk.new ((v0.alloc (.cells (pgCells QX (.slice xa QX.items.length xc)).toArray 24)).alloc (.cells (pgCells QY (.slice ya QY.items.length yc)).toArray 24)) 26 [.string (str xk), .int .i64 xp, .int .i64 xs]
    have e : ((v0.alloc (.cells (pgCells QX (.slice xa QX.items.length xc)).toArray 24)).alloc (.cells (pgCells QY (.slice ya QY.items.length yc)).toArray 24)).heap.size = v0.heap.size + 2 := by simp
    rw [e] at this
    subst hu; exact this
  have HVA := keep hA
  have HVB := keep hB
  have HVX := keep hX
  have HVIA := keep (Row.fits hix hbu : Items v1 (.slice xa QX.items.length xc) QX.items)
  have HVIB := keep (Row.fits hiy hbu : Items v1 (.slice ya QY.items.length yc) QY.items)
  have HVSA := keep (hsx.fits hbu)
  have HVSB := keep (hsy.fits hbu)
  have HVG := keep (Grow.trans hb hbu)
  unfold pgCells at hu
  rw [← hu]
  clear hu hA hB hX hix hiy hsx hsy hb hbu
  obtain ⟨p0, p1, p2, p3, p4, p5, _⟩ := pgres (HP6.out.fits (Grow.trans HGz.out HVG.out))
  go_wp2_with fail
  refine (HSb.out v1 _ _ (HPn.out.fits (Grow.trans HGz.out HVG.out)) hcap2).mono ?_
  rintro x v2 ⟨ra, rc, sa, sc, rfl, hix, hiy, hsx, hsy, hb⟩
  clear p0 p1 p2 p3 p4 p5 HSb
  go_upto_region 15 with fail
  obtain ⟨v3, hu⟩ : ∃ u, u = ((v2.alloc (.cells (pgCells QX (.slice ra QX.items.length rc)).toArray 24)).alloc (.cells (pgCells QY (.slice sa QY.items.length sc)).toArray 24)).alloc (.cells #[.string (str xk), .int .i64 xp, .int .i64 xs] 26) := ⟨_, rfl⟩
  have hbu : Grow v2 v3 := by subst hu; exact (((Grow.refl _).alloc _).alloc _).alloc _
  have hA : Blk v3 v2.heap.size 24 (pgCells QX (.slice ra QX.items.length rc)) := by
    have := ((Blk.new v2 24 (pgCells QX (.slice ra QX.items.length rc))).alloc (.cells (pgCells QY (.slice sa QY.items.length sc)).toArray 24)).alloc (.cells #[.string (str xk), .int .i64 xp, .int .i64 xs] 26)
    subst hu; exact this
  have hB : Blk v3 (v2.heap.size + 1) 24 (pgCells QY (.slice sa QY.items.length sc)) := by
    have := (Blk.new (v2.alloc (.cells (pgCells QX (.slice ra QX.items.length rc)).toArray 24)) 24 (pgCells QY (.slice sa QY.items.length sc))).alloc (.cells #[.string (str xk), .int .i64 xp, .int .i64 xs] 26)
    have e : (v2.alloc (.cells (pgCells QX (.slice ra QX.items.length rc)).toArray 24)).heap.size = v2.heap.size + 1 := by simp
    rw [e] at this
    subst hu; exact this
  have hX : Blk v3 (v2.heap.size + 2) 26 [.string (str xk), .int .i64 xp, .int .i64 xs] := by
    have := Blk.new ((v2.alloc (.cells (pgCells QX (.slice ra QX.items.length rc)).toArray 24)).alloc (.cells (pgCells QY (.slice sa QY.items.length sc)).toArray 24)) 26 [.string (str xk), .int .i64 xp, .int .i64 xs]
    have e : ((v2.alloc (.cells (pgCells QX (.slice ra QX.items.length rc)).toArray 24)).alloc (.cells (pgCells QY (.slice sa QY.items.length sc)).toArray 24)).heap.size = v2.heap.size + 2 := by simp
    rw [e] at this
    subst hu; exact this
  have HRA := keep hA
  have HRB := keep hB
  have HRX := keep hX
  have HRIA := keep (Row.fits hix hbu : Items v3 (.slice ra QX.items.length rc) QX.items)
  have HRIB := keep (Row.fits hiy hbu : Items v3 (.slice sa QY.items.length sc) QY.items)
  have HRSA := keep (hsx.fits hbu)
  have HRSB := keep (hsy.fits hbu)
  have HRG := keep (Grow.trans hb hbu)
  unfold pgCells at hu
  rw [← hu]
  clear hu hA hB hX hix hiy hsx hsy hb hbu
  have HSmX := keep (fun (u : World) (hu : Grow v3 u) => same_self QX (.slice xa QX.items.length xc) (.slice ra QX.items.length rc) u (Row.fits HVIA.out (Grow.trans HRG.out hu)) (Row.fits HRIA.out hu) (by have := HLen.out; omega))
  have HSmY := keep (fun (u : World) (hu : Grow v3 u) => same_self QY (.slice ya QY.items.length yc) (.slice sa QY.items.length sc) u (Row.fits HVIB.out (Grow.trans HRG.out hu)) (Row.fits HRIB.out hu) (by have := HLen.out; omega))
  have hsm := HSmX.out v3 (Grow.refl _)
  unfold pgV at hsm
  have HSm := keep hsm
  obtain ⟨x0, x1, x2, _⟩ := enres (HVX.out.fits HRG.out)
  obtain ⟨t0, t1, t2, _⟩ := enres HRX.out
  obtain ⟨p0, p1, p2, p3, p4, p5, _⟩ := pgres (HVA.out.fits HRG.out)
  obtain ⟨q0, q1, q2, q3, q4, q5, _⟩ := pgres HRA.out
  clear hsm
  go_wp2_with fail
  refine HSm.out.mono ?_
  rintro x v4 ⟨rfl, hb⟩
  have HG4 := keep hb
  clear p0 p1 p2 p3 p4 p5 q0 q1 q2 q3 q4 q5 x0 x1 x2 t0 t1 t2 HSm hb
  have hsm := HSmY.out v4 HG4.out
  unfold pgV at hsm
  have HSm := keep hsm
  obtain ⟨p0, p1, p2, p3, p4, p5, _⟩ := pgres (HVB.out.fits (Grow.trans HRG.out HG4.out))
  obtain ⟨q0, q1, q2, q3, q4, q5, _⟩ := pgres (HRB.out.fits HG4.out)
  clear hsm
  go_wp2_with fail
  refine HSm.out.mono ?_
  rintro x v5 ⟨rfl, hb⟩
  have HG5 := keep hb
  clear p0 p1 p2 p3 p4 p5 q0 q1 q2 q3 q4 q5 HSm hb
  have HN := keep (show QX.items.length ≤ 8796093022000 ∧ QY.items.length ≤ 8796093022000 by have := HLen.out; omega)
  have hz := (HO6.out.fits HGz.out).lt
  have hzp := (HP6.out.fits HGz.out).lt
  have HM2 := keep (show z2.cell? ⟨g, P.items.length, none⟩ = some (.string (str [109, 97, 114, 107])) from (Below.cell HGz.out (World.block_lt_of_cell? _ _ HM6.out)).trans HM6.out)
  have hl := (show Lp z2 v0.heap.size QX QY xa ya xc yc v5 from ⟨HVA.out.fits (Grow.trans HRG.out (Grow.trans HG4.out HG5.out)), HVB.out.fits (Grow.trans HRG.out (Grow.trans HG4.out HG5.out)), HVSA.out.fits (Grow.trans HRG.out (Grow.trans HG4.out HG5.out)), HVSB.out.fits (Grow.trans HRG.out (Grow.trans HG4.out HG5.out)), Grow.trans HVG.out (Grow.trans HRG.out (Grow.trans HG4.out HG5.out))⟩)
  have HL := keep hl
  clear hl HVA HVB HVX HVIA HVIB HVSA HVSB HRA HRB HRX HRIA HRIB HRSA HRSB HSmX HSmY HB0 HB1 HB2 HB3 HB4 HB5 HI0 HI1 HI2 HI3 HI4 HI5 HSm0 HSm2 HSm4 HVG HRG HG4 HG5 HLen
  go_wp2_with fail
  go_loopw [28] (fun i wr => ∃ n : Nat, n ≤ QX.items.length ∧ i = .int .i64 n ∧ Kept (Lp z2 v0.heap.size QX QY xa ya xc yc wr)) (fun i _ => QX.items.length - (intOf i).toNat)
  case atStart => exact ⟨0, Nat.zero_le _, rfl, HL⟩
  case round =>
    obtain ⟨n, hn, rfl, HL⟩ := hrel
    have hnb := HN.out.1
    obtain ⟨p0, p1, p2, p3, p4, p5, _⟩ := pgres HL.out.1
    by_cases hlt : n < QX.items.length
    · obtain ⟨gx, xx, hxa, hgN, hc, hf, hne⟩ := HL.out.2.2.1.spot hlt
      have hni : (n : Int) < (QX.items.length : Int) := by omega
      have HL2 := keep (HL.out.set gx n [110, 111] hgN (hne _ _ _ HL.out.1 (by decide)) (hne _ _ _ HL.out.2.1 (by decide)))
      clear hne hgN
      subst hxa
      go_wp2_with fail
      go_roundw
      case rel => exact ⟨n + 1, by omega, by go_num, HL2⟩
      case measure => simp [intOf]; omega
    · have hni : ¬ (n : Int) < (QX.items.length : Int) := by omega
      go_wp2_with fail
      generalize wr = wf at *
      clear p0 p1 p2 p3 p4 p5 hni
      go_loopw [29] (fun i wr => ∃ n : Nat, n ≤ QY.items.length ∧ i = .int .i64 n ∧ Kept (Lp z2 v0.heap.size QX QY xa ya xc yc wr)) (fun i _ => QY.items.length - (intOf i).toNat)
      case atStart => exact ⟨0, Nat.zero_le _, rfl, HL⟩
      case round =>
        clear HL
        obtain ⟨m, hm, rfl, HL⟩ := hrel
        have hmb := HN.out.2
        obtain ⟨p0, p1, p2, p3, p4, p5, _⟩ := pgres HL.out.2.1
        by_cases hlm : m < QY.items.length
        · obtain ⟨gx, xx, hxa, hgN, hc, hf, hne⟩ := HL.out.2.2.2.1.spot hlm
          have hni : (m : Int) < (QY.items.length : Int) := by omega
          have HL2 := keep (HL.out.set gx m [110, 111] hgN (hne _ _ _ HL.out.1 (by decide)) (hne _ _ _ HL.out.2.1 (by decide)))
          clear hne hgN
          subst hxa
          go_wp2_with fail
          go_roundw
          case rel => exact ⟨m + 1, by omega, by go_num, HL2⟩
          case measure => simp [intOf]; omega
        · have hni : ¬ (m : Int) < (QY.items.length : Int) := by omega
          go_upto_region 25 with fail
          generalize wr = wE at *
          clear p0 p1 p2 p3 p4 p5 hni
          have HX9 := keep (fun (u : World) (hu : Grow wE.drew u) => (Below.trans HGz.out (Below.mono (Below.trans HL.out.2.2.2.2 (Below.mono (Grow.undrew hu) HL.out.2.2.2.2.size)) HGz.out.size) : Below w6.heap.size w6 u))
          have HO9 := keep (fun (u : World) (hu : Grow wE.drew u) => pgres (HO6.out.fits (HX9.out u hu)))
          have HP9 := keep (fun (u : World) (hu : Grow wE.drew u) => pgres (HP6.out.fits (HX9.out u hu)))
          have HM9 := keep (fun (u : World) (hu : Grow wE.drew u) => (show u.cell? ⟨g, P.items.length, none⟩ = some (.string { data := #[109, 97, 114, 107] }) from (Below.cell (HX9.out u hu) (World.block_lt_of_cell? _ _ HM6.out)).trans HM6.out))
          have hs9 := fun (u : World) (hu : Grow wE.drew u) => same_self P (.slice (some ⟨g, 0, none⟩) P.items.length lc2) (.slice ia P.items.length ic) u (HOn.out.fits (HX9.out u hu)).1 (HPn.out.fits (HX9.out u hu)).1 (by omega)
          unfold pgV at hs9
          have HS9 := keep hs9
          clear hs9
          have hr9 : (P.items.length : Int) + 1 ≤ (lc2 : Int) := by have := HRc.out; omega
          have hr8 : P.items.length + 1 ≤ lc2 := HRc.out
          have hn9 : (0 : Int) ≤ (P.items.length : Int) + 1 := by omega
          have hi9 : (P.items.length : Int) < (P.items.length : Int) + 1 := by omega
          have ht9 : ((P.items.length : Int) + 1).toNat = P.items.length + 1 := by omega
          have hw8 : IntKind.i64.wrap ((P.items.length : Int) + 1) = (P.items.length : Int) + 1 := wrap_more _ hlen
          refine wp_region_grow_named (by kernel_rfl) 21 (by kernel_rfl) [(175, 0), (176, 1), (177, 2), (178, 3), (179, 4), (180, 5), (181, 6), (182, 7), (183, 8), (184, 9), (185, 10), (186, 11), (187, 12), (188, 13), (189, 14), (190, 15), (191, 16), (192, 17), (193, 18), (194, 19), (195, 20)] (by kernel_rfl) [(0, true), (1, true), (2, true), (3, true), (4, true), (5, true), (6, true), (7, true), (8, true), (9, true), (10, true), (11, true), (12, true), (13, true), (14, true), (15, true), (16, true), (17, true), (18, true), (19, true), (20, true)] (by kernel_rfl) rfl rfl ?_
          intro a0 ha0
          have hsz : a0.tmps.size = 196 := (size_at ha0).trans rfl
          have s3 := slot_at ha0 3 rfl
          have s7 := slot_at ha0 7 rfl
          have HA0 := keep ha0
          clear ha0
          -- operation 0
          apply lexf_eq hsz [] [(176, 1), (178, 3), (179, 4), (180, 5), (181, 6), (182, 7), (183, 8), (184, 9), (185, 10), (186, 11), (187, 12), (188, 13), (189, 14), (190, 15), (191, 16), (192, 17), (193, 18), (194, 19), (195, 20)] none (by kernel_rfl) (by kernel_rfl) (by kernel_rfl) (by kernel_rfl) rfl
          · intro xs w hw hp K hK
            obtain ⟨p0, p1, p2, p3, p4, p5, _⟩ := HO9.out w hw
            go_simp
            exact hK _ (Grow.refl _)
          -- operation 1
          apply lexf_eq hsz [] [(175, 0), (178, 3), (179, 4), (180, 5), (181, 6), (182, 7), (183, 8), (184, 9), (185, 10), (186, 11), (187, 12), (188, 13), (189, 14), (190, 15), (191, 16), (192, 17), (193, 18), (194, 19), (195, 20)] none (by kernel_rfl) (by kernel_rfl) (by kernel_rfl) (by kernel_rfl) rfl
          · intro xs w hw hp K hK
            obtain ⟨p0, p1, p2, p3, p4, p5, _⟩ := HP9.out w hw
            go_simp
            exact hK _ (Grow.refl _)
          -- operation 2
          apply lexf_eq hsz [(0, true), (1, true)] [(175, 0), (176, 1), (179, 4), (180, 5), (181, 6), (182, 7), (183, 8), (184, 9), (185, 10), (186, 11), (187, 12), (188, 13), (189, 14), (190, 15), (191, 16), (192, 17), (193, 18), (194, 19), (195, 20)] none (by kernel_rfl) (by kernel_rfl) (by kernel_rfl) (by kernel_rfl) rfl
          · intro xs w hw hp K hK
            simp only [holdsL, List.nil_append, List.cons_append, List.getD_cons_succ, List.getD_cons_zero, if_true, and_true] at hp
            go_simp
            exact (HS9.out w hw).mono fun e w' h => ⟨_, h.1, hK _ h.2⟩
          -- operation 3
          apply lexf_eq hsz [(2, true)] [(175, 0), (176, 1), (177, 2), (194, 19), (195, 20)] none (by kernel_rfl) (by kernel_rfl) (by kernel_rfl) (by kernel_rfl) rfl
          · intro xs w hw hp K hK
            simp only [holdsL, List.nil_append, List.cons_append, List.getD_cons_succ, List.getD_cons_zero, if_true, and_true] at hp
            go_simp
            exact hK _ (Grow.refl _)
          -- operation 4
          apply lexf_eq hsz [(3, true)] [(175, 0), (176, 1), (177, 2), (178, 3), (181, 6), (182, 7), (183, 8), (184, 9), (185, 10), (186, 11), (187, 12), (188, 13), (189, 14), (190, 15), (191, 16), (192, 17), (193, 18), (194, 19), (195, 20)] (some (178, true)) (by kernel_rfl) (by kernel_rfl) (by kernel_rfl) (by kernel_rfl) rfl
          · intro xs w hw hp K hK
            simp only [holdsL, List.nil_append, List.cons_append, List.getD_cons_succ, List.getD_cons_zero, if_true, and_true] at hp
            go_simp
            exact hK _ (Grow.refl _)
          -- operation 5
          apply lexf_eq hsz [(3, true), (4, true)] [(175, 0), (176, 1), (177, 2), (178, 3), (179, 4), (181, 6), (182, 7), (183, 8), (184, 9), (186, 11), (187, 12), (188, 13), (189, 14), (190, 15), (191, 16), (192, 17), (193, 18), (194, 19), (195, 20)] (some (178, true)) (by kernel_rfl) (by kernel_rfl) (by kernel_rfl) (by kernel_rfl) rfl
          · intro xs w hw hp K hK
            simp only [holdsL, List.nil_append, List.cons_append, List.getD_cons_succ, List.getD_cons_zero, if_true, and_true] at hp
            obtain ⟨p0, p1, p2, p3, p4, p5, _⟩ := HO9.out w hw
            go_simp
            exact hK _ (Grow.refl _)
          -- operation 6
          apply lexf_eq hsz [(3, true)] [(175, 0), (176, 1), (177, 2), (178, 3), (179, 4), (180, 5), (183, 8), (184, 9), (185, 10), (186, 11), (187, 12), (188, 13), (189, 14), (190, 15), (191, 16), (192, 17), (193, 18), (194, 19), (195, 20)] (some (178, true)) (by kernel_rfl) (by kernel_rfl) (by kernel_rfl) (by kernel_rfl) rfl
          · intro xs w hw hp K hK
            simp only [holdsL, List.nil_append, List.cons_append, List.getD_cons_succ, List.getD_cons_zero, if_true, and_true] at hp
            go_simp
            exact hK _ (Grow.refl _)
          -- operation 7
          apply lexf_eq hsz [(3, true), (6, true)] [(175, 0), (176, 1), (177, 2), (178, 3), (179, 4), (180, 5), (181, 6), (184, 9), (185, 10), (186, 11), (187, 12), (188, 13), (189, 14), (190, 15), (191, 16), (192, 17), (193, 18), (194, 19), (195, 20)] (some (178, true)) (by kernel_rfl) (by kernel_rfl) (by kernel_rfl) (by kernel_rfl) rfl
          · intro xs w hw hp K hK
            simp only [holdsL, List.nil_append, List.cons_append, List.getD_cons_succ, List.getD_cons_zero, if_true, and_true] at hp
            obtain ⟨p0, p1, p2, p3, p4, p5, _⟩ := HP9.out w hw
            go_simp
            exact hK _ (Grow.refl _)
          -- operation 8
          apply lexf_eq hsz [(3, true), (7, true)] [(175, 0), (176, 1), (177, 2), (178, 3), (179, 4), (180, 5), (181, 6), (182, 7), (185, 10), (186, 11), (187, 12), (188, 13), (189, 14), (190, 15), (191, 16), (192, 17), (193, 18), (194, 19), (195, 20)] (some (178, true)) (by kernel_rfl) (by kernel_rfl) (by kernel_rfl) (by kernel_rfl) rfl
          · intro xs w hw hp K hK
            simp only [holdsL, List.nil_append, List.cons_append, List.getD_cons_succ, List.getD_cons_zero, if_true, and_true] at hp
            go_simp
            exact hK _ (Grow.refl _)
          -- operation 9
          apply lexf_eq hsz [(3, true), (8, true)] [(175, 0), (176, 1), (177, 2), (178, 3), (179, 4), (180, 5), (181, 6), (182, 7), (183, 8), (186, 11), (187, 12), (188, 13), (189, 14), (190, 15), (191, 16), (192, 17), (193, 18), (194, 19), (195, 20)] (some (178, true)) (by kernel_rfl) (by kernel_rfl) (by kernel_rfl) (by kernel_rfl) rfl
          · intro xs w hw hp K hK
            simp only [holdsL, List.nil_append, List.cons_append, List.getD_cons_succ, List.getD_cons_zero, if_true, and_true] at hp
            go_simp
            exact hK _ (Grow.refl _)
          -- operation 10
          apply lexf_eq hsz [(3, true), (5, true), (9, true)] [(175, 0), (176, 1), (177, 2), (178, 3), (179, 4), (180, 5), (181, 6), (182, 7), (183, 8), (184, 9), (186, 11), (187, 12), (188, 13), (190, 15), (191, 16), (192, 17), (193, 18), (194, 19), (195, 20)] (some (178, true)) (by kernel_rfl) (by kernel_rfl) (by kernel_rfl) (by kernel_rfl) rfl
          · intro xs w hw hp K hK
            simp only [holdsL, List.nil_append, List.cons_append, List.getD_cons_succ, List.getD_cons_zero, if_true, and_true] at hp
            go_simp
            exact hK _ (Grow.refl _)
          -- operation 11
          apply lexf_eq hsz [(3, true)] [(175, 0), (176, 1), (177, 2), (178, 3), (179, 4), (180, 5), (181, 6), (182, 7), (183, 8), (184, 9), (185, 10), (188, 13), (189, 14), (190, 15), (191, 16), (192, 17), (193, 18), (194, 19), (195, 20)] (some (178, true)) (by kernel_rfl) (by kernel_rfl) (by kernel_rfl) (by kernel_rfl) rfl
          · intro xs w hw hp K hK
            simp only [holdsL, List.nil_append, List.cons_append, List.getD_cons_succ, List.getD_cons_zero, if_true, and_true] at hp
            go_simp
            exact hK _ (Grow.refl _)
          -- operation 12
          apply lexf_eq hsz [(3, true), (11, true)] [(175, 0), (176, 1), (177, 2), (178, 3), (179, 4), (180, 5), (181, 6), (182, 7), (183, 8), (184, 9), (185, 10), (186, 11), (189, 14), (190, 15), (191, 16), (192, 17), (193, 18), (194, 19), (195, 20)] (some (178, true)) (by kernel_rfl) (by kernel_rfl) (by kernel_rfl) (by kernel_rfl) rfl
          · intro xs w hw hp K hK
            simp only [holdsL, List.nil_append, List.cons_append, List.getD_cons_succ, List.getD_cons_zero, if_true, and_true] at hp
            obtain ⟨p0, p1, p2, p3, p4, p5, _⟩ := HP9.out w hw
            go_simp
            exact hK _ (Grow.refl _)
          -- operation 13
          apply lexf_eq hsz [(3, true), (12, true)] [(175, 0), (176, 1), (177, 2), (178, 3), (179, 4), (180, 5), (181, 6), (182, 7), (183, 8), (184, 9), (185, 10), (186, 11), (187, 12), (190, 15), (191, 16), (192, 17), (193, 18), (194, 19), (195, 20)] (some (178, true)) (by kernel_rfl) (by kernel_rfl) (by kernel_rfl) (by kernel_rfl) rfl
          · intro xs w hw hp K hK
            simp only [holdsL, List.nil_append, List.cons_append, List.getD_cons_succ, List.getD_cons_zero, if_true, and_true] at hp
            go_simp
            exact hK _ (Grow.refl _)
          -- operation 14
          apply lexf_eq hsz [(3, true), (10, true), (13, true)] [(175, 0), (176, 1), (177, 2), (178, 3), (179, 4), (180, 5), (181, 6), (182, 7), (183, 8), (184, 9), (185, 10), (186, 11), (187, 12), (188, 13), (191, 16), (192, 17), (193, 18), (194, 19), (195, 20)] (some (178, true)) (by kernel_rfl) (by kernel_rfl) (by kernel_rfl) (by kernel_rfl) rfl
          · intro xs w hw hp K hK
            simp only [holdsL, List.nil_append, List.cons_append, List.getD_cons_succ, List.getD_cons_zero, if_true, and_true] at hp
            go_simp
            exact hK _ (Grow.refl _)
          -- operation 15
          apply lexf_eq hsz [(3, true), (14, true)] [(175, 0), (176, 1), (177, 2), (178, 3), (179, 4), (180, 5), (181, 6), (182, 7), (183, 8), (184, 9), (185, 10), (186, 11), (187, 12), (188, 13), (189, 14), (192, 17), (193, 18), (194, 19), (195, 20)] (some (178, true)) (by kernel_rfl) (by kernel_rfl) (by kernel_rfl) (by kernel_rfl) rfl
          · intro xs w hw hp K hK
            simp only [holdsL, List.nil_append, List.cons_append, List.getD_cons_succ, List.getD_cons_zero, if_true, and_true] at hp
            have c0 := HM9.out w hw
            go_simp
            exact hK _ (Grow.refl _)
          -- operation 16
          apply lexf_eq hsz [(3, true), (15, true)] [(175, 0), (176, 1), (177, 2), (178, 3), (179, 4), (180, 5), (181, 6), (182, 7), (183, 8), (184, 9), (185, 10), (186, 11), (187, 12), (188, 13), (189, 14), (190, 15), (193, 18), (194, 19), (195, 20)] (some (178, true)) (by kernel_rfl) (by kernel_rfl) (by kernel_rfl) (by kernel_rfl) rfl
          · intro xs w hw hp K hK
            simp only [holdsL, List.nil_append, List.cons_append, List.getD_cons_succ, List.getD_cons_zero, if_true, and_true] at hp
            go_simp
            exact hK _ (Grow.refl _)
          -- operation 17
          apply lexf_eq hsz [(3, true), (16, true)] [(175, 0), (176, 1), (177, 2), (178, 3), (179, 4), (180, 5), (181, 6), (182, 7), (183, 8), (184, 9), (185, 10), (186, 11), (187, 12), (188, 13), (189, 14), (190, 15), (191, 16), (194, 19), (195, 20)] none (by kernel_rfl) (by kernel_rfl) (by kernel_rfl) (by kernel_rfl) rfl
          · intro xs w hw hp K hK
            simp only [holdsL, List.nil_append, List.cons_append, List.getD_cons_succ, List.getD_cons_zero, if_true, and_true] at hp
            go_simp
            exact hK _ (Grow.refl _)
          -- operation 18
          apply lexf_eq hsz [(17, true)] [(175, 0), (176, 1), (177, 2), (178, 3), (179, 4), (180, 5), (181, 6), (182, 7), (183, 8), (184, 9), (185, 10), (186, 11), (187, 12), (188, 13), (189, 14), (190, 15), (191, 16), (192, 17)] none (by kernel_rfl) (by kernel_rfl) (by kernel_rfl) (by kernel_rfl) rfl
          · intro xs w hw hp K hK
            simp only [holdsL, List.nil_append, List.cons_append, List.getD_cons_succ, List.getD_cons_zero, if_true, and_true] at hp
            go_simp
            exact hK _ (Grow.refl _)
          -- operation 19
          apply lexf_eq hsz [(18, true)] [(175, 0), (176, 1), (177, 2), (178, 3), (179, 4), (180, 5), (181, 6), (182, 7), (183, 8), (184, 9), (185, 10), (186, 11), (187, 12), (188, 13), (189, 14), (190, 15), (191, 16), (192, 17), (193, 18)] (some (193, true)) (by kernel_rfl) (by kernel_rfl) (by kernel_rfl) (by kernel_rfl) rfl
          · intro xs w hw hp K hK
            simp only [holdsL, List.nil_append, List.cons_append, List.getD_cons_succ, List.getD_cons_zero, if_true, and_true] at hp
            go_simp
            exact (awake_any w).mono fun e w' h => ⟨_, h.1, hK _ h.2⟩
          -- operation 20
          apply lexf_eq hsz [(18, true), (19, true)] [(175, 0), (176, 1), (177, 2), (178, 3), (179, 4), (180, 5), (181, 6), (182, 7), (183, 8), (184, 9), (185, 10), (186, 11), (187, 12), (188, 13), (189, 14), (190, 15), (191, 16), (192, 17), (193, 18), (194, 19)] none (by kernel_rfl) (by kernel_rfl) (by kernel_rfl) (by kernel_rfl) rfl
          · intro xs w hw hp K hK
            simp only [holdsL, List.nil_append, List.cons_append, List.getD_cons_succ, List.getD_cons_zero, if_true, and_true] at hp
            go_simp
            exact hK _ (Grow.refl _)
          intro xs w hw hp
          have ha0 := HA0.out
          clear HA0 hsz s3 s7
          simp only [holdsL, List.nil_append, List.cons_append, List.getD_cons_succ, List.getD_cons_zero, if_true, and_true] at hp
          have h20 := hp.2.2.2.2.2.2.2.2.2.2.2.2.2.2.2.2.2.2.2.2
          clear hp
          subst ha0
          simp only [putAll, h20]
          have hx := HX9.out w hw
          have hfin := Below.trans HG6.out (Below.mono hx HG6.out.size)
          clear hw HX9 HO9 HP9 HM9 HS9 hw8 hr9 hr8 hn9 hi9 ht9
          go_wp2_with fail
          go_ret
          exact ⟨rfl, hfin⟩

end Go.Proofs.YtigbgodbalpgdaaGreat
