import Derived.Test.YtmhepfehcakmjaaGreatKCg2
import Derived.Test.YtmhepfehcakmjaaGreatKRu4
import Derived.Test.YtmhepfehcakmjaaGreatKSp2
import Derived.Test.YtmhepfehcakmjaaGreatKLexm
import Derived.Test.YtmhepfehcakmjaaGreatKOwn2
namespace Go.Proofs.YtmhepfehcakmjaaGreat
open Go.RowKit
theorem own_blk {N n c : Nat} {a : Option Addr} {w : World} {l : List (List UInt8)} (h : OwnS N w (.slice a n c) l) (hl : 0 < l.length) :
  ∃ g cur, a = some ⟨g, 0, none⟩ ∧ N ≤ g ∧ n = l.length ∧ Blk w g 9 cur ∧ cur.length = c ∧ n ≤ c ∧ c ≤ maxLen ∧ cur.take n = sCells l := by
 rcases h.2 with ⟨h1, h2⟩ | ⟨g, cap, cur, h1, h2, h3, h4, h5, h6, h7⟩
 ·omega
 ·simp only [Value.slice.injEq] at h1
  obtain ⟨rfl, rfl, rfl⟩ := h1
  refine ⟨g, cur.toList, rfl, h2, rfl, ?_, by simpa using h6, h4, h5, by simpa using h7⟩
  unfold Blk
  simpa using h3
theorem own_some {N n c : Nat} {a : Option Addr} {w : World} {l : List (List UInt8)} (h : OwnS N w (.slice a n c) l) (hl : 0 < l.length) :
  ∃ g, a = some ⟨g, 0, none⟩ ∧ N ≤ g ∧ (∀ j (hj : j < l.length), w.cell? ⟨g, j, none⟩ = some (.string (str l[j])) ∧ w.frozen? ⟨g, j, none⟩ = false) := by
 obtain ⟨g, cur, rfl, h2, rfl, h3, h4, h5, _, h6⟩ := own_blk h hl
 refine ⟨g, rfl, h2, fun j hj => ⟨?_, h3.free j⟩⟩
 have hjc : j < cur.length := by omega
 rw [h3.cell j hjc]
 have h7 : (cur.take l.length)[j]? = (sCells l)[j]? := by rw [h6]
 rw [List.getElem?_take_of_lt hj, List.getElem?_eq_getElem hjc] at h7
 rw [h7]
 simp [sCells, hj]
theorem own_set {N g n c : Nat} {w : World} {l : List (List UInt8)} (h : OwnS N w (.slice (some ⟨g, 0, none⟩) n c) l) {i : Nat} (hi : i < l.length) (y : List UInt8) :
  OwnS N (w.setCell ⟨g, i, none⟩ (.string (str y))) (.slice (some ⟨g, 0, none⟩) n c) (l.set i y) := by
 obtain ⟨g', cur, hg, h2, rfl, h3, h4, h5, h6, h7⟩ := own_blk h (by omega)
 simp only [Option.some.injEq, Addr.mk.injEq, and_true] at hg
 subst hg
 unfold OwnS
 rw [List.length_set]
 refine owns_of h2 (h3.set i (.string (str y))) (by omega) h6 (by rw [List.length_set]; exact h4) ?_
 rw [List.take_set, h7]
 simp [sCells, List.map_set]
theorem own_ne {N g n c b t : Nat} {w : World} {l : List (List UInt8)} {cs : List Value} (h : OwnS N w (.slice (some ⟨g, 0, none⟩) n c) l) (hb : Blk w b t cs) (ht : t ≠ 9) : b ≠ g := fun e => h.ne hb ht (by rw [e]; rfl)
end Go.Proofs.YtmhepfehcakmjaaGreat
namespace Go.Proofs.YtmhepfehcakmjaaGreat
open Go.RowKit
attribute [local go_sem] givesV lookV knAt givesF_none givesF_some evalF_tmp evalF_const evalF_global evalF_func lookL isB_bool isB_undef givesUpon_value givesUpon_skip givesUpon_enter
def withN (P : Pg) (i : Int) (x : List UInt8) : Pg × Int := if 0 ≤ i ∧ i < P.items.length then turnedN P (P.items.set i.toNat x) else (zeroP, 1)
set_option maxRecDepth 100000 in
set_option maxHeartbeats 4000000 in
theorem with_any (P : Pg) (iv : Value) (i : Int) (x : List UInt8) (w_ : World) (hin : PgIn w_ iv P) (hx : (x.length : Int) ≤ 140737488355328) (hl : P.items.length ≤ 8796093021980) :
  Calls Tryz.prog 76 #[pgV P iv, .int .i64 i, .string (str x)] w_ (PgPost (withN P i x).1 (withN P i x).2 w_) := by
 obtain ⟨w0, hw0⟩ : ∃ w0, w0 = (w_.alloc (.cells (pgCells P iv).toArray 24)).alloc (.cells #[.int .i64 0, .int .i64 0, .int .i64 0, .int .i64 0, .string ⟨#[]⟩, .slice none 0 0] 24) := ⟨_, rfl⟩
 have hg0 : Grow w_ w0 := by subst hw0; exact ((Grow.refl w_).alloc _).alloc _
 have hP0 : Blk w0 w_.heap.size 24 (pgCells P iv) := by subst hw0; exact (Blk.new w_ _ _).alloc _
 have hR0 : Blk w0 (w_.heap.size + 1) 24 [.int .i64 0, .int .i64 0, .int .i64 0, .int .i64 0, .string ⟨#[]⟩, .slice none 0 0] := by
  have := Blk.new (w_.alloc (.cells (pgCells P iv).toArray 24)) 24 [.int .i64 0, .int .i64 0, .int .i64 0, .int .i64 0, .string ⟨#[]⟩, .slice none 0 0]
  have e : (w_.alloc (.cells (pgCells P iv).toArray 24)).heap.size = w_.heap.size + 1 := by simp
  rw [e] at this
  subst hw0; exact this
 have hcl := clone_any iv P.items w0 (Row.fits hin.1 hg0) (by omega)
 obtain ⟨ia, ic, rfl⟩ := items_form hin.1
 obtain ⟨R, hR⟩ : ∃ R, withN P i x = R := ⟨_, rfl⟩
 rw [hR]
 have HIn := keep hin
 have HX := keep hx
 have HR := keep hR
 have HG0 := keep hg0
 have HR0 := keep hR0
 have HP0 := keep hP0
 have HCl := keep hcl
 clear hin hx hR hg0 hcl
 unfold pgCells at hw0 hP0
 obtain ⟨p0, p1, p2, p3, p4, p5, _⟩ := pgres hP0
 obtain ⟨r0, r1, r2, r3, r4, r5, z0, z1, z2, z3, z4, z5⟩ := pgres hR0
 clear hP0 hR0
 unfold pgV
 go_enter Tryz.func76, Tryz.ntmps76
 go_upto_region 1 with fail
 rw [← hw0]
 clear hw0
 by_cases h2 : 0 ≤ i ∧ i < P.items.length
 ·obtain ⟨h3, h4⟩ := h2
  obtain ⟨k, rfl⟩ := Int.eq_ofNat_of_zero_le h3
  have hk : k < P.items.length := by omega
  have e1 : decide ((k : Int) < 0) = false := decide_eq_false (by omega)
  have e2 : decide (P.items.length ≤ k) = false := decide_eq_false (by omega)
  have hr : turnedN P (P.items.set k x) = R := by rw [← HR.out]; unfold withN; rw [if_pos ⟨by omega, by omega⟩, Int.toNat_natCast]
  have hsl : ∀ y ∈ P.items.set k x, (y.length : Int) ≤ 140737488355328 := by
   intro y hy
   rcases List.mem_or_eq_of_mem_set hy with h | rfl
   ·exact HIn.out.2.1 y h
   ·exact HX.out
  have ht := fun (u : World) (v : Value) (hv : ItemsC u v (P.items.set k x)) => pturned_any P ia P.items.length ic v (P.items.set k x) u hv hsl HIn.out.2.2.1 (by rw [List.length_set]; exact HIn.out.2.2.2.1)
  rw [hr] at ht
  unfold PgPost pgV at ht
  have HT := keep ht
  have hpos : 0 < P.items.length := by omega
  clear h3 h4 hr hsl ht
  go_wp2_with fail
  refine HCl.out.mono ?_
  rintro y w1 ⟨v', rfl, ho, hb1⟩
  have ho : OwnS w0.heap.size w1 v' P.items := ho
  obtain ⟨a', c', rfl⟩ := ho.form
  obtain ⟨g, rfl, hg, hcs⟩ := own_some ho hpos
  obtain ⟨q0, q1⟩ := hcs k hk
  have HO := keep ho
  have HG1 := keep hb1
  have hne : g ≠ w_.heap.size := by have := HP0.out.lt; omega
  have HHg := keep hg
  clear p0 p1 p2 p3 p4 p5 r0 r1 r2 r3 r4 r5 z0 z1 z2 z3 z4 z5 hcs ho hb1 hg HCl
  go_upto_region 5 with fail
  obtain ⟨w2, hw2⟩ : ∃ w2, w2 = w1.setCell ⟨g, k, none⟩ (.string (str x)) := ⟨_, rfl⟩
  rw [← hw2]
  have hO2 := own_set HO.out hk x
  have hb2 : Below w0.heap.size w0 w2 := by
   subst hw2
   exact But.below HG1.out ((But.refl g w1).setCell k (.string (str x))) HHg.out HG1.out.size
  rw [← hw2] at hO2
  have HG2 := keep hb2
  have HI2 := keep hO2.items
  have hP2 := HP0.out.fits hb2
  have hR2 := HR0.out.fits hb2
  unfold pgCells at hP2
  obtain ⟨p0, p1, p2, p3, p4, p5, _⟩ := pgres hP2
  have HR2 := keep hR2
  have HT2 := keep (HT.out w2 _ HI2.out)
  clear hw2 hO2 hb2 hP2 hR2 q0 q1 hne HT
  obtain ⟨R1, R2⟩ := R
  go_wp2_with fail
  refine HT2.out.mono ?_
  rintro y w3 ⟨jv, rfl, hj, hb3⟩
  obtain ⟨ja, jc, rfl⟩ := itemsS_form hj.1
  have HJ := keep hj
  have hR3 := HR2.out.fits hb3
  have HR3 := keep hR3
  have HG3 := keep (Grow.trans HG0.out (Grow.trans HG2.out hb3))
  obtain ⟨r0, r1, r2, r3, r4, r5, z0, z1, z2, z3, z4, z5⟩ := pgres hR3
  have Hset := keep (pgset hR3 (.int .i64 R1.lsn) (.int .i64 R1.kind) (.int .i64 R1.level) (.int .i64 R1.right) (.string (str R1.high)) (.slice ja R1.items.length jc))
  have Hbut := keep (pgbut w3 (w_.heap.size + 1) (.int .i64 R1.lsn) (.int .i64 R1.kind) (.int .i64 R1.level) (.int .i64 R1.right) (.string (str R1.high)) (.slice ja R1.items.length jc))
  clear p0 p1 p2 p3 p4 p5 hb3 hR3 hj HT2
  dsimp only
  go_wp2_with fail
  refine bodyPost_ret (v := .tuple #[pgV R1 (.slice ja R1.items.length jc), .int .i64 R2]) ?_ rfl ⟨_, rfl, itemsC_but HJ.out Hbut.out HR3.out (by decide), But.below HG3.out Hbut.out (by omega) HG3.out.size⟩
  obtain ⟨s0, s1, s2, s3, s4, s5, _⟩ := pgres Hset.out
  clear r0 r1 r2 r3 r4 r5 z0 z1 z2 z3 z4 z5
  simp [results, Tryz.results76, go_sem, s0, s1, s2, s3, s4, s5, pgV]
 ·have hr : R = (zeroP, 1) := by rw [← HR.out]; unfold withN; rw [if_neg h2]
  have HRR := keep hr
  have hc : (decide (i < 0) = true) ∨ (decide (i < 0) = false ∧ decide ((P.items.length : Int) ≤ i) = true) := by
   by_cases h0 : i < 0
   ·exact .inl (decide_eq_true h0)
   ·refine .inr ⟨decide_eq_false h0, decide_eq_true ?_⟩
    rcases Decidable.em ((P.items.length : Int) ≤ i) with h | h
    ·exact h
    ·exact absurd ⟨by omega, by omega⟩ h2
  clear h2 hr HCl
  have Hset := keep (pgset HR0.out (.int .i64 0) (.int .i64 0) (.int .i64 0) (.int .i64 0) (.string ⟨#[]⟩) (.slice none 0 0))
  have Hbut := keep (pgbut w0 (w_.heap.size + 1) (.int .i64 0) (.int .i64 0) (.int .i64 0) (.int .i64 0) (.string ⟨#[]⟩) (.slice none 0 0))
  rcases hc with e1 | ⟨e1, e2⟩
  all_goals
   go_wp2_with fail
   refine bodyPost_ret (v := .tuple #[pgV zeroP (.slice none 0 0), .int .i64 1]) ?_ rfl ⟨_, by rw [HRR.out], by rw [HRR.out]; exact ItemsC.nil _, But.below HG0.out Hbut.out (by omega) HG0.out.size⟩
   obtain ⟨s0, s1, s2, s3, s4, s5, _⟩ := pgres Hset.out
   clear p0 p1 p2 p3 p4 p5 r0 r1 r2 r3 r4 r5 z0 z1 z2 z3 z4 z5
   simp [results, Tryz.results76, go_sem, s0, s1, s2, s3, s4, s5, pgV, zeroP]
   try rfl
end Go.Proofs.YtmhepfehcakmjaaGreat
