import Derived.Test.YtmhepfehcakmjaaGreatKOwn1
import Derived.Test.YtmhepfehcakmjaaGreatKRs1
namespace Go.Proofs.YtmhepfehcakmjaaGreat
open Go.RowKit
theorem encStr_map (l : List (List UInt8)) : l.map encStr = sCells l := rfl
theorem delete_own (B i : Nat) (v : Value) (xs : List (List UInt8)) (w : World) (h : w.ownsRow B 9 1 v xs.length (sCells xs)) (hi : i < xs.length) :
  Calls Tryz.prog 132 #[v, .int .i64 i, .int .i64 ((i + 1 : Nat) : Int)] w fun e w' => ∃ v', e = .returned v' ∧ w'.ownsRow B 9 1 v' (xs.take i ++ xs.drop (i + 1)).length (sCells (xs.take i ++ xs.drop (i + 1))) ∧ Below B w w' := by
 rcases h.2 with ⟨rfl, h0⟩ | ⟨g, cap, cur, rfl, hg, hh, hn, hc, hs, ht⟩
 ·omega
 ·have hcl : (sCells xs).length = xs.length := sCells_length xs
  rw [Nat.mul_one] at hs ht
  have hh' : w.heap[g]? = some (.cells cur.toList.toArray 9 (0, 0)) := by simpa using hh
  have hlen : cur.toList.length = cap := by simpa using hs
  have hst : Lib.strsOf (fun j => str (xs.getD j [])) xs.length = xs := by
   apply List.ext_getElem
   ·simp [Lib.strsOf]
   ·intro j h1 h2
    simp [Lib.strsOf, h2]
  have hml : maxLen = 9223372036854775807 := rfl
  refine (Tryz.slices_Delete_string_cells g 0 xs.length cap i (i + 1) (fun j => str (xs.getD j [])) w hn (by rw [← hml]; exact hc) (by omega) (by omega) (fun j hj => ?_) (fun j _ => by simp [World.frozen?, hh])).mono ?_
  ·have hj2 : j < (sCells xs).length := by rw [hcl]; exact hj
   have : (cur.toList.take xs.length)[j]? = (sCells xs)[j]? := by rw [ht]
   rw [List.getElem?_take, if_pos hj] at this
   rw [Nat.zero_add]
   have e : cur[j]? = some (Value.string (str (xs.getD j []))) := by
    rw [← Array.getElem?_toList, this]
    simp [sCells, hj]
   simp only [World.cell?, hh]
   simpa using e
  ·rintro e w' ⟨rfl, q, rfl⟩
   rw [hst, encStr_map]
   have hA := heap_setCells_at (sCells (xs.take i ++ xs.drop (i + 1) ++ List.replicate (i + 1 - i) [])) 0 (w.drewN q) cur.toList hh' (by simp; omega)
   refine ⟨_, rfl, ?_, keeps_setCells hg _ _ _ ⟨rfl, rfl, rfl, Nat.le_refl _, fun _ _ => rfl⟩⟩
   have hnn : (xs.take i ++ xs.drop (i + 1)).length = xs.length - (i + 1 - i) := by simp; omega
   rw [hnn]
   refine owns_of hg hA (by omega) hc (by simp; omega) ?_
   rw [List.take_zero, List.nil_append, sCells_append (xs.take i ++ xs.drop (i + 1)), List.append_assoc, List.take_left' (by rw [sCells_length, hnn])]
def zeroP : Pg := ⟨0, 0, 0, 0, [], []⟩
def Capd : Value → Prop
 | .slice _ n c => n ≤ c
 | _ => True
def ItemsC (w : World) (iv : Value) (l : List (List UInt8)) : Prop := ItemsS w iv l ∧ Capd iv
theorem ItemsC.fits {w w' : World} {iv : Value} {l : List (List UInt8)} (h : ItemsC w iv l) (k : Below w.heap.size w w') : ItemsC w' iv l := ⟨RowS.fits h.1 k, h.2⟩
theorem itemsC_but {w w' : World} {b : Nat} {iv : Value} {l : List (List UInt8)} {t : Nat} {cs : List Value} (h : ItemsC w iv l) (k : But b w w') (hb : Blk w b t cs) (ht : t ≠ 9) : ItemsC w' iv l := ⟨items_but h.1 k hb ht, h.2⟩
theorem ItemsC.nil (w : World) : ItemsC w (.slice none 0 0) [] := ⟨RowS.nil _ _ _ _, Nat.le_refl 0⟩
def PgPost (P : Pg) (c : Int) (w : World) (e : Ending) (w' : World) : Prop := ∃ iv, e = .returned (.tuple #[pgV P iv, .int .i64 c]) ∧ ItemsC w' iv P.items ∧ Below w.heap.size w w'
def turnedN (P : Pg) (l : List (List UInt8)) : Pg × Int := if fitsP { P with items := l } then ({ P with items := l }, 0) else (zeroP, 3)
theorem itemsS_form {w : World} {iv : Value} {l : List (List UInt8)} (h : ItemsS w iv l) : ∃ a cap, iv = .slice a l.length cap := items_form h.weak
set_option maxRecDepth 100000 in
set_option maxHeartbeats 2000000 in
theorem pturned_any (P : Pg) (a0 : Option Addr) (n0 c0 : Nat) (iv : Value) (l : List (List UInt8)) (w : World) (hi : ItemsC w iv l) (hs : ∀ x ∈ l, (x.length : Int) ≤ 140737488355328) (hh : (P.high.length : Int) ≤ 140737488355328) (hl : (l.length : Int) ≤ 140737488355328) :
  Calls Tryz.prog 103 #[pgV P (.slice a0 n0 c0), iv] w (PgPost (turnedN P l).1 (turnedN P l).2 w) := by
 obtain ⟨w0, hw0⟩ : ∃ w0, w0 = (w.alloc (.cells (pgCells P (.slice a0 n0 c0)).toArray 24)).alloc (.cells #[.int .i64 0, .int .i64 0, .int .i64 0, .int .i64 0, .string ⟨#[]⟩, .slice none 0 0] 24) := ⟨_, rfl⟩
 have hg0 : Grow w w0 := by subst hw0; exact ((Grow.refl w).alloc _).alloc _
 have hB0 : Blk w0 w.heap.size 24 (pgCells P (.slice a0 n0 c0)) := by subst hw0; exact (Blk.new w _ _).alloc _
 have hR0 : Blk w0 (w.heap.size + 1) 24 (pgCells zeroP (.slice none 0 0)) := by
  have := Blk.new (w.alloc (.cells (pgCells P (.slice a0 n0 c0)).toArray 24)) 24 (pgCells zeroP (.slice none 0 0))
  have e : (w.alloc (.cells (pgCells P (.slice a0 n0 c0)).toArray 24)).heap.size = w.heap.size + 1 := by simp
  rw [e] at this
  subst hw0; exact this
 have hi0 : ItemsC w0 iv l := hi.fits hg0
 obtain ⟨ia, ic, rfl⟩ := itemsS_form hi.1
 have hB1 : Blk (w0.setCell ⟨w.heap.size, 5, none⟩ (.slice ia l.length ic)) w.heap.size 24 (pgCells { P with items := l } (.slice ia l.length ic)) := hB0.set 5 _
 have hR1 := hR0.set_other ⟨w.heap.size, 5, none⟩ (by simp) (.slice ia l.length ic)
 have hi1 : ItemsC (w0.setCell ⟨w.heap.size, 5, none⟩ (.slice ia l.length ic)) (.slice ia l.length ic) l := itemsC_but hi0 ((But.refl w.heap.size w0).setCell 5 _) hB0 (by decide)
 have hg1 : Grow w (w0.setCell ⟨w.heap.size, 5, none⟩ (.slice ia l.length ic)) := But.below hg0 ((But.refl w.heap.size w0).setCell 5 _) (Nat.le_refl _) (by have := hB0.lt; omega)
 have hf := fits_any { P with items := l } (.slice ia l.length ic) _ hi1.1.weak hs hh hl
 have hd : turnedN P l = if fitsP { P with items := l } then ({ P with items := l }, 0) else (zeroP, 3) := rfl
 have HF := keep hf
 have HB1 := keep hB1
 have HR1 := keep hR1
 have HI1 := keep hi1
 have HG1 := keep hg1
 have HD := keep hd
 clear hf hB1 hR1 hi1 hg1 hd hi hi0
 unfold pgCells at hw0 hB0
 obtain ⟨p0, p1, p2, p3, p4, p5, q0, q1, q2, q3, q4, q5⟩ := pgres hB0
 unfold pgV
 go_enter Tryz.func103, Tryz.ntmps103
 go_upto_region 1 with fail
 rw [← hw0]
 clear hw0
 go_upto_region 2 with fail
 have hB1 := HB1.out
 have hR1 := HR1.out
 have hi1 := HI1.out
 have hg1 := HG1.out
 have hf := HF.out
 clear HB1 HR1 HI1 HG1 HF p0 p1 p2 p3 p4 p5 q0 q1 q2 q3 q4 q5 hB0 hR0 hg0
 generalize w0.setCell ⟨w.heap.size, 5, none⟩ (.slice ia l.length ic) = w1 at *
 unfold pgCells at hB1
 unfold pgV at hf
 dsimp only at hf hB1
 obtain ⟨p0, p1, p2, p3, p4, p5, q0, q1, q2, q3, q4, q5⟩ := pgres hB1
 generalize fitsP { P with items := l } = F at *
 have HF := keep hf
 have HI1 := keep hi1
 have HB1 := keep hB1
 have HR1 := keep hR1
 have HG1 := keep hg1
 clear hf hi1 hR1 hg1 hB1
 go_wp2_with fail
 refine HF.out.mono ?_
 rintro e w2 ⟨rfl, hb2⟩
 have hi2 : ItemsC w2 (.slice ia l.length ic) l := HI1.out.fits hb2
 have hB2 := HB1.out.fits hb2
 have hR2 := HR1.out.fits hb2
 have hg2 := Grow.trans HG1.out hb2
 clear HI1 HB1 HR1 HG1 HF p0 p1 p2 p3 p4 p5 q0 q1 q2 q3 q4 q5 hb2
 unfold pgCells zeroP at hR2
 obtain ⟨p0, p1, p2, p3, p4, p5, _⟩ := pgres hB2
 obtain ⟨r0, r1, r2, r3, r4, r5, f0, f1, f2, f3, f4, f5⟩ := pgres hR2
 have hlt := hR2.lt
 cases F with
 | true =>
  have Hset := keep (pgset hR2 (.int .i64 P.lsn) (.int .i64 P.kind) (.int .i64 P.level) (.int .i64 P.right) (.string (str P.high)) (.slice ia l.length ic))
  have Hbut := keep (pgbut w2 (w.heap.size + 1) (.int .i64 P.lsn) (.int .i64 P.kind) (.int .i64 P.level) (.int .i64 P.right) (.string (str P.high)) (.slice ia l.length ic))
  have Hi2 := keep hi2
  have HR2 := keep hR2
  have Hg2 := keep hg2
  clear hi2 hR2 hg2 hB2
  go_wp2_with fail
  rw [HD.out, if_pos trivial]
  refine bodyPost_ret (v := .tuple #[pgV { P with items := l } (.slice ia l.length ic), .int .i64 0]) ?_ rfl ⟨_, rfl, itemsC_but Hi2.out Hbut.out HR2.out (by decide), But.below Hg2.out Hbut.out (by omega) (by omega)⟩
  obtain ⟨s0, s1, s2, s3, s4, s5, _⟩ := pgres Hset.out
  simp [results, Tryz.results103, go_sem, s0, s1, s2, s3, s4, s5, pgV]
 | false =>
  have Hset := keep (pgset hR2 (.int .i64 0) (.int .i64 0) (.int .i64 0) (.int .i64 0) (.string ⟨#[]⟩) (.slice none 0 0))
  have Hbut := keep (pgbut w2 (w.heap.size + 1) (.int .i64 0) (.int .i64 0) (.int .i64 0) (.int .i64 0) (.string ⟨#[]⟩) (.slice none 0 0))
  have Hg2 := keep hg2
  clear hi2 hR2 hg2 hB2
  go_wp2_with fail
  rw [HD.out, if_neg (fun h => by cases h)]
  refine bodyPost_ret (v := .tuple #[pgV zeroP (.slice none 0 0), .int .i64 3]) ?_ rfl ⟨_, rfl, ItemsC.nil _, But.below Hg2.out Hbut.out (by omega) (by omega)⟩
  obtain ⟨s0, s1, s2, s3, s4, s5, _⟩ := pgres Hset.out
  simp [results, Tryz.results103, go_sem, s0, s1, s2, s3, s4, s5, pgV, zeroP]
  try rfl
end Go.Proofs.YtmhepfehcakmjaaGreat
