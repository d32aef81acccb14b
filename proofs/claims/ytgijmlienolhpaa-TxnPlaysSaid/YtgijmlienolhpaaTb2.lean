
/- What a session's transaction is, with a list of its own: fresh; Of. -/
import Derived.Test.YtgijmlienolhpaaTb1
import Derived.Test.YtgijmlienolhpaaShl
import Derived.Deep.CutRange
namespace Go.Proofs.Ytgijmlienolhpaa
open Go.RowKit Go.Maps

theorem own_rowS {w : World} {b e s n : Nat} {v : Value} {xs : List Value} (h : w.ownsRow b e s v n xs) : RowS w e v n xs := by
  rcases h.2 with ⟨rfl, rfl⟩ | ⟨g, cap, cur, rfl, _, hg, _, _, _, ht⟩
  · exact .inl ⟨rfl, by have := h.1; simpa using this, _, _, rfl⟩
  · refine .inr ⟨g, 0, cap, cur, (0, 0), rfl, hg, fun j hj => ?_⟩
    rw [Nat.zero_add, ← ht, List.getElem?_take]
    have hl := h.1
    rw [if_pos (by omega)]
    simp
/-- A row's block is a new one. -/
def FreshB (B : Nat) (v : Value) : Prop := ∀ c off n cap, v = .slice (some ⟨c, off, none⟩) n cap → B ≤ c
theorem FreshB.mono {B B' : Nat} {v : Value} (h : FreshB B v) (hB : B' ≤ B) : FreshB B' v := fun c off n cap e => Nat.le_trans hB (h c off n cap e)
theorem own_fresh {w : World} {b e s n : Nat} {v : Value} {xs : List Value} (h : w.ownsRow b e s v n xs) : FreshB b v := fun c off n' cap e' => (h.lt c (by rw [e']; rfl)).1
theorem own_rowO {w : World} {b : Nat} {v : Value} {l : List Int} (h : w.ownsRow b 3 1 v l.length (iCells l)) : RowO w (fun k => b ≤ k) v l := by
  refine ⟨own_rowS h, fun c off n cap e hl => ?_⟩
  rcases h.2 with ⟨rfl, _⟩ | ⟨g, cap', cur, rfl, hg, hb, _⟩
  · cases e
  · simp at e
    obtain ⟨⟨rfl, rfl⟩, _⟩ := e
    refine ⟨hg, fun j => ?_⟩
    simp [World.frozen?, hb]
theorem RowO.nil (w : World) (O : Nat → Prop) (cap : Nat) : RowO w O (.slice none 0 cap) [] := ⟨RowS.nil _ _ _ _, fun _ _ _ _ e => by cases e⟩
theorem clone_ints (S : List Int) (v : Value) (w : World) (h : Ints w v S) (hl : (S.length : Int) ≤ 17592186044416) :
    Calls Try.prog 34 #[v] w fun e w' => ∃ v', e = .returned v' ∧ RowO w' (fun k => w.heap.size ≤ k) v' S ∧ Below w.heap.size w w' := by
  rcases h with ⟨h1, _, a, cap, rfl⟩ | ⟨c, off, cap, rfl, hc⟩
  · have hS : S = [] := List.eq_nil_of_length_eq_zero h1
    subst hS
    cases a with
    | none =>
      refine (Try.slices_Clone_int_nil 0 cap w).mono ?_
      rintro e w' ⟨rfl, rfl⟩
      exact ⟨_, rfl, RowO.nil _ _ _, Below.refl _ _⟩
    | some a =>
      refine (Try.slices_Clone_int_zero a cap w).mono ?_
      rintro e w' ⟨v', rfl, ho, _, hb⟩
      exact ⟨v', rfl, own_rowO ho, hb⟩
  · refine (Try.slices_Clone_int c off S.length cap S w (Nat.le_refl _) (by omega) ?_).mono ?_
    · intro j hj
      rw [hc j (by simpa [iCells] using hj)]
      simp [iCells, hj]
    · rintro e w' ⟨v', rfl, ho, _, hb⟩
      rw [List.take_length] at ho
      exact ⟨v', rfl, own_rowO ho, hb⟩
theorem row_sl {w : World} {t n : Nat} {v : Value} {cs : List Value} (h : Row w t v n cs) : ∃ a cap, v = .slice a n cap := by
  rcases h with ⟨rfl, _, a, cap, rfl⟩ | ⟨c, off, cap, rfl, _⟩
  · exact ⟨a, cap, rfl⟩
  · exact ⟨_, _, rfl⟩
theorem rowS_but {w w' : World} {b n t : Nat} {v : Value} {cs cs' : List Value} (h : RowS w 3 v n cs) (hb : Blk w b t cs') (ht : t ≠ 3) (k : But b w w') : RowS w' 3 v n cs := by
  refine RowS.but h k ?_
  intro blk f e
  unfold Blk at hb
  rw [hb] at e
  simp at e
  exact ht e.2.1

theorem rowO_but {w w' : World} {O : Nat → Prop} {b t : Nat} {v : Value} {l : List Int} {cs' : List Value} (h : RowO w O v l) (hb : Blk w b t cs') (ht : t ≠ 3) (k : But b w w') : RowO w' O v l := by
  have h0 := h.1
  have hkeep : ∀ i, (O i ∧ i ≠ b) → i < w.heap.size → w'.heap[i]? = w.heap[i]? := fun i hi hl => k.block i hl hi.2
  have h1 : RowO w (fun i => O i ∧ i ≠ b) v l := by
    refine ⟨h.1, fun c off n cap e hl => ?_⟩
    have h2 := h.2 c off n cap e hl
    refine ⟨⟨h2.1, ?_⟩, h2.2⟩
    rintro rfl
    rcases h0 with ⟨a, _, _⟩ | ⟨c', off', cap', blk, f, hv, hb', hc⟩
    · exact hl (List.eq_nil_of_length_eq_zero a)
    · rw [e] at hv
      simp at hv
      obtain ⟨⟨rfl, rfl⟩, _⟩ := hv
      unfold Blk at hb
      rw [hb] at hb'
      simp at hb'
      exact ht hb'.2.1
  refine ⟨(h1.keeps hkeep).1, fun c off n cap e hl => ?_⟩
  have h3 := (h1.keeps hkeep).2 c off n cap e hl
  exact ⟨h3.1.1, h3.2⟩

def tnV (t : Tn) (av : Value) : Value := .agg #[.int .i64 t.next, av, .int .i64 t.xid, .int .i64 t.first, .int .i64 t.last, .int .i64 t.undoes]
theorem six_of {w : World} {b t : Nat} {v0 v1 v2 v3 v4 v5 : Value} (h : Blk w b t [v0, v1, v2, v3, v4, v5]) :
    w.cell? ⟨b, 0, none⟩ = some v0 ∧ w.cell? ⟨b, 1, none⟩ = some v1 ∧ w.cell? ⟨b, 2, none⟩ = some v2 ∧ w.cell? ⟨b, 3, none⟩ = some v3 ∧ w.cell? ⟨b, 4, none⟩ = some v4 ∧ w.cell? ⟨b, 5, none⟩ = some v5 ∧
    w.frozen? ⟨b, 0, none⟩ = false ∧ w.frozen? ⟨b, 1, none⟩ = false ∧ w.frozen? ⟨b, 2, none⟩ = false ∧ w.frozen? ⟨b, 3, none⟩ = false ∧ w.frozen? ⟨b, 4, none⟩ = false ∧ w.frozen? ⟨b, 5, none⟩ = false :=
  ⟨h.cell 0 (by simp), h.cell 1 (by simp), h.cell 2 (by simp), h.cell 3 (by simp), h.cell 4 (by simp), h.cell 5 (by simp), h.free 0, h.free 1, h.free 2, h.free 3, h.free 4, h.free 5⟩
theorem seven_of {w : World} {b t : Nat} {v0 v1 v2 v3 v4 v5 v6 : Value} (h : Blk w b t [v0, v1, v2, v3, v4, v5, v6]) :
    w.cell? ⟨b, 0, none⟩ = some v0 ∧ w.cell? ⟨b, 1, none⟩ = some v1 ∧ w.cell? ⟨b, 2, none⟩ = some v2 ∧ w.cell? ⟨b, 3, none⟩ = some v3 ∧ w.cell? ⟨b, 4, none⟩ = some v4 ∧ w.cell? ⟨b, 5, none⟩ = some v5 ∧ w.cell? ⟨b, 6, none⟩ = some v6 ∧
    w.frozen? ⟨b, 0, none⟩ = false ∧ w.frozen? ⟨b, 1, none⟩ = false ∧ w.frozen? ⟨b, 2, none⟩ = false ∧ w.frozen? ⟨b, 3, none⟩ = false ∧ w.frozen? ⟨b, 4, none⟩ = false ∧ w.frozen? ⟨b, 5, none⟩ = false ∧ w.frozen? ⟨b, 6, none⟩ = false :=
  ⟨h.cell 0 (by simp), h.cell 1 (by simp), h.cell 2 (by simp), h.cell 3 (by simp), h.cell 4 (by simp), h.cell 5 (by simp), h.cell 6 (by simp), h.free 0, h.free 1, h.free 2, h.free 3, h.free 4, h.free 5, h.free 6⟩
theorem set6 {w : World} {b t : Nat} {a0 a1 a2 a3 a4 a5 : Value} (h : Blk w b t [a0, a1, a2, a3, a4, a5]) (v0 v1 v2 v3 v4 v5 : Value) :
    Blk ((((((w.setCell ⟨b, 0, none⟩ v0).setCell ⟨b, 1, none⟩ v1).setCell ⟨b, 2, none⟩ v2).setCell ⟨b, 3, none⟩ v3).setCell ⟨b, 4, none⟩ v4).setCell ⟨b, 5, none⟩ v5) b t [v0, v1, v2, v3, v4, v5] :=
  (((((h.set 0 v0).set 1 v1).set 2 v2).set 3 v3).set 4 v4).set 5 v5
theorem but6 (w : World) (b : Nat) (v0 v1 v2 v3 v4 v5 : Value) :
    But b w ((((((w.setCell ⟨b, 0, none⟩ v0).setCell ⟨b, 1, none⟩ v1).setCell ⟨b, 2, none⟩ v2).setCell ⟨b, 3, none⟩ v3).setCell ⟨b, 4, none⟩ v4).setCell ⟨b, 5, none⟩ v5) :=
  ((((((But.refl b w).setCell 0 v0).setCell 1 v1).setCell 2 v2).setCell 3 v3).setCell 4 v4).setCell 5 v5

def FreshPost (t : Tn) (w : World) (e : Ending) (w' : World) : Prop := ∃ av, e = .returned (tnV t av) ∧ RowO w' (fun k => w.heap.size ≤ k) av t.act ∧ Below w.heap.size w w'

set_option maxRecDepth 100000 in
set_option maxHeartbeats 2000000 in
theorem fresh_any (b : Nat) (who : Int) (t : Tn) (av : Value) (w_ : World) (h : Blk w_ b 70 (tnC who t av)) (hr : RowS w_ 3 av t.act.length (iCells t.act)) (hl : (t.act.length : Int) ≤ 17592186044416) :
    Calls Try.prog 32 #[.pointer (some ⟨b, 0, none⟩)] w_ (FreshPost t w_) := by
  obtain ⟨aa, ac, rfl⟩ := row_sl hr.weak
  have HB := keep h
  have HR := keep hr
  have HL := keep hl
  unfold tnC at h
  obtain ⟨c0, c1, c2, c3, c4, c5, c6, _⟩ := seven_of h
  have hblt := h.lt
  obtain ⟨w1, hw1⟩ : ∃ w1, w1 = (w_.alloc (.cells #[.int .i64 0, .slice none 0 0, .int .i64 0, .int .i64 0, .int .i64 0, .int .i64 0] 32)).alloc (.cells #[.int .i64 t.next, .slice aa t.act.length ac, .int .i64 t.xid, .int .i64 t.first, .int .i64 t.last, .int .i64 t.undoes] 32) := ⟨_, rfl⟩
  have HG1 := keep (show Grow w_ w1 from by subst hw1; exact ((Grow.refl w_).alloc _).alloc _)
  have HX := keep (show Blk w1 w_.heap.size 32 [.int .i64 0, .slice none 0 0, .int .i64 0, .int .i64 0, .int .i64 0, .int .i64 0] from by subst hw1; exact (Blk.new w_ _ [_, _, _, _, _, _]).alloc _)
  have HY := keep (show Blk w1 (w_.heap.size + 1) 32 [.int .i64 t.next, .slice aa t.act.length ac, .int .i64 t.xid, .int .i64 t.first, .int .i64 t.last, .int .i64 t.undoes] from by
    have := Blk.new (w_.alloc (.cells #[.int .i64 0, .slice none 0 0, .int .i64 0, .int .i64 0, .int .i64 0, .int .i64 0] 32)) 32 [.int .i64 t.next, .slice aa t.act.length ac, .int .i64 t.xid, .int .i64 t.first, .int .i64 t.last, .int .i64 t.undoes]
    rw [show (w_.alloc (.cells #[.int .i64 0, .slice none 0 0, .int .i64 0, .int .i64 0, .int .i64 0, .int .i64 0] 32)).heap.size = w_.heap.size + 1 by simp] at this
    subst hw1; exact this)
  clear h hr hl
  go_enter Try.func32, Try.ntmps32
  go_upto_region 2 with fail
  rw [← hw1]
  clear hw1 c0 c1 c2 c3 c4 c5 c6
  have hb1 := HB.out.fits HG1.out
  unfold tnC at hb1
  obtain ⟨c0, c1, c2, c3, c4, c5, c6, _⟩ := seven_of hb1
  clear hb1
  go_wp2_with fail
  refine (clone_ints t.act _ w1 (RowS.fits HR.out HG1.out).weak HL.out).mono ?_
  rintro e w2 ⟨v', rfl, hrow, hb⟩
  obtain ⟨ba, bc, rfl⟩ := row_sl hrow.1.weak
  have HW := keep hrow
  have HG2 := keep (Grow.trans HG1.out hb)
  have hy := HY.out.fits hb
  have hx := HX.out.fits hb
  clear hb hrow c0 c1 c2 c3 c4 c5 c6
  obtain ⟨y0, y1, y2, y3, y4, y5, f0, f1, f2, f3, f4, f5⟩ := six_of hy
  have hy3 := hy.set 1 (.slice ba t.act.length bc)
  have HU := keep ((But.refl (w_.heap.size + 1) w2).setCell 1 (.slice ba t.act.length bc))
  have HX3 := keep (hx.set_other ⟨w_.heap.size + 1, 1, none⟩ (by dsimp only; omega) (.slice ba t.act.length bc))
  have HW3 := keep (rowO_but HW.out hy (by decide) HU.out)
  have HY3 := keep hy3
  have hz2 := HG2.out.size
  have HG3 := keep (But.below HG2.out HU.out (by omega) (by omega))
  clear hx hy3
  go_upto_region 3 with fail
  generalize w2.setCell ⟨w_.heap.size + 1, 1, none⟩ (.slice ba t.act.length bc) = w3 at *
  clear y0 y1 y2 y3 y4 y5 f0 f1 f2 f3 f4 f5 hy
  have hy4 : Blk w3 (w_.heap.size + 1) 32 [.int .i64 t.next, .slice ba t.act.length bc, .int .i64 t.xid, .int .i64 t.first, .int .i64 t.last, .int .i64 t.undoes] := HY3.out
  obtain ⟨y0, y1, y2, y3, y4, y5, _⟩ := six_of hy4
  obtain ⟨x0, x1, x2, x3, x4, x5, f0, f1, f2, f3, f4, f5⟩ := six_of HX3.out
  have Hset := keep (set6 HX3.out (.int .i64 t.next) (.slice ba t.act.length bc) (.int .i64 t.xid) (.int .i64 t.first) (.int .i64 t.last) (.int .i64 t.undoes))
  have Hbut := keep (but6 w3 w_.heap.size (.int .i64 t.next) (.slice ba t.act.length bc) (.int .i64 t.xid) (.int .i64 t.first) (.int .i64 t.last) (.int .i64 t.undoes))
  have hz3 := HG3.out.size
  clear hy4
  go_wp2_with fail
  refine bodyPost_ret (v := tnV t (.slice ba t.act.length bc)) ?_ rfl ⟨_, rfl, RowO.weaken (rowO_but HW3.out HX3.out (by decide) Hbut.out) (fun k hk _ => by have := HG1.out.size; omega), But.below HG3.out Hbut.out (Nat.le_refl _) (by omega)⟩
  obtain ⟨s0, s1, s2, s3, s4, s5, _⟩ := six_of Hset.out
  simp [results, Try.results32, go_sem, s0, s1, s2, s3, s4, s5, tnV]

end Go.Proofs.Ytgijmlienolhpaa
