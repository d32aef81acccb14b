
/- Of. -/
import Derived.Test.YtgijmlienolhpaaTb2
namespace Go.Proofs.Ytgijmlienolhpaa
open Go.RowKit Go.Maps

def tnZ : Tn := ⟨0, [], 0, 0, 0, 0⟩
def ofO (o : Option (Int × Nat × Tn)) : Tn := match o with | none => tnZ | some x => x.2.2
/-- Lists that can be cloned. -/
def LenT (T : Tr) : Prop := ∀ x ∈ T, (x.2.2.act.length : Int) ≤ 17592186044416
def OfPost (o : Option (Int × Nat × Tn)) (w : World) (e : Ending) (w' : World) : Prop := ∃ av, e = .returned (.tuple #[tnV (ofO o) av, .bool o.isSome]) ∧ RowO w' (fun k => w.heap.size ≤ k) av (ofO o).act ∧ Below w.heap.size w w'

set_option maxRecDepth 100000 in
set_option maxHeartbeats 2000000 in
theorem of_any (O : Nat → Prop) (tb : Nat) (T : Tr) (who : Int) (hw : (Lit.int .i64 who).wf = true) (w_ : World) (h : TabT w_ O tb T) (hl : LenT T) :
    Calls Try.prog 10 #[.pointer (some ⟨tb, 0, none⟩), .int .i64 who] w_ (OfPost (atT who T) w_) := by
  obtain ⟨o, ho⟩ : ∃ o, o = atT who T := ⟨_, rfl⟩
  have hmem : ∀ x, o = some x → x ∈ T ∧ x.1 = who := fun x e => atT_mem (ho.symm.trans e)
  obtain ⟨w1, hw1⟩ : ∃ w1, w1 = w_.alloc (.cells #[.int .i64 0, .slice none 0 0, .int .i64 0, .int .i64 0, .int .i64 0, .int .i64 0] 32) := ⟨_, rfl⟩
  have HG1 := keep (show Grow w_ w1 from by subst hw1; exact (Grow.refl w_).alloc _)
  have HX := keep (show Blk w1 w_.heap.size 32 [.int .i64 0, .slice none 0 0, .int .i64 0, .int .i64 0, .int .i64 0, .int .i64 0] from by subst hw1; exact Blk.new w_ _ [_, _, _, _, _, _])
  have hf := find_any O tb T who hw w1 (h.fits HG1.out)
  rw [← ho] at hf ⊢
  have HT := keep (h.fits HG1.out)
  have HL := keep hl
  clear h ho hl
  cases o with
  | none =>
    unfold foundV foundE at hf
    dsimp only at hf
    clear hmem
    go_enter Try.func10, Try.ntmps10
    go_upto_region 1 with fail
    rw [← hw1]
    clear hw1
    obtain ⟨x0, x1, x2, x3, x4, x5, f0, f1, f2, f3, f4, f5⟩ := six_of HX.out
    have Hset := keep (set6 HX.out (.int .i64 0) (.slice none 0 0) (.int .i64 0) (.int .i64 0) (.int .i64 0) (.int .i64 0))
    have Hbut := keep (but6 w1 w_.heap.size (.int .i64 0) (.slice none 0 0) (.int .i64 0) (.int .i64 0) (.int .i64 0) (.int .i64 0))
    have hz1 := HG1.out.size
    go_wp2_with (go_at_call 31; refine hf.mono ?_; rintro e w' ⟨rfl, rfl⟩)
    refine bodyPost_ret (v := .tuple #[tnV tnZ (.slice none 0 0), .bool false]) ?_ rfl ⟨.slice none 0 0, rfl, RowO.nil _ _ _, But.below HG1.out Hbut.out (Nat.le_refl _) (by omega)⟩
    obtain ⟨s0, s1, s2, s3, s4, s5, _⟩ := six_of Hset.out
    simp [results, Try.results10, go_sem, s0, s1, s2, s3, s4, s5, tnV, tnZ]
  | some x =>
    obtain ⟨hx, hxw⟩ := hmem x rfl
    obtain ⟨who', b, t⟩ := x
    have hr := HT.out.rows _ hx
    have hll := HL.out _ hx
    dsimp only at hr hll hxw
    subst hxw
    obtain ⟨-, av, hb, ⟨hra, -⟩⟩ := hr
    have hfr := fresh_any b who' t av w1 hb hra hll
    unfold foundV foundE at hf
    dsimp only at hf
    clear hmem hb hra hll hx
    unfold OfPost ofO
    dsimp only
    go_enter Try.func10, Try.ntmps10
    go_upto_region 1 with fail
    rw [← hw1]
    clear hw1
    go_upto_region 4 with (go_at_call 31; refine hf.mono ?_; rintro e w' ⟨rfl, rfl⟩)
    clear hf
    go_wp2_with (go_at_call 32; refine hfr.mono ?_; rintro e w2 ⟨av2, rfl, hrow2, hb2⟩; obtain ⟨a2, c2, rfl⟩ := row_sl hrow2.1.weak; have hx2 := HX.out.fits hb2; obtain ⟨x0, x1, x2, x3, x4, x5, f0, f1, f2, f3, f4, f5⟩ := six_of hx2; unfold tnV)
    have Hset := set6 hx2 (.int .i64 t.next) (.slice a2 t.act.length c2) (.int .i64 t.xid) (.int .i64 t.first) (.int .i64 t.last) (.int .i64 t.undoes)
    have Hbut := but6 w2 w_.heap.size (.int .i64 t.next) (.slice a2 t.act.length c2) (.int .i64 t.xid) (.int .i64 t.first) (.int .i64 t.last) (.int .i64 t.undoes)
    have hg2 := HG1.out.trans hb2
    refine bodyPost_ret (v := .tuple #[tnV t (.slice a2 t.act.length c2), .bool true]) ?_ rfl ⟨.slice a2 t.act.length c2, rfl, RowO.weaken (rowO_but hrow2 hx2 (by decide) Hbut) (fun k hk _ => by have := HG1.out.size; omega), But.below hg2 Hbut (Nat.le_refl _) (by have := HG1.out.size; have := hb2.size; omega)⟩
    obtain ⟨s0, s1, s2, s3, s4, s5, _⟩ := six_of Hset
    simp [results, Try.results10, go_sem, s0, s1, s2, s3, s4, s5, tnV]

end Go.Proofs.Ytgijmlienolhpaa
