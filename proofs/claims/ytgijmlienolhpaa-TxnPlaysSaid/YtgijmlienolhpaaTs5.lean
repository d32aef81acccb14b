
/- Snaps of a table. -/
import Derived.Test.YtgijmlienolhpaaTs4
import Derived.Test.YtgijmlienolhpaaTb4
namespace Go.Proofs.Ytgijmlienolhpaa
open Go.RowKit Go.Maps Go.Shelf

theorem infoSnap : (Try.prog.info? 28).map (fun i => (i.zero, i.size, i.bytes)) = some (some (.agg #[.int .i64 0, .slice none 0 0]), 2, 32) := by kernel_rfl
theorem field_snap (t : Tn) (av : Value) : (Instr.field 32 (.agg #[.int .i64 t.next, av, .int .i64 t.xid, .int .i64 t.first, .int .i64 t.last, .int .i64 t.undoes]) 0).run Try.prog = fun w => .ok (.agg #[.int .i64 t.next, av]) w := by
  funext w
  kernel_rfl

def snC (p : Int × Value) : List Value := [.int .i64 p.1, p.2]
theorem snCells_length (ps : List (Int × Value)) : (ps.flatMap snC).length = ps.length * 2 := by
  induction ps with
  | nil => rfl
  | cons x r ih => rw [List.flatMap_cons, List.length_append, List.length_cons, ih]; simp [snC]; omega
theorem snCells_get (ps : List (Int × Value)) (k : Nat) (h : k < ps.length) : (ps.flatMap snC)[k * 2]? = some (.int .i64 ps[k].1) ∧ (ps.flatMap snC)[k * 2 + 1]? = some ps[k].2 := by
  induction ps generalizing k with
  | nil => simp at h
  | cons x r ih =>
    rw [List.flatMap_cons]
    cases k with
    | zero => simp [snC]
    | succ k =>
      have h1 := ih k (by simp at h; omega)
      rw [show (k + 1) * 2 = k * 2 + 2 by omega, show k * 2 + 2 + 1 = (k * 2 + 1) + 2 by omega]
      simp only [snC, List.cons_append, List.nil_append, List.getElem?_cons_succ, List.getElem_cons_succ]
      exact h1
/-- Lists of snapshots, each with its list. -/
def SnOk (w : World) (O : Nat → Prop) (ps : List (Int × Value)) (l : List (Int × List Int)) : Prop := ps.length = l.length ∧ ∀ (i : Nat) (h1 : i < ps.length) (h2 : i < l.length), ps[i].1 = l[i].1 ∧ RowO w O ps[i].2 l[i].2
theorem SnOk.keeps {w w' : World} {O : Nat → Prop} {ps : List (Int × Value)} {l : List (Int × List Int)} (h : SnOk w O ps l) (hk : ∀ k, O k → k < w.heap.size → w'.heap[k]? = w.heap[k]?) : SnOk w' O ps l :=
  ⟨h.1, fun i h1 h2 => ⟨(h.2 i h1 h2).1, (h.2 i h1 h2).2.keeps hk⟩⟩
theorem SnOk.fits {w w' : World} {O : Nat → Prop} {ps : List (Int × Value)} {l : List (Int × List Int)} (h : SnOk w O ps l) (k : Below w.heap.size w w') : SnOk w' O ps l := h.keeps fun i _ hi => k.block i hi
theorem SnOk.push {w : World} {O : Nat → Prop} {ps : List (Int × Value)} {l : List (Int × List Int)} (h : SnOk w O ps l) {n : Int} {v : Value} {a : List Int} (hv : RowO w O v a) : SnOk w O (ps ++ [(n, v)]) (l ++ [(n, a)]) := by
  refine ⟨by simp [h.1], fun i h1 h2 => ?_⟩
  by_cases hi : i < ps.length
  · rw [List.getElem_append_left hi, List.getElem_append_left (by rw [← h.1]; exact hi)]
    exact h.2 i hi _
  · have e : i = ps.length := by simp at h1; omega
    subst e
    rw [List.getElem_append_right (Nat.le_refl _), List.getElem_append_right (by rw [h.1]; exact Nat.le_refl _)]
    simp [h.1, hv]
theorem rowO_grown {w w' : World} {O : Nat → Prop} {v v0 : Value} {l : List Int} {B e s n : Nat} {xs : List Value} (h : RowO w O v l) (hr : w.ownsRow B e s v0 n xs) (he : e ≠ 3) (hg : w.grownBy w' v0.ownBlock) : RowO w' O v l := by
  rcases hr.2 with ⟨rfl, _⟩ | ⟨g, cap, cur, rfl, _, hb, _⟩
  · exact h.keeps fun k _ hk => hg.block k hk (by simp [Value.ownBlock])
  · refine rowO_butG (b := g) h (fun cs f e2 => ?_) ⟨hg.os, hg.tape, hg.output, hg.size, fun k hk hne => hg.block k hk (by simpa [Value.ownBlock] using hne)⟩
    rw [hb] at e2
    simp at e2
    exact he e2.2.1
theorem SnOk.grown {w w' : World} {O : Nat → Prop} {v0 : Value} {ps : List (Int × Value)} {l : List (Int × List Int)} {B e s n : Nat} {xs : List Value} (h : SnOk w O ps l) (hr : w.ownsRow B e s v0 n xs) (he : e ≠ 3) (hg : w.grownBy w' v0.ownBlock) : SnOk w' O ps l :=
  ⟨h.1, fun i h1 h2 => ⟨(h.2 i h1 h2).1, rowO_grown (h.2 i h1 h2).2 hr he hg⟩⟩
theorem RowO.alloc {w : World} {O : Nat → Prop} {v : Value} {l : List Int} (h : RowO w O v l) (o : Obj) : RowO (w.alloc o) O v l := h.keeps fun _ _ hk => Below.heap_alloc _ _ _ hk
theorem SnOk.alloc {w : World} {O : Nat → Prop} {ps : List (Int × Value)} {l : List (Int × List Int)} (h : SnOk w O ps l) (o : Obj) : SnOk (w.alloc o) O ps l := h.keeps fun _ _ hk => Below.heap_alloc _ _ _ hk

def snapsT (S : St) : List (Int × List Int) := S.map fun x => (x.2.next, x.2.act)
theorem snaps_step (T : Tr) (k : Nat) (hk : k < T.length) : snapsT (stT (T.take (k + 1))) = snapsT (stT (T.take k)) ++ [(T[k].2.2.next, T[k].2.2.act)] := by
  rw [take_st T k hk]
  unfold snapsT
  rw [List.map_append]
  rfl
/-- A row of snapshots of one's own. -/
def SnS (w : World) (B : Nat) (v : Value) (l : List (Int × List Int)) : Prop := ∃ ps, w.ownsRow B 28 2 v l.length (ps.flatMap snC) ∧ SnOk w (fun k => B ≤ k) ps l
def SnRel (T : Tr) (w1 : World) (x i : Value) (wr : World) : Prop := ∃ (k : Nat) (a : Option Addr) (cap : Nat) (ps : List (Int × Value)), k ≤ T.length ∧ x = .slice a k cap ∧ i = .int .i64 k ∧
  Kept (wr.ownsRow w1.heap.size 28 2 (.slice a k cap) k (ps.flatMap snC)) ∧ Kept (SnOk wr (fun k => w1.heap.size ≤ k) ps (snapsT (stT (T.take k)))) ∧ Kept (Below w1.heap.size w1 wr)
def SnPost (T : Tr) (w : World) (e : Ending) (w' : World) : Prop := ∃ v, e = .returned v ∧ SnS w' w.heap.size v (snapsT (stT T)) ∧ Below w.heap.size w w'
theorem SnS.base {w : World} {B B' : Nat} {v : Value} {l : List (Int × List Int)} (h : SnS w B v l) (hB : B' ≤ B) : SnS w B' v l := by
  obtain ⟨ps, h1, h2⟩ := h
  refine ⟨ps, ⟨h1.1, ?_⟩, h2.1, fun i a b => ⟨(h2.2 i a b).1, (h2.2 i a b).2.weaken fun k hk _ => Nat.le_trans hB hk⟩⟩
  rcases h1.2 with h | ⟨g, cap, cur, hv, hb, r⟩
  · exact .inl h
  · exact .inr ⟨g, cap, cur, hv, Nat.le_trans hB hb, r⟩

set_option maxRecDepth 100000 in
set_option maxHeartbeats 4000000 in
theorem snaps_any (O : Nat → Prop) (tb : Nat) (T : Tr) (w_ : World) (h : TabT w_ O tb T) (hL : T.length ≤ 4398046511104) (hl : LenT T) :
    Calls Try.prog 26 #[.pointer (some ⟨tb, 0, none⟩)] w_ (SnPost T w_) := by
  obtain ⟨iS, hiS, hzS0, hzS1, hzS2⟩ := info_parts infoSnap
  have hall := all_any O tb T w_ h hL
  have HT0 := keep h
  have HL := keep hL
  have HLen := keep hl
  clear h hL hl
  go_enter Try.func26, Try.ntmps26
  go_wp2_with (go_at_call 33; refine hall.mono ?_; rintro e w1 ⟨v, rfl, hrow, hb1⟩; obtain ⟨va, vc, rfl⟩ := row_sl hrow; have HR := keep hrow; have HB1 := keep hb1; clear hrow hb1)
  clear hall
  go_loopw [3, 9] (fun x i wr => SnRel T w1 x i wr) (fun _ i _ => T.length - (intOf i).toNat)
  case atStart => exact show SnRel T w1 _ _ _ from ⟨0, none, 0, [], Nat.zero_le _, rfl, rfl, keep (by simpa using World.ownsRow_nil _ _ _ _), keep ⟨rfl, fun i h1 => by simp at h1⟩, keep (Below.refl _ _)⟩
  case round =>
    obtain ⟨k, a, cap, ps, hkl, rfl, rfl, HO, HS, HG⟩ := hrel
    by_cases hlt : k < T.length
    · have hr := Row.fits HR.out HG.out
      rcases hr with ⟨h0, _⟩ | ⟨c, off, cap2, e, hcl⟩
      · omega
      simp only [Value.slice.injEq] at e
      obtain ⟨rfl, _, rfl⟩ := e
      have hcell := hcl k (by simpa using hlt)
      simp only [List.getElem_map] at hcell
      have hst := snaps_step T k hlt
      have hrw := HT0.out.rows T[k] (List.getElem_mem hlt)
      have hll := HLen.out T[k] (List.getElem_mem hlt)
      have hTl := HL.out
      generalize T[k] = x at *
      obtain ⟨who, b, t⟩ := x
      dsimp only at hcell hst hrw hll
      obtain ⟨-, av, hbk, hra⟩ := hrw
      have hgx : Grow w_ wr := Grow.trans HB1.out HG.out
      have hfr := fresh_any b who t av wr (hbk.fits hgx) (RowS.fits hra.1 hgx) hll
      have HSt := keep hst
      have hsz := HG.out.size
      unfold encP at hcell
      clear hst hbk hgx hcl hra hll
      go_wp2_with fail
      refine hfr.mono ?_
      rintro e w3 ⟨av2, rfl, hrow3, hb3⟩
      obtain ⟨a2, c2, rfl⟩ := row_sl hrow3.1.weak
      have hfd := fun u => congrFun (field_snap t (.slice a2 t.act.length c2)) u
      have HO3 := keep (owns_fitsT HO.out hb3)
      have HS3 := keep (HS.out.fits hb3)
      have HG3 := keep (Below.trans HG.out (Below.mono hb3 hsz))
      have hz3 := hb3.size
      have HR3 := keep (hrow3.weaken (O' := fun k => w1.heap.size ≤ k) fun k hk _ => Nat.le_trans hsz hk)
      clear hb3 hrow3 HO HS HG hcell
      unfold tnV
      go_wp2_with ((at_builtin; go_must (refine wpList_append_own_at _ rfl _ _ 49 rfl w1.heap.size 28 iS (.agg #[.int .i64 0, .slice none 0 0]) 2 32 Try.underlying49 hiS hzS0 hzS1 hzS2 rfl (by decide) _ _ _ rfl (HO3.out.alloc _) ⟨w3.heap.size, 0, none⟩ 1 1 [.int .i64 t.next, .slice a2 t.act.length c2] rfl rfl (blk_two (Blk.new w3 _ [_, _])) (by intro u hu; simp at hu; rcases hu with rfl | rfl <;> rfl) (by unfold maxLen; omega) (by omega) (by simp; omega) ?_); intro v' xa hown' hgrow _ _; obtain ⟨a', cap', rfl⟩ := own_form hown'))
      have HG9 := keep (Below.grown (Below.alloc HG3.out (by omega) _) hgrow (by simp; omega) (fun g e => (HO3.out.lt g e).1))
      have hS9 := (HS3.out.push (n := t.next) HR3.out).alloc (.cells #[.int .i64 t.next, .slice a2 t.act.length c2] 28)
      have HS9 := keep (hS9.grown (HO3.out.alloc _) (by decide) hgrow)
      have HO9 := keep hown'
      clear hown' hgrow hS9
      go_roundw
      case rel => exact show SnRel T w1 _ _ _ from ⟨k + 1, a', cap', ps ++ [(t.next, .slice a2 t.act.length c2)], by omega, rfl, by first | go_num | simp, keep (by simpa [snC] using HO9.out), keep (by rw [HSt.out]; exact HS9.out), HG9⟩
      case measure => simp [intOf]; omega
    · have e : k = T.length := by omega
      subst e
      rw [List.take_length] at *
      go_wp2_with fail
      go_ret
      refine ⟨_, rfl, SnS.base (B := w1.heap.size) ⟨ps, ?_, HS.out⟩ HB1.out.size, HB1.out.trans (HG.out.mono HB1.out.size)⟩
      rw [show (snapsT (stT T)).length = T.length by simp [snapsT, stT]]
      exact HO.out

end Go.Proofs.Ytgijmlienolhpaa
