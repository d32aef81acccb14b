import Derived.Test.YtmhepfehcakmjaaGreatKQSame1
import Derived.Deep.Cut
import Derived.Laws.StructEq
namespace Go.Proofs.YtmhepfehcakmjaaGreat.Vac
open Go.RowKit
theorem gone_get {w : World} {gv : Value} {l : List (List UInt8 × Int × Int)} (h : Row w 102 gv l.length (gCells l)) :
  ∃ a cap, gv = .slice a l.length cap ∧ ∀ j, j < l.length → ∃ c off, a = some ⟨c, off, none⟩ ∧ w.cell? ⟨c, off + j * 3, none⟩ = some (.string (str (l.getD j ([], 0, 0)).1)) ∧ w.cell? ⟨c, off + j * 3 + 1, none⟩ = some (.int .i64 (l.getD j ([], 0, 0)).2.1) ∧ w.cell? ⟨c, off + j * 3 + 2, none⟩ = some (.int .i64 (l.getD j ([], 0, 0)).2.2) := by
 have hlen : ∀ l : List (List UInt8 × Int × Int), (gCells l).length = l.length * 3 := by
  intro l; induction l with
  | nil => rfl
  | cons x l ih => simp only [gCells, List.flatMap_cons, List.length_append, List.length_cons] at ih ⊢; rw [ih]; simp; omega
 have hget : ∀ (l : List (List UInt8 × Int × Int)) (j : Nat), j < l.length → (gCells l)[j * 3]? = some (.string (str (l.getD j ([], 0, 0)).1)) ∧ (gCells l)[j * 3 + 1]? = some (.int .i64 (l.getD j ([], 0, 0)).2.1) ∧ (gCells l)[j * 3 + 2]? = some (.int .i64 (l.getD j ([], 0, 0)).2.2) := by
  intro l; induction l with
  | nil => intro j hj; simp at hj
  | cons x l ih =>
   intro j hj
   cases j with
   | zero => simp [gCells]
   | succ j =>
    have := ih j (by simpa using hj)
    have e : (j + 1) * 3 = j * 3 + 1 + 1 + 1 := by omega
    simp only [gCells, List.flatMap_cons, List.cons_append, List.nil_append, e, List.getElem?_cons_succ, List.getD_cons_succ] at this ⊢
    exact this
 rcases h with ⟨h1, _, a, cap, h2⟩ | ⟨c, off, cap, h1, h3⟩
 ·exact ⟨a, cap, by rw [h2, h1], fun j hj => by omega⟩
 ·refine ⟨_, _, h1, fun j hj => ⟨c, off, rfl, ?_, ?_, ?_⟩⟩
  ·have hb : j * 3 < (gCells l).length := by rw [hlen]; omega
   have e := (hget l j hj).1
   rw [List.getElem?_eq_getElem hb] at e
   exact (h3 (j * 3) hb).trans e
  ·have hb : j * 3 + 1 < (gCells l).length := by rw [hlen]; omega
   have e := (hget l j hj).2.1
   rw [List.getElem?_eq_getElem hb] at e
   rw [Nat.add_assoc]
   exact (h3 (j * 3 + 1) hb).trans e
  ·have hb : j * 3 + 2 < (gCells l).length := by rw [hlen]; omega
   have e := (hget l j hj).2.2
   rw [List.getElem?_eq_getElem hb] at e
   rw [Nat.add_assoc]
   exact (h3 (j * 3 + 2) hb).trans e
theorem gtake_succ {a b : List (List UInt8 × Int × Int)} {k : Nat} (h : a.take k = b.take k) (ha : k < a.length) (hb : k < b.length) (hk : a.getD k ([], 0, 0) = b.getD k ([], 0, 0)) : a.take (k + 1) = b.take (k + 1) := by
 rw [List.take_succ_eq_append_getElem ha, List.take_succ_eq_append_getElem hb, h]
 simp [ha, hb] at hk
 rw [hk]
def sameW (a b : Wk) : Bool := decide (a.gone = b.gone) && (decide (a.fr = b.fr) && decide (a.off = b.off))
structure WkIn (w : World) (k : Wk) (fv ov gv : Value) : Prop where
 fr : Ints w fv k.fr
 off : Ints w ov k.off
 gone : Row w 102 gv k.gone.length (gCells k.gone)
 frl : (k.fr.length : Int) ≤ 70368744177664
 offl : (k.off.length : Int) ≤ 70368744177664
 gonel : (k.gone.length : Int) ≤ 70368744177664
theorem WkIn.fits {w w' : World} {k : Wk} {fv ov gv : Value} (h : WkIn w k fv ov gv) (g : Below w.heap.size w w') : WkIn w' k fv ov gv :=
 ⟨h.fr.fits g, h.off.fits g, Row.fits h.gone g, h.frl, h.offl, h.gonel⟩
def sameE (x0 : List UInt8) (x1 x2 : Int) (q0 : List UInt8) (q1 q2 : Int) : Bool := decide ((x0, x1, x2) = (q0, q1, q2))
theorem neq_entry (x0 q0 : List UInt8) (x1 x2 q1 q2 : Int) (w : World) : (binOp .neq 102 (.agg #[.string (str x0), .int .i64 x1, .int .i64 x2]) (.agg #[.string (str q0), .int .i64 q1, .int .i64 q2])).run Tryz.prog w = .ok (.bool (!sameE x0 x1 x2 q0 q1 q2)) w := by
 unfold sameE
 have hf : Tryz.prog.underlying 102 = some (.struct (Tryz.prog.fieldsOf 102)) := by kernel_rfl
 have hs : Tryz.prog.stoodInHeld 102 = false := by kernel_rfl
 rw [run_neq_struct, run_equalIn_agg w _ _ _ _ hf hs]
 simp [go_sem, Program.fieldsOf, Tryz.underlying102]
 by_cases h0 : x0 = q0
 ·by_cases h1 : x1 = q1
  ·by_cases h2 : x2 = q2
   ·simp [h0, h1, h2]
   ·simp [h0, h1, h2]
  ·simp [h0, h1]
 ·have : ¬ (str x0).toList = (str q0).toList := by rw [str_list, str_list]; exact h0
  simp [h0, this]
theorem guard_entry : Tryz.prog.eqGuardType Tryz.prog.depth 102 = false := by kernel_rfl
attribute [local simp] neq_entry
attribute [local go_sem] guard_entry
set_option maxRecDepth 100000 in
set_option maxHeartbeats 1000000 in
theorem same_any (k m : Wk) (fv ov gv fu ou gu : Value) (w : World) (hk : WkIn w k fv ov gv) (hm : WkIn w m fu ou gu) :
  Calls Tryz.prog 23 #[.agg #[fv, ov, gv], .agg #[fu, ou, gu]] w fun e w' => e = .returned (.bool (sameW k m)) ∧ Below w.heap.size w w' := by
 obtain ⟨w0, hw0⟩ : ∃ w0, w0 = (w.alloc (.cells #[fv, ov, gv] 72)).alloc (.cells #[fu, ou, gu] 72) := ⟨_, rfl⟩
 have hg0 : Grow w w0 := by subst hw0; exact ((Grow.refl w).alloc _).alloc _
 obtain ⟨b, hb⟩ : ∃ b, b = w.heap.size + 1 := ⟨_, rfl⟩
 have hA0 : Blk w0 w.heap.size 72 [fv, ov, gv] := by subst hw0; exact (Blk.new w _ [fv, ov, gv]).alloc _
 have hB0 : Blk w0 b 72 [fu, ou, gu] := by
  have := Blk.new (w.alloc (.cells #[fv, ov, gv] 72)) 72 [fu, ou, gu]
  have e : (w.alloc (.cells #[fv, ov, gv] 72)).heap.size = b := by rw [hb]; simp
  rw [e] at this
  subst hw0; exact this
 have hk0 := hk.fits hg0
 have hm0 := hm.fits hg0
 obtain ⟨fva, fvc, rfl, _⟩ := ints_form hk.fr
 obtain ⟨ova, ovc, rfl, _⟩ := ints_form hk.off
 obtain ⟨gva, gvc, rfl, _⟩ := gone_get hk.gone
 obtain ⟨fua, fuc, rfl, _⟩ := ints_form hm.fr
 obtain ⟨oua, ouc, rfl, _⟩ := ints_form hm.off
 obtain ⟨gua, guc, rfl, _⟩ := gone_get hm.gone
 have HK := keep hk0
 have HM := keep hm0
 have HB := keep hb
 clear hk hm hk0 hm0
 obtain ⟨y0, y1, y2, _⟩ := wkres hA0
 obtain ⟨z0, z1, z2, _⟩ := wkres hB0
 go_enter Tryz.func23, Tryz.ntmps23
 go_upto_region 1 with fail
 rw [← hw0, ← hb]
 clear hw0 hb
 by_cases hl : k.gone.length = m.gone.length
 ·have hl' : ((k.gone.length : Int) != (m.gone.length : Int)) = false := by simp [hl]
  go_wp2_with fail
  go_loopw [5] (fun i wr => ∃ n : Nat, n ≤ k.gone.length ∧ i = .int .i64 n ∧ Kept (k.gone.take n = m.gone.take n) ∧ Below w0.heap.size w0 wr) (fun i _ => k.gone.length - (intOf i).toNat)
  case atStart => exact ⟨0, Nat.zero_le _, rfl, keep rfl, Below.refl _ _⟩
  case round =>
   obtain ⟨n, hn, rfl, hT, hG⟩ := hrel
   have hAr := hA0.fits hG
   have hBr := hB0.fits hG
   obtain ⟨u0, u1, u2, _⟩ := wkres hAr
   obtain ⟨v0, v1, v2, _⟩ := wkres hBr
   by_cases hlt : n < k.gone.length
   ·have hltb : n < m.gone.length := by omega
    obtain ⟨_, _, e1, hx⟩ := gone_get (HK.out.fits hG).gone
    obtain ⟨_, _, e2, hy⟩ := gone_get (HM.out.fits hG).gone
    simp only [Value.slice.injEq] at e1 e2
    obtain ⟨rfl, _, rfl⟩ := e1
    obtain ⟨rfl, _, rfl⟩ := e2
    obtain ⟨c, off, rfl, hx0, hx1, hx2⟩ := hx n hlt
    obtain ⟨d, off', rfl, hy0, hy1, hy2⟩ := hy n hltb
    have hi1 : (n : Int) < (k.gone.length : Int) := by omega
    have hi2 : (n : Int) < (m.gone.length : Int) := by omega
    have hst := gtake_succ hT.out hlt hltb
    have hne : k.gone.getD n ([], 0, 0) ≠ m.gone.getD n ([], 0, 0) → sameW k m = false := by
     intro h
     have : decide (k.gone = m.gone) = false := by simp; intro e; rw [e] at h; exact h rfl
     unfold sameW; rw [this]; rfl
    generalize k.gone.getD n ([], 0, 0) = X at *
    generalize m.gone.getD n ([], 0, 0) = Y at *
    obtain ⟨x0, x1, x2⟩ := X
    obtain ⟨q0, q1, q2⟩ := Y
    dsimp only at hx0 hx1 hx2 hy0 hy1 hy2
    have HS := keep hst
    have HN := keep hne
    have HGo := keep hG
    clear hst hne hx hy hG
    by_cases hxy : (x0, x1, x2) = (q0, q1, q2)
    ·have hs := HS.out hxy
     have HS2 := keep hs
     have e1 : sameE x0 x1 x2 q0 q1 q2 = true := by simpa [sameE] using hxy
     have hgl := HK.out.gonel
     simp only [Prod.mk.injEq] at hxy
     obtain ⟨rfl, rfl, rfl⟩ := hxy
     clear hs HS
     go_wp2_with fail
     go_quiet (fail)
     go_wp2_with fail
     go_roundw
     case rel => exact ⟨n + 1, by omega, by go_num, HS2, ⟨HGo.out.os, HGo.out.tape, HGo.out.output, HGo.out.size, HGo.out.block⟩⟩
     case measure => simp [intOf]; omega
    ·have e1 : sameE x0 x1 x2 q0 q1 q2 = false := by simpa [sameE] using hxy
     have hn' := HN.out hxy
     have HN' := keep hn'
     clear hn' hxy HN HS
     go_wp2_with fail
     go_quiet (fail)
     go_wp2_with fail
     go_ret
     rw [HN'.out]
     exact ⟨rfl, Below.trans hg0 (Below.mono ⟨HGo.out.os, HGo.out.tape, HGo.out.output, HGo.out.size, HGo.out.block⟩ hg0.size)⟩
   ·have e : decide (k.gone = m.gone) = true := by
     have := hT.out
     rw [List.take_of_length_le (by omega), List.take_of_length_le (by omega)] at this
     simp [this]
    have hS : sameW k m = (decide (k.fr = m.fr) && decide (k.off = m.off)) := by unfold sameW; rw [e]; rfl
    have h1 := fun u hu => sameInts_any _ _ _ _ u ((HK.out.fits hG).fits hu).fr ((HM.out.fits hG).fits hu).fr HK.out.frl HM.out.frl
    have h2 := fun u hu => sameInts_any _ _ _ _ u ((HK.out.fits hG).fits hu).off ((HM.out.fits hG).fits hu).off HK.out.offl HM.out.offl
    generalize decide (k.fr = m.fr) = F at *
    generalize decide (k.off = m.off) = O at *
    have H1 := keep h1
    have H2 := keep h2
    have HS := keep hS
    have HGo := keep hG
    clear h1 h2 hS e hG
    go_wp2_with fail
    refine (H1.out wr (Below.refl _ _)).mono ?_
    rintro e x1 ⟨rfl, hb1⟩
    have hAx := hAr.fits hb1
    have hBx := hBr.fits hb1
    obtain ⟨u0, u1, u2, _⟩ := wkres hAx
    obtain ⟨v0, v1, v2, _⟩ := wkres hBx
    cases F with
    | false =>
     go_wp2_with fail
     go_ret
     rw [HS.out]
     exact ⟨rfl, Below.trans hg0 (Below.mono (Below.trans HGo.out (Below.mono hb1 HGo.out.size)) hg0.size)⟩
    | true =>
     go_wp2_with fail
     refine (H2.out x1 hb1).mono ?_
     rintro e x2 ⟨rfl, hb2⟩
     go_wp2_with fail
     go_ret
     rw [HS.out]
     exact ⟨rfl, Below.trans hg0 (Below.mono (Below.trans (Below.trans HGo.out (Below.mono hb1 HGo.out.size)) (Below.mono hb2 (Nat.le_trans HGo.out.size hb1.size))) hg0.size)⟩
 ·have hl' : ((k.gone.length : Int) != (m.gone.length : Int)) = true := by simp; omega
  have e : sameW k m = false := by
   unfold sameW
   have : decide (k.gone = m.gone) = false := by simp; intro h; exact hl (by rw [h])
   rw [this]; rfl
  have He := keep e
  clear e
  go_wp2_with fail
  go_ret
  rw [He.out]
  exact ⟨rfl, hg0⟩
end Go.Proofs.YtmhepfehcakmjaaGreat.Vac
