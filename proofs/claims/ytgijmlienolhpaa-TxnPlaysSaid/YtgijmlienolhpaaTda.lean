
/- The document's Same of the same; the law's same: a table tells what the document says. -/
import Derived.Test.YtgijmlienolhpaaTd9
import Derived.Deep.CutRange
namespace Go.Proofs.Ytgijmlienolhpaa
open Go.RowKit Go.Maps

set_option maxRecDepth 100000 in
set_option maxHeartbeats 4000000 in
theorem same_eq (t : Tn) (v v2 : Value) (w_ : World) (hi : Ints w_ v t.act) (hj : Ints w_ v2 t.act) (hl : (t.act.length : Int) ≤ 17592186044416) :
    Calls Try.prog 23 #[tnV t v, tnV t v2] w_ fun x w' => x = .returned (.bool true) ∧ Below w_.heap.size w_ w' := by
  obtain ⟨ia, ic, rfl⟩ := row_sl hi
  obtain ⟨ja, jc, rfl⟩ := row_sl hj
  unfold tnV
  obtain ⟨w1, hw1⟩ : ∃ w1, w1 = w_.alloc (.cells #[.int .i64 t.next, .slice ia t.act.length ic, .int .i64 t.xid, .int .i64 t.first, .int .i64 t.last, .int .i64 t.undoes] 32) := ⟨_, rfl⟩
  have hg1 : Grow w_ w1 := by subst hw1; exact (Grow.refl w_).alloc _
  have hx1 : Blk w1 w_.heap.size 32 [.int .i64 t.next, .slice ia t.act.length ic, .int .i64 t.xid, .int .i64 t.first, .int .i64 t.last, .int .i64 t.undoes] := by subst hw1; exact Blk.new w_ _ [_, _, _, _, _, _]
  have hz1 : w1.heap.size = w_.heap.size + 1 := by subst hw1; simp
  obtain ⟨w2, hw2⟩ : ∃ w2, w2 = w1.alloc (.cells #[.int .i64 t.next, .slice ja t.act.length jc, .int .i64 t.xid, .int .i64 t.first, .int .i64 t.last, .int .i64 t.undoes] 32) := ⟨_, rfl⟩
  have hg2 : Grow w1 w2 := by subst hw2; exact (Grow.refl w1).alloc _
  have hx2 : Blk w2 (w_.heap.size + 1) 32 [.int .i64 t.next, .slice ja t.act.length jc, .int .i64 t.xid, .int .i64 t.first, .int .i64 t.last, .int .i64 t.undoes] := by rw [← hz1]; subst hw2; exact Blk.new w1 _ [_, _, _, _, _, _]
  have HG2 := keep (Grow.trans hg1 hg2)
  have HI0 := keep (Row.fits hi HG2.out)
  have HJ0 := keep (Row.fits hj HG2.out)
  have HX1 := keep (hx1.fits hg2)
  have HX2 := keep hx2
  obtain ⟨x0, x1, -⟩ := six_of HX1.out
  obtain ⟨y0, y1, -⟩ := six_of HX2.out
  clear hi hj hg1 hx1 hg2 hx2
  go_enter Try.func23, Try.ntmps23
  go_upto_region 1 with fail
  rw [← hw1, ← hw2]
  clear hw1 hw2 hz1
  go_wp2_with (go_at_call 37; refine (sameSnap_eq t.next t.act _ _ w2 HI0.out HJ0.out (by omega)).mono ?_; rintro e w3 ⟨rfl, hb3⟩; have HG3 := keep hb3; obtain ⟨-, -, x2, x3, x4, x5, -⟩ := six_of (HX1.out.fits hb3); obtain ⟨-, -, y2, y3, y4, y5, -⟩ := six_of (HX2.out.fits hb3); clear hb3)
  go_ret
  exact ⟨rfl, Grow.trans HG2.out HG3.out⟩

/-- What the document's table answers from a world on. -/
structure DdC (S : St) (tr : Nat) (wr : World) : Prop where
  beg : ∀ u, Grow wr u → Calls Try.prog 41 #[.pointer (some ⟨tr, 0, none⟩)] u (DBgPost S u)
  run : ∀ u, Grow wr u → Calls Try.prog 38 #[.pointer (some ⟨tr, 0, none⟩)] u (DRnPost S u)
  snp : ∀ u, Grow wr u → Calls Try.prog 39 #[.pointer (some ⟨tr, 0, none⟩)] u (DsPost S u)
  old : ∀ u, Grow wr u → Calls Try.prog 40 #[.pointer (some ⟨tr, 0, none⟩)] u (fun e w' => e = .returned (.int .i64 (oldT S)) ∧ Below u.heap.size u w')
  of : ∀ who, ∀ u, Grow wr u → Calls Try.prog 24 #[.pointer (some ⟨tr, 0, none⟩), .int .i64 who] u (DofPost (findT who S) u)
theorem DdC.fits {S : St} {tr : Nat} {w w' : World} (h : DdC S tr w) (k : Grow w w') : DdC S tr w' :=
  ⟨fun u hu => h.beg u (Grow.trans k hu), fun u hu => h.run u (Grow.trans k hu), fun u hu => h.snp u (Grow.trans k hu), fun u hu => h.old u (Grow.trans k hu), fun who u hu => h.of who u (Grow.trans k hu)⟩
theorem dd_calls {O : Nat → Prop} {tr : Nat} {D : Dr} {wr : World} {S : St} {K : Nat} (hT : DocT wr O tr D) (hS : stD D = S) (hG : Good K S) (hK : K ≤ 2199023255552) : DdC S tr wr := by
  subst hS
  have hn : D.length ≤ 2199023255552 := by have := hG.len; simp [stD] at this; omega
  exact ⟨fun u hu => doc_begun O tr D u (hT.fits hu) K hG.fit hn, fun u hu => doc_running O tr D u (hT.fits hu) K hG.fit hn, fun u hu => doc_snaps O tr D u (hT.fits hu) hn, fun u hu => doc_oldest O tr D u (hT.fits hu) hn, fun who u hu => doc_of O tr D who u (hT.fits hu) hG.fit.up (by omega)⟩

set_option maxRecDepth 100000 in
set_option maxHeartbeats 4000000 in
theorem same_law (S : St) (tb tr : Nat) (w_ : World) (hR : RdC S tb w_) (hD : DdC S tr w_) (hl : S.length ≤ 2199023255552) (ha : ∀ x ∈ snapsT S, (x.2.length : Int) ≤ 17592186044416) :
    Calls Try.prog 25 #[.pointer (some ⟨tb, 0, none⟩), .pointer (some ⟨tr, 0, none⟩)] w_ fun x w' => x = .returned (.bool true) ∧ Below w_.heap.size w_ w' := by
  have HR := keep hR
  have HD := keep hD
  have HAc := keep ha
  have hbl := begunT_len S
  clear hR hD ha
  go_enter Try.func25, Try.ntmps25
  go_wp2_with (first
    | (go_at_call 12; refine (HR.out.run _ (Below.refl _ _)).mono ?_; rintro e w1 ⟨a1, c1, rfl, hrow, hb, -⟩; have HX1 := keep hrow; have HG1 := keep hb; clear hrow hb)
    | (go_at_call 38; refine (HD.out.run _ HG1.out).mono ?_; rintro e w2 ⟨a2, c2, rfl, hrow, hb⟩; have HX2 := keep hrow; have HX1b := keep (Row.fits HX1.out hb); have HG2 := keep (Grow.trans HG1.out hb); clear hrow hb)
    | (go_at_call 28; refine (sameInts_eq (runT S) _ _ w2 (show Ints w2 _ _ by unfold Ints; rw [runT_len]; exact HX1b.out) HX2.out (by rw [runT_len]; omega)).mono ?_; rintro e w3 ⟨rfl, hb⟩; have HG3 := keep (Grow.trans HG2.out hb); clear hb)
    | (go_at_call 26; refine (HR.out.snp _ HG3.out).mono ?_; rintro e w4 ⟨a4, c4, rfl, hs, hb⟩; have HX4 := keep hs; have HG4 := keep (Grow.trans HG3.out hb); clear hs hb)
    | (go_at_call 39; refine (HD.out.snp _ HG4.out).mono ?_; rintro e w5 ⟨a5, c5, rfl, hs, hb⟩; have HX5 := keep hs; have HX4b := keep (HX4.out.row.fits hb); have HG5 := keep (Grow.trans HG4.out hb); clear hs hb)
    | (go_at_call 29; refine (snaps_eq (snapsT S) _ _ w5 HX4b.out HX5.out (by rw [snapsT_len]; omega) HAc.out).mono ?_; rintro e w6 ⟨rfl, hb⟩; have HG6 := keep (Grow.trans HG5.out hb); clear hb)
    | (go_at_call 11; refine (HR.out.old _ HG6.out).mono ?_; rintro e w7 ⟨rfl, hb⟩; have HG7 := keep (Grow.trans HG6.out hb); clear hb)
    | (go_at_call 40; refine (HD.out.old _ HG7.out).mono ?_; rintro e w8 ⟨rfl, hb⟩; have HG8 := keep (Grow.trans HG7.out hb); clear hb)
    | (go_at_call 27; refine (HR.out.beg _ HG8.out).mono ?_; rintro e w9 ⟨a9, c9, rfl, hrow, hb, -⟩; have HX9 := keep hrow; have HG9 := keep (Grow.trans HG8.out hb); clear hrow hb)
    | (go_at_call 41; refine (HD.out.beg _ HG9.out).mono ?_; rintro e w10 ⟨a10, c10, rfl, hrow, hb⟩; have HX10 := keep hrow; have HX9b := keep (Row.fits HX9.out hb); have HG10 := keep (Grow.trans HG9.out hb); clear hrow hb)
    | (go_at_call 30; refine (begun_eq (begunT S) _ _ w10 HX9b.out HX10.out (by omega)).mono ?_; rintro e w11 ⟨rfl, hb⟩; have HG11 := keep (Grow.trans HG10.out hb); clear hb))
  go_ret
  exact ⟨rfl, HG11.out⟩

end Go.Proofs.Ytgijmlienolhpaa
