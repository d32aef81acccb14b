
/- TxnPlays' walk. -/
import Derived.Test.YtgijmlienolhpaaTe1
import Derived.Test.YtgijmlienolhpaaLexi
import Derived.Deep.CutRange
namespace Go.Proofs.Ytgijmlienolhpaa
open Go.RowKit Go.Maps
attribute [local go_sem] givesF_none givesF_some evalF_tmp evalF_const evalF_global evalF_func lookL isB_bool isB_undef givesUpon_value givesUpon_skip givesUpon_enter

section
variable {A B : Nat → Prop} {N tb tr : Nat} {S1 S2 : St} {u v w w' : World}
theorem ExtT.undrew (h : ExtT A B N u.drew v) : ExtT A B N u v := ⟨h.os, h.tape, h.output, h.size, h.block⟩
theorem TwoT.drew (h : TwoT A B N tb tr S1 S2 w) : TwoT A B N tb tr S1 S2 w.drew := h.keeps (Nat.le_refl _) fun _ _ _ => rfl
theorem ExtT.below {M : Nat} (h : ExtT A B N u v) (hA : ∀ j, A j → M ≤ j) (hB : ∀ j, B j → M ≤ j) (hM : M ≤ N) : Below M u v := ⟨h.os, h.tape, h.output, h.size, fun j hj => h.block j (by omega) (fun e => by have := hA j e; omega) (fun e => by have := hB j e; omega)⟩
theorem grownBy_putB {g : Nat} (h : u.grownBy w (some g)) (j : Nat) (x : Value) : u.grownBy (w.setCell ⟨g, j, none⟩ x) (some g) := by
  have hb := (But.refl g w).setCell j x
  refine ⟨hb.os.trans h.os, hb.tape.trans h.tape, hb.output.trans h.output, Nat.le_trans h.size hb.size, fun k hk hne => ?_⟩
  rw [← h.block k hk hne]
  exact hb.block k (Nat.lt_of_lt_of_le hk h.size) (fun e => hne (by rw [e]))
/-- Both tables, whatever is called new. -/
theorem TwoT.again2 (h : TwoT A B N tb tr S1 S2 w) : ∃ A' B' : Nat → Prop, (∀ M, TwoT A' B' M tb tr S1 S2 w) ∧ (∀ j, A' j → (A j ∨ N ≤ j) ∧ j < w.heap.size) ∧ ∀ j, B' j → (B j ∨ N ≤ j) ∧ j < w.heap.size := by
  obtain ⟨T, D, O1, O2, h1, h2, h3, h4, h5, h6, h7⟩ := h.ex
  exact ⟨O1, O2, fun M => ⟨T, D, O1, O2, h1, h2, h3, h4, fun j hj => ⟨.inl hj, (h5 j hj).2⟩, fun j hj => ⟨.inl hj, (h6 j hj).2⟩, h7⟩, h5, h6⟩
theorem Row.ext {M t n : Nat} {x : Value} {cs : List Value} (h : Row w t x n cs) (hf : FreshB M x) (hA : ∀ j, A j → j < M) (hB : ∀ j, B j → j < M) (k : ExtT A B w.heap.size w u) : Row u t x n cs := by
  rcases h with h0 | ⟨c, off, cap, rfl, hc⟩
  · exact .inl h0
  · refine .inr ⟨c, off, cap, rfl, fun j hj => ?_⟩
    have h1 := hc j hj
    have hM := hf c off _ cap rfl
    rw [← h1]
    exact World.cell?_of_block (k.block c (World.block_lt_of_cell? w _ h1) (fun e => by have := hA c e; omega) (fun e => by have := hB c e; omega))
theorem PutOk.keepsB {x : Value} {m : Nat} (h : PutOk w x m) (hk : ∀ g off n cap, x = .slice (some ⟨g, off, none⟩) n cap → g < w.heap.size → u.heap[g]? = w.heap[g]?) : PutOk u x m := by
  intro g off n cap e j hj
  obtain ⟨⟨y, hy⟩, h2⟩ := h g off n cap e j hj
  have hb := hk g off n cap e (World.block_lt_of_cell? w _ hy)
  exact ⟨⟨y, (World.cell?_of_block hb).trans hy⟩, (World.frozen?_of_block hb).trans h2⟩
end
theorem does_0 (who n next : Int) (f : Bool) (act : List Int) (S : St) : doesT ⟨0, who, n, f, next, act⟩ S = (beginT who next act S).1 := rfl
theorem does_1 (who n next : Int) (f : Bool) (act : List Int) (S : St) : doesT ⟨1, who, n, f, next, act⟩ S = (takeT who n S).1 := rfl
theorem does_2 (who n next : Int) (f : Bool) (act : List Int) (S : St) : doesT ⟨2, who, n, f, next, act⟩ S = (loggedT who n f S).1 := rfl
theorem does_3 (who n next : Int) (f : Bool) (act : List Int) (S : St) : doesT ⟨3, who, n, f, next, act⟩ S = (endT who S).1 := rfl
theorem does_x (ask who n next : Int) (f : Bool) (act : List Int) (S : St) (h0 : ask ≠ 0) (h1 : ask ≠ 1) (h2 : ask ≠ 2) (h3 : ask ≠ 3) : doesT ⟨ask, who, n, f, next, act⟩ S = S := by
  unfold doesT
  rw [if_neg h0, if_neg h1, if_neg h2, if_neg h3]
/-- Calls in memory, their lists such as an append takes. -/
def Ops2 (w : World) (v : Value) (ps : List (Cl × Value)) : Prop := OpsIn w v ps ∧ ∀ p ∈ ps, SrcOk w p.2 p.1.act.length (iCells p.1.act) 1
def PlRel (ps : List (Cl × Value)) (tb tr : Nat) (w_ : World) (i : Value) (wr : World) : Prop := ∃ k : Nat, k ≤ ps.length ∧ i = .int .i64 k ∧ Kept (TwoT (fun _ => False) (fun _ => False) w_.heap.size tb tr (stA ps k) (stA ps k) wr) ∧ Kept (Below w_.heap.size w_ wr)
def PutRel (w0 : World) (v : Value) (m n : Nat) (rb : Option Nat) (i : Value) (wr : World) : Prop := ∃ j : Nat, j ≤ n ∧ i = .int .i64 j ∧ Kept (w0.grownBy wr rb) ∧ Kept (PutOk wr v m)

set_option maxRecDepth 100000 in
set_option maxHeartbeats 16000000 in
theorem plays_law (v : Value) (ps : List (Cl × Value)) (w_ : World) (hin : Ops2 w_ v ps) (hn : ps.length ≤ 2199023255552) :
    Calls Try.prog 4 #[v] w_ fun e w' => e = .returned (.bool true) ∧ Below w_.heap.size w_ w' := by
  obtain ⟨va, vc, rfl⟩ := row_sl hin.1.row
  have HIn := keep hin
  have HN := keep hn
  have HGd := keep (fun k hk => stA_good ps (fun p hp => (hin.1.each p hp).2.1) k hk)
  clear hin hn
  go_enter Try.func4, Try.ntmps4
  go_wp2_with (first
    | (go_at_call 8; refine (new_any w_).mono ?_; rintro e wt ⟨tb, rfl, hT1, hB1⟩; have HT1 := keep hT1; have HB1 := keep hB1; clear hT1 hB1)
    | (go_at_call 14; refine (doc_new wt).mono ?_; rintro e ws ⟨tr, rfl, hD1, hB2⟩; have HS0 := keep (two_new w_ HT1.out HB1.out.size hD1 hB2); have HB0 := keep (HB1.out.trans (hB2.mono HB1.out.size)); clear hD1 hB2))
  clear HT1 HB1
  go_loopw [5] (fun i wr => PlRel ps tb tr w_ i wr) (fun i _ => ps.length - (intOf i).toNat)
  case atStart => exact show PlRel ps tb tr w_ _ _ from ⟨0, Nat.zero_le _, rfl, HS0, HB0⟩
  case round =>
    clear HS0 HB0
    obtain ⟨k, hkl, rfl, HT, HB⟩ := hrel
    by_cases hlt : k < ps.length
    · obtain ⟨c, off, cap2, e, b0, b1, b2, b3, b4, b5⟩ := HIn.out.1.at_ hlt
      simp only [Value.slice.injEq] at e
      obtain ⟨rfl, _, rfl⟩ := e
      have hea := (HIn.out.1.fits HB.out).each ps[k] (List.getElem_mem hlt)
      have hsr := HIn.out.2 ps[k] (List.getElem_mem hlt)
      have hsc := stA_succ ps k hlt
      have hGk := HGd.out k hkl
      generalize ps[k] = p at *
      obtain ⟨⟨ask, who, n, flag, next, act⟩, sv⟩ := p
      dsimp only at b0 b1 b2 b3 b4 b5 hea hsr
      obtain ⟨s1, s2, rfl⟩ := row_sl hea.1
      have c0 := (HB.out.cell (World.block_lt_of_cell? w_ _ b0)).trans b0
      have c1 := (HB.out.cell (World.block_lt_of_cell? w_ _ b1)).trans b1
      have c2 := (HB.out.cell (World.block_lt_of_cell? w_ _ b2)).trans b2
      have c3 := (HB.out.cell (World.block_lt_of_cell? w_ _ b3)).trans b3
      have c4 := (HB.out.cell (World.block_lt_of_cell? w_ _ b4)).trans b4
      have c5 := (HB.out.cell (World.block_lt_of_cell? w_ _ b5)).trans b5
      have HW := keep hea.2.2
      have HAl := keep hea.2.1.act
      have HSr := keep hsr
      have HSc := keep hsc
      generalize stA ps k = S at *
      have HGS := keep hGk
      obtain ⟨A, B, hTM, hAw, hBw⟩ := HT.out.again2
      have hA2 : ∀ j, A j → j < wr.heap.size := fun j hj => (hAw j hj).2
      have hB2 : ∀ j, B j → j < wr.heap.size := fun j hj => (hBw j hj).2
      replace hAw : ∀ j, A j → w_.heap.size ≤ j := fun j hj => (hAw j hj).1.elim False.elim id
      replace hBw : ∀ j, B j → w_.heap.size ≤ j := fun j hj => (hBw j hj).1.elim False.elim id
      have hxA : ¬ A wr.heap.size := fun h => by have := hA2 _ h; omega
      have hxB : ¬ B wr.heap.size := fun h => by have := hB2 _ h; omega
      clear hea hsr hsc hGk b0 b1 b2 b3 b4 b5
      go_upto_region 9 with fail
      obtain ⟨w1, hw1⟩ : ∃ w1, w1 = wr.alloc (.cells #[.int .i64 ask, .int .i64 who, .int .i64 n, .bool flag, .int .i64 next, .slice s1 act.length s2] 30) := ⟨_, rfl⟩
      have hg1 : Grow wr w1 := by subst hw1; exact (Grow.refl wr).alloc _
      have HX1 := keep (show Blk w1 wr.heap.size 30 [.int .i64 ask, .int .i64 who, .int .i64 n, .bool flag, .int .i64 next, .slice s1 act.length s2] from by subst hw1; exact Blk.new wr _ [_, _, _, _, _, _])
      rw [← hw1]
      have HT1 := keep (fun M => (hTM M).fits hg1)
      have HG1 := keep hg1
      have HB1 := keep (HB.out.trans (hg1.mono HB.out.size))
      have HN1 := keep HB1.out.size
      clear hw1 hg1 hTM c0 c1 c2 c3 c4 c5
      by_cases h1 : ask = 1
      · subst h1
        obtain ⟨R, hR⟩ : ∃ R, R = takeT who n S := ⟨_, rfl⟩
        have HR := keep hR
        have HX := keep (fun (u : World) (hu : ExtT A B w1.heap.size w1 u) => six_of (blk_keeps HX1.out (hu.block _ HX1.out.lt hxA hxB)))
        obtain ⟨x0, x1, x2, x3, x4, x5, -⟩ := six_of HX1.out
        have hlen := HN.out
        clear hR
        go_upto_region 20 with fail
        clear x0 x1 x2 x3 x4 x5
        refine wp_region_i_named (by kernel_rfl) 12 5 11 (by decide) (by decide) (fun bA bB w => TwoT A B w1.heap.size tb tr (if bA then R.1 else S) (if bB then R.1 else S) w) (ExtT A B w1.heap.size) (ExtT.refl _) (TwoT.drew (HT1.out _)) (fun _ _ _ => ExtT.trans) (by kernel_rfl) [(75, 0), (76, 1), (77, 2), (78, 3), (79, 4), (80, 5), (81, 6), (82, 7), (83, 8), (84, 9), (85, 10), (86, 11)] (by kernel_rfl) [(0, true), (1, true), (2, true), (3, true), (4, true), (5, true), (6, true), (7, true), (8, true), (9, true), (10, true), (11, true)] (by kernel_rfl) rfl rfl ?_
        intro a0 ha0
        have hsz : a0.tmps.size = 194 := (size_at ha0).trans rfl
        have s3 := slot_at ha0 3 rfl
        have s4 := slot_at ha0 4 rfl
        have s6 := slot_at ha0 6 rfl
        have HA0 := keep ha0
        clear ha0
        -- operation 0
        apply lexi_eq hsz [] [(76, 1), (77, 2), (78, 3), (79, 4), (81, 6), (82, 7), (83, 8), (84, 9), (85, 10), (86, 11), (87, 12)] none (by kernel_rfl) (by kernel_rfl) (by kernel_rfl) (by kernel_rfl) rfl (by decide) (by decide) (fun _ => ExtT.refl _)
        · intro xs w hw hp K hK
          go_simp
          exact hK
        -- operation 1
        apply lexi_eq hsz [] [(75, 0), (78, 3), (79, 4), (80, 5), (81, 6), (82, 7), (83, 8), (84, 9), (85, 10), (86, 11), (87, 12)] none (by kernel_rfl) (by kernel_rfl) (by kernel_rfl) (by kernel_rfl) rfl (by decide) (by decide) (fun _ => ExtT.refl _)
        · intro xs w hw hp K hK
          go_simp
          exact hK
        -- operation 2
        apply lexi_eq hsz [(1, true)] [(75, 0), (76, 1), (78, 3), (79, 4), (81, 6), (82, 7), (83, 8), (84, 9), (85, 10), (86, 11), (87, 12)] none (by kernel_rfl) (by kernel_rfl) (by kernel_rfl) (by kernel_rfl) rfl (by decide) (by decide) (fun _ => ExtT.refl _)
        · intro xs w hw hp K hK
          simp only [holdsL, List.nil_append, List.cons_append, List.getD_cons_succ, List.getD_cons_zero, if_true, and_true] at hp
          obtain ⟨-, x1, x2, x3, x4, x5, -⟩ := HX.out w hw.undrew
          go_simp
          exact hK
        -- operation 3
        apply lexi_eq hsz [] [(75, 0), (76, 1), (77, 2), (80, 5), (81, 6), (82, 7), (83, 8), (84, 9), (85, 10), (86, 11), (87, 12)] none (by kernel_rfl) (by kernel_rfl) (by kernel_rfl) (by kernel_rfl) rfl (by decide) (by decide) (fun _ => ExtT.refl _)
        · intro xs w hw hp K hK
          go_simp
          exact hK
        -- operation 4
        apply lexi_eq hsz [(3, true)] [(75, 0), (76, 1), (77, 2), (78, 3), (81, 6), (82, 7), (83, 8), (84, 9), (85, 10), (86, 11), (87, 12)] none (by kernel_rfl) (by kernel_rfl) (by kernel_rfl) (by kernel_rfl) rfl (by decide) (by decide) (fun _ => ExtT.refl _)
        · intro xs w hw hp K hK
          simp only [holdsL, List.nil_append, List.cons_append, List.getD_cons_succ, List.getD_cons_zero, if_true, and_true] at hp
          obtain ⟨-, x1, x2, x3, x4, x5, -⟩ := HX.out w hw.undrew
          go_simp
          exact hK
        -- operation 5
        apply lexi_a hsz [(0, true), (2, true), (4, true)] [(75, 0), (76, 1), (77, 2), (78, 3), (79, 4), (81, 6), (82, 7), (83, 8), (84, 9), (85, 10)] none (by kernel_rfl) (by kernel_rfl) (by kernel_rfl) (by kernel_rfl) rfl (by decide)
        · intro xs w b9 hw hin hp K hK
          simp only [holdsL, List.nil_append, List.cons_append, List.getD_cons_succ, List.getD_cons_zero, if_true, and_true] at hp
          go_simp
          refine (twoA_take (S1 := S) (S2 := if b9 then R.1 else S) hin hw.size HGS.out (by omega) who n HW.out).mono ?_; rintro e w' ⟨rfl, h2, h3⟩; rw [← HR.out] at h2 ⊢; exact ⟨_, rfl, hK w' h3 h2⟩
        -- operation 6
        apply lexi_eq hsz [] [(75, 0), (76, 1), (77, 2), (78, 3), (79, 4), (80, 5), (82, 7), (83, 8), (84, 9), (85, 10), (87, 12)] none (by kernel_rfl) (by kernel_rfl) (by kernel_rfl) (by kernel_rfl) rfl (by decide) (by decide) (fun _ => ExtT.refl _)
        · intro xs w hw hp K hK
          go_simp
          exact hK
        -- operation 7
        apply lexi_eq hsz [] [(75, 0), (76, 1), (77, 2), (78, 3), (79, 4), (80, 5), (81, 6), (84, 9), (85, 10), (86, 11), (87, 12)] none (by kernel_rfl) (by kernel_rfl) (by kernel_rfl) (by kernel_rfl) rfl (by decide) (by decide) (fun _ => ExtT.refl _)
        · intro xs w hw hp K hK
          go_simp
          exact hK
        -- operation 8
        apply lexi_eq hsz [(7, true)] [(75, 0), (76, 1), (77, 2), (78, 3), (79, 4), (80, 5), (81, 6), (82, 7), (84, 9), (85, 10), (87, 12)] none (by kernel_rfl) (by kernel_rfl) (by kernel_rfl) (by kernel_rfl) rfl (by decide) (by decide) (fun _ => ExtT.refl _)
        · intro xs w hw hp K hK
          simp only [holdsL, List.nil_append, List.cons_append, List.getD_cons_succ, List.getD_cons_zero, if_true, and_true] at hp
          obtain ⟨-, x1, x2, x3, x4, x5, -⟩ := HX.out w hw.undrew
          go_simp
          exact hK
        -- operation 9
        apply lexi_eq hsz [] [(75, 0), (76, 1), (77, 2), (78, 3), (79, 4), (80, 5), (81, 6), (82, 7), (83, 8), (86, 11), (87, 12)] none (by kernel_rfl) (by kernel_rfl) (by kernel_rfl) (by kernel_rfl) rfl (by decide) (by decide) (fun _ => ExtT.refl _)
        · intro xs w hw hp K hK
          go_simp
          exact hK
        -- operation 10
        apply lexi_eq hsz [(9, true)] [(75, 0), (76, 1), (77, 2), (78, 3), (79, 4), (80, 5), (81, 6), (82, 7), (83, 8), (84, 9), (87, 12)] none (by kernel_rfl) (by kernel_rfl) (by kernel_rfl) (by kernel_rfl) rfl (by decide) (by decide) (fun _ => ExtT.refl _)
        · intro xs w hw hp K hK
          simp only [holdsL, List.nil_append, List.cons_append, List.getD_cons_succ, List.getD_cons_zero, if_true, and_true] at hp
          obtain ⟨-, x1, x2, x3, x4, x5, -⟩ := HX.out w hw.undrew
          go_simp
          exact hK
        -- operation 11
        apply lexi_b hsz [(6, true), (8, true), (10, true)] [(75, 0), (76, 1), (77, 2), (78, 3), (79, 4), (80, 5), (81, 6), (82, 7), (83, 8), (84, 9), (85, 10)] none (by kernel_rfl) (by kernel_rfl) (by kernel_rfl) (by kernel_rfl) rfl (by decide)
        · intro xs w b9 hw hin hp K hK
          simp only [holdsL, List.nil_append, List.cons_append, List.getD_cons_succ, List.getD_cons_zero, if_true, and_true] at hp
          go_simp
          refine (twoB_take (S1 := if b9 then R.1 else S) (S2 := S) hin hw.size HGS.out (by omega) who n).mono ?_; rintro e w' ⟨rfl, h2, h3⟩; rw [← HR.out] at h2 ⊢; exact ⟨_, rfl, hK w' h3 h2⟩
        intro xs w hw hin hp
        have ha0 := HA0.out
        clear HA0 hsz s3 s4 s6
        simp only [holdsL, List.nil_append, List.cons_append, List.getD_cons_succ, List.getD_cons_zero, if_true, and_true] at hp
        have h5 := hp.2.2.2.2.2.1
        have h11 := hp.2.2.2.2.2.2.2.2.2.2.2
        clear hp
        subst ha0
        simp only [putAll, h5, h11]
        obtain ⟨u, rfl⟩ : ∃ u, u = w := ⟨_, rfl⟩
        have HXe := keep hw.undrew
        have HTu := keep (show TwoT (fun _ => False) (fun _ => False) w_.heap.size tb tr (stA ps (k + 1)) (stA ps (k + 1)) u by rw [HSc.out, does_1, ← HR.out]; exact TwoT.wide hin (fun j hj => .inr (hAw j hj)) (fun j hj => .inr (hBw j hj)) HN1.out)
        have HXu := keep (show Blk u wr.heap.size 30 [.int .i64 1, .int .i64 who, .int .i64 n, .bool flag, .int .i64 next, .slice s1 act.length s2] from blk_keeps HX1.out (HXe.out.block _ HX1.out.lt hxA hxB))
        have HBu := keep (HB1.out.trans (HXe.out.below hAw hBw HN1.out))
        clear hw hin
        go_frame
        go_upto_region 27 with fail
        have hG' := HGd.out (k + 1) hlt
        have HRd := keep (HTu.out.rd hG' (by have := HN.out; omega))
        have HDd := keep (HTu.out.dd hG' (by have := HN.out; omega))
        have HAc := keep (fun x (hx : x ∈ snapsT (stA ps (k + 1))) => (show (x.2.length : Int) ≤ 17592186044416 from by
          obtain ⟨y, hy, rfl⟩ := List.mem_map.1 hx
          exact hG'.acts y hy))
        have HSl := keep (show (stA ps (k + 1)).length ≤ 2199023255552 by have := HN.out; have := hG'.len; omega)
        have HTend := keep (fun u' (hu : Grow u u') => (show PlRel ps tb tr w_ (.int .i64 ((k + 1 : Nat) : Int)) u' from ⟨k + 1, hlt, rfl, keep (HTu.out.fits hu), keep (HBu.out.trans (hu.mono HBu.out.size))⟩))
        have hoft := fun (t : Tn) (ht : findT who (stA ps (k + 1)) = some t) => hG'.acts _ (findT_mem ht)
        obtain ⟨o, ho⟩ : ∃ o, o = findT who (stA ps (k + 1)) := ⟨_, rfl⟩
        have hof := HRd.out.of who HW.out
        have hod := HDd.out.of who
        rw [← ho] at hof hod
        unfold OfS at hof
        unfold DofPost at hod
        have hta : ((o.getD tnZ).act.length : Int) ≤ 17592186044416 := by
          cases o with
          | none => simp [tnZ]
          | some t => exact hoft t ho.symm
        have hqq : (o.isSome != o.isSome) = false := by simp
        generalize o.isSome = ok at *
        generalize o.getD tnZ = t at *
        generalize stA ps (k + 1) = S' at *
        have HOf := keep hof
        have HOd := keep hod
        have HTa := keep hta
        clear hof hod hta ho hoft hG' HTu
        obtain ⟨x0, x1, x2, x3, x4, x5, -⟩ := six_of HXu.out
        go_upto_region 28 with (go_at_call 10; refine (HOf.out u (Below.refl _ _)).mono ?_; rintro e w7 ⟨av, rfl, hrow7, hb7⟩; obtain ⟨a7, c7, rfl⟩ := row_sl hrow7.1.weak; have HR7 := keep hrow7; have HG7 := keep hb7; clear hrow7 hb7; unfold tnV)
        obtain ⟨w8, hw8⟩ : ∃ w8, w8 = w7.alloc (.cells #[.int .i64 t.next, .slice a7 t.act.length c7, .int .i64 t.xid, .int .i64 t.first, .int .i64 t.last, .int .i64 t.undoes] 32) := ⟨_, rfl⟩
        have hg8 : Grow w7 w8 := by subst hw8; exact (Grow.refl w7).alloc _
        have HX8 := keep (show Blk w8 w7.heap.size 32 [.int .i64 t.next, .slice a7 t.act.length c7, .int .i64 t.xid, .int .i64 t.first, .int .i64 t.last, .int .i64 t.undoes] from by subst hw8; exact Blk.new w7 _ [_, _, _, _, _, _])
        rw [← hw8]
        have HG8 := keep (Grow.trans HG7.out hg8)
        have HR8 := keep (HR7.out.keeps fun j _ hl => hg8.block j hl)
        clear hw8 hg8 x0 x1 x2 x3 x4 x5
        obtain ⟨x0, x1, x2, x3, x4, x5, -⟩ := six_of (HXu.out.fits HG8.out)
        go_upto_region 29 with (go_at_call 24; refine (HOd.out w8 HG8.out).mono ?_; rintro e w9 ⟨av2, rfl, hrow9, hb9⟩; obtain ⟨a9, c9, rfl⟩ := row_sl hrow9; have HR9 := keep hrow9; have HG89 := keep hb9; clear hrow9 hb9; unfold tnV)
        obtain ⟨wa, hwa⟩ : ∃ wa, wa = w9.alloc (.cells #[.int .i64 t.next, .slice a9 t.act.length c9, .int .i64 t.xid, .int .i64 t.first, .int .i64 t.last, .int .i64 t.undoes] 32) := ⟨_, rfl⟩
        have hga : Grow w9 wa := by subst hwa; exact (Grow.refl w9).alloc _
        have HXa := keep (show Blk wa w9.heap.size 32 [.int .i64 t.next, .slice a9 t.act.length c9, .int .i64 t.xid, .int .i64 t.first, .int .i64 t.last, .int .i64 t.undoes] from by subst hwa; exact Blk.new w9 _ [_, _, _, _, _, _])
        rw [← hwa]
        have HG8a := keep (Grow.trans HG89.out hga)
        have HGa := keep (Grow.trans HG8.out HG8a.out)
        have HRa := keep (HR8.out.keeps fun j _ hl => HG8a.out.block j hl)
        have HI7 := keep (show Ints wa (.slice a7 t.act.length c7) t.act from HRa.out.1.weak)
        have HI9 := keep (show Ints wa (.slice a9 t.act.length c9) t.act from Row.fits HR9.out hga)
        clear hwa hga x0 x1 x2 x3 x4 x5
        obtain ⟨x0, x1, x2, x3, x4, x5, -⟩ := six_of (HX8.out.fits HG8a.out)
        obtain ⟨y0, y1, y2, y3, y4, y5, -⟩ := six_of HXa.out
        go_wp2_with (first
          | (go_at_call 23; refine (same_eq t _ _ wa HI7.out HI9.out HTa.out).mono ?_; rintro e wb ⟨rfl, hb⟩; have HGab := keep hb; clear hb)
          | (go_at_call 25; refine (same_law S' tb tr wb (HRd.out.fits (Grow.trans HGa.out HGab.out)) (HDd.out.fits (Grow.trans HGa.out HGab.out)) HSl.out HAc.out).mono ?_; rintro e wc ⟨rfl, hb⟩; have HGac := keep (Grow.trans HGab.out hb); clear hb))
        have HGc := keep (Grow.trans HGa.out HGac.out)
        have HRc := keep (HRa.out.keeps fun j _ hl => HGac.out.block j hl)
        have HX14 := keep (HX8.out.fits (Grow.trans HG8a.out HGac.out))
        have HPut := keep (putOk_row HRc.out)
        have hrb : ∃ rb : Option Nat, (∀ g off, a7 = some ⟨g, off, none⟩ → t.act.length ≠ 0 → rb = some g) ∧ ∀ g, rb = some g → u.heap.size ≤ g ∧ g < w7.heap.size := by
          rcases HR7.out.1.weak with ⟨h0, h1, -⟩ | ⟨c, off, cap, hv, hc⟩
          · exact ⟨none, fun _ _ _ h => absurd h0 h, fun g h => by cases h⟩
          · by_cases h0 : t.act = []
            · exact ⟨none, fun _ _ _ h => absurd (by rw [h0]; rfl) h, fun g h => by cases h⟩
            · have h1 := (HR7.out.2 c off _ cap hv h0).1
              have h2 := hc 0 (by simpa using List.length_pos_iff.2 h0)
              simp only [Value.slice.injEq] at hv
              refine ⟨some c, fun g off' e _ => by rw [hv.1] at e; cases e; rfl, fun g h => by cases h; exact ⟨h1, World.block_lt_of_cell? w7 _ h2⟩⟩
        obtain ⟨rb, hrb1, hrb2⟩ := hrb
        have HRb1 := keep hrb1
        have HRb2 := keep hrb2
        have HForm := keep (show t.act.length = 0 ∨ ∃ g off, a7 = some ⟨g, off, none⟩ by
          rcases HR7.out.1.weak with ⟨h0, -, -⟩ | ⟨c, off, cap, hv, -⟩
          · exact .inl h0
          · simp only [Value.slice.injEq] at hv
            exact .inr ⟨c, off, hv.1⟩)
        have HNe := keep (show some w7.heap.size ≠ rb by rintro e; have := (hrb2 _ e.symm).2; omega)
        clear hrb1 hrb2 x0 x1 x2 x3 x4 x5 y0 y1 y2 y3 y4 y5
        have hta := HTa.out
        go_loopw [18] (fun i wr => PutRel wc (.slice a7 t.act.length c7) t.act.length t.act.length rb i wr) (fun i _ => t.act.length - (intOf i).toNat)
        case atStart => exact show PutRel wc _ _ _ _ _ _ from ⟨0, Nat.zero_le _, rfl, keep ⟨rfl, rfl, rfl, Nat.le_refl _, fun _ _ _ => rfl⟩, HPut⟩
        case round =>
          obtain ⟨j, hjl, rfl, HGr, HPt⟩ := hrel
          have hx14 : Blk wr w7.heap.size 32 [.int .i64 t.next, .slice a7 t.act.length c7, .int .i64 t.xid, .int .i64 t.first, .int .i64 t.last, .int .i64 t.undoes] := blk_keeps HX14.out (HGr.out.block _ HX14.out.lt HNe.out)
          obtain ⟨-, x1, -⟩ := six_of hx14
          by_cases hltj : j < t.act.length
          · have hfm : ∃ g off, a7 = some ⟨g, off, none⟩ := HForm.out.elim (fun h => by omega) id
            obtain ⟨g, off, rfl⟩ := hfm
            have hrb := HRb1.out g off rfl (by omega)
            subst hrb
            obtain ⟨⟨z, hz⟩, hfz⟩ := HPt.out g off _ _ rfl j hltj
            have HGr2 := keep (grownBy_putB HGr.out (off + j) (.int .i64 (-8)))
            have HPt2 := keep (HPt.out.put ⟨g, off + j, none⟩ (.int .i64 (-8)))
            clear hx14
            go_wp2_with fail
            go_roundw
            case rel => exact show PutRel wc _ _ _ _ _ _ from ⟨j + 1, by omega, by first | go_num | simp, HGr2, HPt2⟩
            case measure => simp [intOf]; omega
          · have hgu : Grow u wr := Below.grown HGc.out HGr.out HGc.out.size (fun g e => (HRb2.out g e).1)
            have HGu := keep hgu
            clear hgu hx14
            go_upto_region 36 with (go_at_call 26; refine (HRd.out.snp wr HGu.out).mono ?_; rintro e wd ⟨ad, cd, rfl, hs, hb⟩; have HSd := keep hs; have HGd2 := keep hb; clear hs hb)
            have HGd3 := keep (Grow.trans HGu.out HGd2.out)
            have hso : ∃ xs, wd.ownsRow wr.heap.size 28 2 (.slice ad S'.length cd) S'.length xs := by
              obtain ⟨qs, h1, -⟩ := HSd.out
              rw [snapsT_len] at h1
              exact ⟨_, h1⟩
            obtain ⟨xs9, hso⟩ := hso
            have HSo := keep hso
            have HPs := keep (putOk_own hso)
            have HFs := keep (show S'.length = 0 ∨ ∃ g, ad = some ⟨g, 0, none⟩ by
              rcases hso.2 with ⟨_, h0⟩ | ⟨g, cap, cur, hv, -⟩
              · exact .inl h0
              · simp only [Value.slice.injEq] at hv
                exact .inr ⟨g, hv.1⟩)
            clear hso x1
            have HSl2 := HSl.out
            have hlp := HN.out
            go_wp2_with fail
            go_loopw [20] (fun i wr => PutRel wd (.slice ad S'.length cd) (S'.length * 2) S'.length (Value.slice ad S'.length cd).ownBlock i wr) (fun i _ => S'.length - (intOf i).toNat)
            case atStart => exact show PutRel wd _ _ _ _ _ _ from ⟨0, Nat.zero_le _, rfl, keep ⟨rfl, rfl, rfl, Nat.le_refl _, fun _ _ _ => rfl⟩, HPs⟩
            case round =>
              obtain ⟨j2, hjl2, rfl, HGr2, HPt2⟩ := hrel
              by_cases hltj2 : j2 < S'.length
              · have hfm : ∃ g, ad = some ⟨g, 0, none⟩ := HFs.out.elim (fun h => by omega) id
                obtain ⟨g, rfl⟩ := hfm
                obtain ⟨⟨z, hz⟩, hfz⟩ := HPt2.out g 0 _ _ rfl (j2 * 2) (by omega)
                simp only [Nat.zero_add] at hz hfz
                have HGr3 := keep (grownBy_putB HGr2.out (j2 * 2) (.int .i64 (-9)))
                have HPt3 := keep (HPt2.out.put ⟨g, j2 * 2, none⟩ (.int .i64 (-9)))
                go_wp2_with fail
                go_roundw
                case rel => exact show PutRel wd _ _ _ _ _ _ from ⟨j2 + 1, by omega, by first | go_num | simp, HGr3, HPt3⟩
                case measure => simp [intOf]; omega
              · have hgu2 : Grow u wr := Below.grown HGd3.out HGr2.out HGd3.out.size (fun g e => Nat.le_trans HGu.out.size (HSo.out.lt g e).1)
                have HGu2 := keep hgu2
                clear hgu2
                go_wp2_with (go_at_call 25; refine (same_law S' tb tr wr (HRd.out.fits HGu2.out) (HDd.out.fits HGu2.out) HSl.out HAc.out).mono ?_; rintro e wz ⟨rfl, hb⟩; have HGz := keep (Grow.trans HGu2.out hb); clear hb)
                go_roundw
                case rel => exact (show (Value.int .i64 ((k : Int) + 1)) = .int .i64 ((k + 1 : Nat) : Int) by first | rfl | simp) ▸ HTend.out _ HGz.out
                case measure => simp [intOf]; omega
      · by_cases h2 : ask = 2
        · subst h2
          obtain ⟨R, hR⟩ : ∃ R, R = loggedT who n flag S := ⟨_, rfl⟩
          have HR := keep hR
          have HX := keep (fun (u : World) (hu : ExtT A B w1.heap.size w1 u) => six_of (blk_keeps HX1.out (hu.block _ HX1.out.lt hxA hxB)))
          obtain ⟨x0, x1, x2, x3, x4, x5, -⟩ := six_of HX1.out
          have hlen := HN.out
          clear hR
          go_upto_region 22 with fail
          clear x0 x1 x2 x3 x4 x5
          refine wp_region_i_named (by kernel_rfl) 16 7 15 (by decide) (by decide) (fun bA bB w => TwoT A B w1.heap.size tb tr (if bA then R.1 else S) (if bB then R.1 else S) w) (ExtT A B w1.heap.size) (ExtT.refl _) (TwoT.drew (HT1.out _)) (fun _ _ _ => ExtT.trans) (by kernel_rfl) [(90, 0), (91, 1), (92, 2), (93, 3), (94, 4), (95, 5), (96, 6), (97, 7), (98, 8), (99, 9), (100, 10), (101, 11), (102, 12), (103, 13), (104, 14), (105, 15)] (by kernel_rfl) [(0, true), (1, true), (2, true), (3, true), (4, true), (5, true), (6, true), (7, true), (8, true), (9, true), (10, true), (11, true), (12, true), (13, true), (14, true), (15, true)] (by kernel_rfl) rfl rfl ?_
          intro a0 ha0
          have hsz : a0.tmps.size = 194 := (size_at ha0).trans rfl
          have s3 := slot_at ha0 3 rfl
          have s4 := slot_at ha0 4 rfl
          have s6 := slot_at ha0 6 rfl
          have HA0 := keep ha0
          clear ha0
          -- operation 0
          apply lexi_eq hsz [] [(91, 1), (92, 2), (93, 3), (94, 4), (95, 5), (96, 6), (98, 8), (99, 9), (100, 10), (101, 11), (102, 12), (103, 13), (104, 14), (105, 15), (106, 16)] none (by kernel_rfl) (by kernel_rfl) (by kernel_rfl) (by kernel_rfl) rfl (by decide) (by decide) (fun _ => ExtT.refl _)
          · intro xs w hw hp K hK
            go_simp
            exact hK
          -- operation 1
          apply lexi_eq hsz [] [(90, 0), (93, 3), (94, 4), (95, 5), (96, 6), (97, 7), (98, 8), (99, 9), (100, 10), (101, 11), (102, 12), (103, 13), (104, 14), (105, 15), (106, 16)] none (by kernel_rfl) (by kernel_rfl) (by kernel_rfl) (by kernel_rfl) rfl (by decide) (by decide) (fun _ => ExtT.refl _)
          · intro xs w hw hp K hK
            go_simp
            exact hK
          -- operation 2
          apply lexi_eq hsz [(1, true)] [(90, 0), (91, 1), (93, 3), (94, 4), (95, 5), (96, 6), (98, 8), (99, 9), (100, 10), (101, 11), (102, 12), (103, 13), (104, 14), (105, 15), (106, 16)] none (by kernel_rfl) (by kernel_rfl) (by kernel_rfl) (by kernel_rfl) rfl (by decide) (by decide) (fun _ => ExtT.refl _)
          · intro xs w hw hp K hK
            simp only [holdsL, List.nil_append, List.cons_append, List.getD_cons_succ, List.getD_cons_zero, if_true, and_true] at hp
            obtain ⟨-, x1, x2, x3, x4, x5, -⟩ := HX.out w hw.undrew
            go_simp
            exact hK
          -- operation 3
          apply lexi_eq hsz [] [(90, 0), (91, 1), (92, 2), (95, 5), (96, 6), (97, 7), (98, 8), (99, 9), (100, 10), (101, 11), (102, 12), (103, 13), (104, 14), (105, 15), (106, 16)] none (by kernel_rfl) (by kernel_rfl) (by kernel_rfl) (by kernel_rfl) rfl (by decide) (by decide) (fun _ => ExtT.refl _)
          · intro xs w hw hp K hK
            go_simp
            exact hK
          -- operation 4
          apply lexi_eq hsz [(3, true)] [(90, 0), (91, 1), (92, 2), (93, 3), (95, 5), (96, 6), (98, 8), (99, 9), (100, 10), (101, 11), (102, 12), (103, 13), (104, 14), (105, 15), (106, 16)] none (by kernel_rfl) (by kernel_rfl) (by kernel_rfl) (by kernel_rfl) rfl (by decide) (by decide) (fun _ => ExtT.refl _)
          · intro xs w hw hp K hK
            simp only [holdsL, List.nil_append, List.cons_append, List.getD_cons_succ, List.getD_cons_zero, if_true, and_true] at hp
            obtain ⟨-, x1, x2, x3, x4, x5, -⟩ := HX.out w hw.undrew
            go_simp
            exact hK
          -- operation 5
          apply lexi_eq hsz [] [(90, 0), (91, 1), (92, 2), (93, 3), (94, 4), (97, 7), (98, 8), (99, 9), (100, 10), (101, 11), (102, 12), (103, 13), (104, 14), (105, 15), (106, 16)] none (by kernel_rfl) (by kernel_rfl) (by kernel_rfl) (by kernel_rfl) rfl (by decide) (by decide) (fun _ => ExtT.refl _)
          · intro xs w hw hp K hK
            go_simp
            exact hK
          -- operation 6
          apply lexi_eq hsz [(5, true)] [(90, 0), (91, 1), (92, 2), (93, 3), (94, 4), (95, 5), (98, 8), (99, 9), (100, 10), (101, 11), (102, 12), (103, 13), (104, 14), (105, 15), (106, 16)] none (by kernel_rfl) (by kernel_rfl) (by kernel_rfl) (by kernel_rfl) rfl (by decide) (by decide) (fun _ => ExtT.refl _)
          · intro xs w hw hp K hK
            simp only [holdsL, List.nil_append, List.cons_append, List.getD_cons_succ, List.getD_cons_zero, if_true, and_true] at hp
            obtain ⟨-, x1, x2, x3, x4, x5, -⟩ := HX.out w hw.undrew
            go_simp
            exact hK
          -- operation 7
          apply lexi_a hsz [(0, true), (2, true), (4, true), (6, true)] [(90, 0), (91, 1), (92, 2), (93, 3), (94, 4), (95, 5), (96, 6), (98, 8), (99, 9), (100, 10), (101, 11), (102, 12), (103, 13), (104, 14)] none (by kernel_rfl) (by kernel_rfl) (by kernel_rfl) (by kernel_rfl) rfl (by decide)
          · intro xs w b9 hw hin hp K hK
            simp only [holdsL, List.nil_append, List.cons_append, List.getD_cons_succ, List.getD_cons_zero, if_true, and_true] at hp
            go_simp
            refine (twoA_logged (S1 := S) (S2 := if b9 then R.1 else S) hin hw.size HGS.out (by omega) who n flag HW.out).mono ?_; rintro e w' ⟨rfl, h2, h3⟩; rw [← HR.out] at h2 ⊢; exact ⟨_, rfl, hK w' h3 h2⟩
          -- operation 8
          apply lexi_eq hsz [] [(90, 0), (91, 1), (92, 2), (93, 3), (94, 4), (95, 5), (96, 6), (97, 7), (99, 9), (100, 10), (101, 11), (102, 12), (103, 13), (104, 14), (106, 16)] none (by kernel_rfl) (by kernel_rfl) (by kernel_rfl) (by kernel_rfl) rfl (by decide) (by decide) (fun _ => ExtT.refl _)
          · intro xs w hw hp K hK
            go_simp
            exact hK
          -- operation 9
          apply lexi_eq hsz [] [(90, 0), (91, 1), (92, 2), (93, 3), (94, 4), (95, 5), (96, 6), (97, 7), (98, 8), (101, 11), (102, 12), (103, 13), (104, 14), (105, 15), (106, 16)] none (by kernel_rfl) (by kernel_rfl) (by kernel_rfl) (by kernel_rfl) rfl (by decide) (by decide) (fun _ => ExtT.refl _)
          · intro xs w hw hp K hK
            go_simp
            exact hK
          -- operation 10
          apply lexi_eq hsz [(9, true)] [(90, 0), (91, 1), (92, 2), (93, 3), (94, 4), (95, 5), (96, 6), (97, 7), (98, 8), (99, 9), (101, 11), (102, 12), (103, 13), (104, 14), (106, 16)] none (by kernel_rfl) (by kernel_rfl) (by kernel_rfl) (by kernel_rfl) rfl (by decide) (by decide) (fun _ => ExtT.refl _)
          · intro xs w hw hp K hK
            simp only [holdsL, List.nil_append, List.cons_append, List.getD_cons_succ, List.getD_cons_zero, if_true, and_true] at hp
            obtain ⟨-, x1, x2, x3, x4, x5, -⟩ := HX.out w hw.undrew
            go_simp
            exact hK
          -- operation 11
          apply lexi_eq hsz [] [(90, 0), (91, 1), (92, 2), (93, 3), (94, 4), (95, 5), (96, 6), (97, 7), (98, 8), (99, 9), (100, 10), (103, 13), (104, 14), (105, 15), (106, 16)] none (by kernel_rfl) (by kernel_rfl) (by kernel_rfl) (by kernel_rfl) rfl (by decide) (by decide) (fun _ => ExtT.refl _)
          · intro xs w hw hp K hK
            go_simp
            exact hK
          -- operation 12
          apply lexi_eq hsz [(11, true)] [(90, 0), (91, 1), (92, 2), (93, 3), (94, 4), (95, 5), (96, 6), (97, 7), (98, 8), (99, 9), (100, 10), (101, 11), (103, 13), (104, 14), (106, 16)] none (by kernel_rfl) (by kernel_rfl) (by kernel_rfl) (by kernel_rfl) rfl (by decide) (by decide) (fun _ => ExtT.refl _)
          · intro xs w hw hp K hK
            simp only [holdsL, List.nil_append, List.cons_append, List.getD_cons_succ, List.getD_cons_zero, if_true, and_true] at hp
            obtain ⟨-, x1, x2, x3, x4, x5, -⟩ := HX.out w hw.undrew
            go_simp
            exact hK
          -- operation 13
          apply lexi_eq hsz [] [(90, 0), (91, 1), (92, 2), (93, 3), (94, 4), (95, 5), (96, 6), (97, 7), (98, 8), (99, 9), (100, 10), (101, 11), (102, 12), (105, 15), (106, 16)] none (by kernel_rfl) (by kernel_rfl) (by kernel_rfl) (by kernel_rfl) rfl (by decide) (by decide) (fun _ => ExtT.refl _)
          · intro xs w hw hp K hK
            go_simp
            exact hK
          -- operation 14
          apply lexi_eq hsz [(13, true)] [(90, 0), (91, 1), (92, 2), (93, 3), (94, 4), (95, 5), (96, 6), (97, 7), (98, 8), (99, 9), (100, 10), (101, 11), (102, 12), (103, 13), (106, 16)] none (by kernel_rfl) (by kernel_rfl) (by kernel_rfl) (by kernel_rfl) rfl (by decide) (by decide) (fun _ => ExtT.refl _)
          · intro xs w hw hp K hK
            simp only [holdsL, List.nil_append, List.cons_append, List.getD_cons_succ, List.getD_cons_zero, if_true, and_true] at hp
            obtain ⟨-, x1, x2, x3, x4, x5, -⟩ := HX.out w hw.undrew
            go_simp
            exact hK
          -- operation 15
          apply lexi_b hsz [(8, true), (10, true), (12, true), (14, true)] [(90, 0), (91, 1), (92, 2), (93, 3), (94, 4), (95, 5), (96, 6), (97, 7), (98, 8), (99, 9), (100, 10), (101, 11), (102, 12), (103, 13), (104, 14)] none (by kernel_rfl) (by kernel_rfl) (by kernel_rfl) (by kernel_rfl) rfl (by decide)
          · intro xs w b9 hw hin hp K hK
            simp only [holdsL, List.nil_append, List.cons_append, List.getD_cons_succ, List.getD_cons_zero, if_true, and_true] at hp
            go_simp
            refine (twoB_logged (S1 := if b9 then R.1 else S) (S2 := S) hin hw.size HGS.out (by omega) who n flag).mono ?_; rintro e w' ⟨rfl, h2, h3⟩; rw [← HR.out] at h2 ⊢; exact ⟨_, rfl, hK w' h3 h2⟩
          intro xs w hw hin hp
          have ha0 := HA0.out
          clear HA0 hsz s3 s4 s6
          simp only [holdsL, List.nil_append, List.cons_append, List.getD_cons_succ, List.getD_cons_zero, if_true, and_true] at hp
          have h7 := hp.2.2.2.2.2.2.2.1
          have h15 := hp.2.2.2.2.2.2.2.2.2.2.2.2.2.2.2
          clear hp
          subst ha0
          simp only [putAll, h7, h15]
          obtain ⟨u, rfl⟩ : ∃ u, u = w := ⟨_, rfl⟩
          have HXe := keep hw.undrew
          have HTu := keep (show TwoT (fun _ => False) (fun _ => False) w_.heap.size tb tr (stA ps (k + 1)) (stA ps (k + 1)) u by rw [HSc.out, does_2, ← HR.out]; exact TwoT.wide hin (fun j hj => .inr (hAw j hj)) (fun j hj => .inr (hBw j hj)) HN1.out)
          have HXu := keep (show Blk u wr.heap.size 30 [.int .i64 2, .int .i64 who, .int .i64 n, .bool flag, .int .i64 next, .slice s1 act.length s2] from blk_keeps HX1.out (HXe.out.block _ HX1.out.lt hxA hxB))
          have HBu := keep (HB1.out.trans (HXe.out.below hAw hBw HN1.out))
          clear hw hin
          go_frame
          go_upto_region 27 with fail
          have hG' := HGd.out (k + 1) hlt
          have HRd := keep (HTu.out.rd hG' (by have := HN.out; omega))
          have HDd := keep (HTu.out.dd hG' (by have := HN.out; omega))
          have HAc := keep (fun x (hx : x ∈ snapsT (stA ps (k + 1))) => (show (x.2.length : Int) ≤ 17592186044416 from by
            obtain ⟨y, hy, rfl⟩ := List.mem_map.1 hx
            exact hG'.acts y hy))
          have HSl := keep (show (stA ps (k + 1)).length ≤ 2199023255552 by have := HN.out; have := hG'.len; omega)
          have HTend := keep (fun u' (hu : Grow u u') => (show PlRel ps tb tr w_ (.int .i64 ((k + 1 : Nat) : Int)) u' from ⟨k + 1, hlt, rfl, keep (HTu.out.fits hu), keep (HBu.out.trans (hu.mono HBu.out.size))⟩))
          have hoft := fun (t : Tn) (ht : findT who (stA ps (k + 1)) = some t) => hG'.acts _ (findT_mem ht)
          obtain ⟨o, ho⟩ : ∃ o, o = findT who (stA ps (k + 1)) := ⟨_, rfl⟩
          have hof := HRd.out.of who HW.out
          have hod := HDd.out.of who
          rw [← ho] at hof hod
          unfold OfS at hof
          unfold DofPost at hod
          have hta : ((o.getD tnZ).act.length : Int) ≤ 17592186044416 := by
            cases o with
            | none => simp [tnZ]
            | some t => exact hoft t ho.symm
          have hqq : (o.isSome != o.isSome) = false := by simp
          generalize o.isSome = ok at *
          generalize o.getD tnZ = t at *
          generalize stA ps (k + 1) = S' at *
          have HOf := keep hof
          have HOd := keep hod
          have HTa := keep hta
          clear hof hod hta ho hoft hG' HTu
          obtain ⟨x0, x1, x2, x3, x4, x5, -⟩ := six_of HXu.out
          go_upto_region 28 with (go_at_call 10; refine (HOf.out u (Below.refl _ _)).mono ?_; rintro e w7 ⟨av, rfl, hrow7, hb7⟩; obtain ⟨a7, c7, rfl⟩ := row_sl hrow7.1.weak; have HR7 := keep hrow7; have HG7 := keep hb7; clear hrow7 hb7; unfold tnV)
          obtain ⟨w8, hw8⟩ : ∃ w8, w8 = w7.alloc (.cells #[.int .i64 t.next, .slice a7 t.act.length c7, .int .i64 t.xid, .int .i64 t.first, .int .i64 t.last, .int .i64 t.undoes] 32) := ⟨_, rfl⟩
          have hg8 : Grow w7 w8 := by subst hw8; exact (Grow.refl w7).alloc _
          have HX8 := keep (show Blk w8 w7.heap.size 32 [.int .i64 t.next, .slice a7 t.act.length c7, .int .i64 t.xid, .int .i64 t.first, .int .i64 t.last, .int .i64 t.undoes] from by subst hw8; exact Blk.new w7 _ [_, _, _, _, _, _])
          rw [← hw8]
          have HG8 := keep (Grow.trans HG7.out hg8)
          have HR8 := keep (HR7.out.keeps fun j _ hl => hg8.block j hl)
          clear hw8 hg8 x0 x1 x2 x3 x4 x5
          obtain ⟨x0, x1, x2, x3, x4, x5, -⟩ := six_of (HXu.out.fits HG8.out)
          go_upto_region 29 with (go_at_call 24; refine (HOd.out w8 HG8.out).mono ?_; rintro e w9 ⟨av2, rfl, hrow9, hb9⟩; obtain ⟨a9, c9, rfl⟩ := row_sl hrow9; have HR9 := keep hrow9; have HG89 := keep hb9; clear hrow9 hb9; unfold tnV)
          obtain ⟨wa, hwa⟩ : ∃ wa, wa = w9.alloc (.cells #[.int .i64 t.next, .slice a9 t.act.length c9, .int .i64 t.xid, .int .i64 t.first, .int .i64 t.last, .int .i64 t.undoes] 32) := ⟨_, rfl⟩
          have hga : Grow w9 wa := by subst hwa; exact (Grow.refl w9).alloc _
          have HXa := keep (show Blk wa w9.heap.size 32 [.int .i64 t.next, .slice a9 t.act.length c9, .int .i64 t.xid, .int .i64 t.first, .int .i64 t.last, .int .i64 t.undoes] from by subst hwa; exact Blk.new w9 _ [_, _, _, _, _, _])
          rw [← hwa]
          have HG8a := keep (Grow.trans HG89.out hga)
          have HGa := keep (Grow.trans HG8.out HG8a.out)
          have HRa := keep (HR8.out.keeps fun j _ hl => HG8a.out.block j hl)
          have HI7 := keep (show Ints wa (.slice a7 t.act.length c7) t.act from HRa.out.1.weak)
          have HI9 := keep (show Ints wa (.slice a9 t.act.length c9) t.act from Row.fits HR9.out hga)
          clear hwa hga x0 x1 x2 x3 x4 x5
          obtain ⟨x0, x1, x2, x3, x4, x5, -⟩ := six_of (HX8.out.fits HG8a.out)
          obtain ⟨y0, y1, y2, y3, y4, y5, -⟩ := six_of HXa.out
          go_wp2_with (first
            | (go_at_call 23; refine (same_eq t _ _ wa HI7.out HI9.out HTa.out).mono ?_; rintro e wb ⟨rfl, hb⟩; have HGab := keep hb; clear hb)
            | (go_at_call 25; refine (same_law S' tb tr wb (HRd.out.fits (Grow.trans HGa.out HGab.out)) (HDd.out.fits (Grow.trans HGa.out HGab.out)) HSl.out HAc.out).mono ?_; rintro e wc ⟨rfl, hb⟩; have HGac := keep (Grow.trans HGab.out hb); clear hb))
          have HGc := keep (Grow.trans HGa.out HGac.out)
          have HRc := keep (HRa.out.keeps fun j _ hl => HGac.out.block j hl)
          have HX14 := keep (HX8.out.fits (Grow.trans HG8a.out HGac.out))
          have HPut := keep (putOk_row HRc.out)
          have hrb : ∃ rb : Option Nat, (∀ g off, a7 = some ⟨g, off, none⟩ → t.act.length ≠ 0 → rb = some g) ∧ ∀ g, rb = some g → u.heap.size ≤ g ∧ g < w7.heap.size := by
            rcases HR7.out.1.weak with ⟨h0, h1, -⟩ | ⟨c, off, cap, hv, hc⟩
            · exact ⟨none, fun _ _ _ h => absurd h0 h, fun g h => by cases h⟩
            · by_cases h0 : t.act = []
              · exact ⟨none, fun _ _ _ h => absurd (by rw [h0]; rfl) h, fun g h => by cases h⟩
              · have h1 := (HR7.out.2 c off _ cap hv h0).1
                have h2 := hc 0 (by simpa using List.length_pos_iff.2 h0)
                simp only [Value.slice.injEq] at hv
                refine ⟨some c, fun g off' e _ => by rw [hv.1] at e; cases e; rfl, fun g h => by cases h; exact ⟨h1, World.block_lt_of_cell? w7 _ h2⟩⟩
          obtain ⟨rb, hrb1, hrb2⟩ := hrb
          have HRb1 := keep hrb1
          have HRb2 := keep hrb2
          have HForm := keep (show t.act.length = 0 ∨ ∃ g off, a7 = some ⟨g, off, none⟩ by
            rcases HR7.out.1.weak with ⟨h0, -, -⟩ | ⟨c, off, cap, hv, -⟩
            · exact .inl h0
            · simp only [Value.slice.injEq] at hv
              exact .inr ⟨c, off, hv.1⟩)
          have HNe := keep (show some w7.heap.size ≠ rb by rintro e; have := (hrb2 _ e.symm).2; omega)
          clear hrb1 hrb2 x0 x1 x2 x3 x4 x5 y0 y1 y2 y3 y4 y5
          have hta := HTa.out
          go_loopw [18] (fun i wr => PutRel wc (.slice a7 t.act.length c7) t.act.length t.act.length rb i wr) (fun i _ => t.act.length - (intOf i).toNat)
          case atStart => exact show PutRel wc _ _ _ _ _ _ from ⟨0, Nat.zero_le _, rfl, keep ⟨rfl, rfl, rfl, Nat.le_refl _, fun _ _ _ => rfl⟩, HPut⟩
          case round =>
            obtain ⟨j, hjl, rfl, HGr, HPt⟩ := hrel
            have hx14 : Blk wr w7.heap.size 32 [.int .i64 t.next, .slice a7 t.act.length c7, .int .i64 t.xid, .int .i64 t.first, .int .i64 t.last, .int .i64 t.undoes] := blk_keeps HX14.out (HGr.out.block _ HX14.out.lt HNe.out)
            obtain ⟨-, x1, -⟩ := six_of hx14
            by_cases hltj : j < t.act.length
            · have hfm : ∃ g off, a7 = some ⟨g, off, none⟩ := HForm.out.elim (fun h => by omega) id
              obtain ⟨g, off, rfl⟩ := hfm
              have hrb := HRb1.out g off rfl (by omega)
              subst hrb
              obtain ⟨⟨z, hz⟩, hfz⟩ := HPt.out g off _ _ rfl j hltj
              have HGr2 := keep (grownBy_putB HGr.out (off + j) (.int .i64 (-8)))
              have HPt2 := keep (HPt.out.put ⟨g, off + j, none⟩ (.int .i64 (-8)))
              clear hx14
              go_wp2_with fail
              go_roundw
              case rel => exact show PutRel wc _ _ _ _ _ _ from ⟨j + 1, by omega, by first | go_num | simp, HGr2, HPt2⟩
              case measure => simp [intOf]; omega
            · have hgu : Grow u wr := Below.grown HGc.out HGr.out HGc.out.size (fun g e => (HRb2.out g e).1)
              have HGu := keep hgu
              clear hgu hx14
              go_upto_region 36 with (go_at_call 26; refine (HRd.out.snp wr HGu.out).mono ?_; rintro e wd ⟨ad, cd, rfl, hs, hb⟩; have HSd := keep hs; have HGd2 := keep hb; clear hs hb)
              have HGd3 := keep (Grow.trans HGu.out HGd2.out)
              have hso : ∃ xs, wd.ownsRow wr.heap.size 28 2 (.slice ad S'.length cd) S'.length xs := by
                obtain ⟨qs, h1, -⟩ := HSd.out
                rw [snapsT_len] at h1
                exact ⟨_, h1⟩
              obtain ⟨xs9, hso⟩ := hso
              have HSo := keep hso
              have HPs := keep (putOk_own hso)
              have HFs := keep (show S'.length = 0 ∨ ∃ g, ad = some ⟨g, 0, none⟩ by
                rcases hso.2 with ⟨_, h0⟩ | ⟨g, cap, cur, hv, -⟩
                · exact .inl h0
                · simp only [Value.slice.injEq] at hv
                  exact .inr ⟨g, hv.1⟩)
              clear hso x1
              have HSl2 := HSl.out
              have hlp := HN.out
              go_wp2_with fail
              go_loopw [20] (fun i wr => PutRel wd (.slice ad S'.length cd) (S'.length * 2) S'.length (Value.slice ad S'.length cd).ownBlock i wr) (fun i _ => S'.length - (intOf i).toNat)
              case atStart => exact show PutRel wd _ _ _ _ _ _ from ⟨0, Nat.zero_le _, rfl, keep ⟨rfl, rfl, rfl, Nat.le_refl _, fun _ _ _ => rfl⟩, HPs⟩
              case round =>
                obtain ⟨j2, hjl2, rfl, HGr2, HPt2⟩ := hrel
                by_cases hltj2 : j2 < S'.length
                · have hfm : ∃ g, ad = some ⟨g, 0, none⟩ := HFs.out.elim (fun h => by omega) id
                  obtain ⟨g, rfl⟩ := hfm
                  obtain ⟨⟨z, hz⟩, hfz⟩ := HPt2.out g 0 _ _ rfl (j2 * 2) (by omega)
                  simp only [Nat.zero_add] at hz hfz
                  have HGr3 := keep (grownBy_putB HGr2.out (j2 * 2) (.int .i64 (-9)))
                  have HPt3 := keep (HPt2.out.put ⟨g, j2 * 2, none⟩ (.int .i64 (-9)))
                  go_wp2_with fail
                  go_roundw
                  case rel => exact show PutRel wd _ _ _ _ _ _ from ⟨j2 + 1, by omega, by first | go_num | simp, HGr3, HPt3⟩
                  case measure => simp [intOf]; omega
                · have hgu2 : Grow u wr := Below.grown HGd3.out HGr2.out HGd3.out.size (fun g e => Nat.le_trans HGu.out.size (HSo.out.lt g e).1)
                  have HGu2 := keep hgu2
                  clear hgu2
                  go_wp2_with (go_at_call 25; refine (same_law S' tb tr wr (HRd.out.fits HGu2.out) (HDd.out.fits HGu2.out) HSl.out HAc.out).mono ?_; rintro e wz ⟨rfl, hb⟩; have HGz := keep (Grow.trans HGu2.out hb); clear hb)
                  go_roundw
                  case rel => exact (show (Value.int .i64 ((k : Int) + 1)) = .int .i64 ((k + 1 : Nat) : Int) by first | rfl | simp) ▸ HTend.out _ HGz.out
                  case measure => simp [intOf]; omega
        · by_cases h3 : ask = 3
          · subst h3
            obtain ⟨x0, x1, x2, x3, x4, x5, -⟩ := six_of HX1.out
            obtain ⟨R, hR⟩ : ∃ R, R = endT who S := ⟨_, rfl⟩
            obtain ⟨t0, ht0⟩ : ∃ t0, t0 = (findT who S).getD tnZ := ⟨_, rfl⟩
            have hta0 : (t0.act.length : Int) ≤ 17592186044416 := by
              rw [ht0]
              cases hq : findT who S with
              | none => simp [tnZ]
              | some t => exact HGS.out.acts _ (findT_mem hq)
            have hEA := twoA_end (HT1.out w1.heap.size) HGS.out who HW.out
            have hEB := fun (A' B' : Nat → Prop) (N' : Nat) (S1' : St) (v : World) (h : TwoT A' B' N' tb tr S1' S v) (hN' : N' ≤ v.heap.size) => twoB_end h hN' HGS.out (by have := HN.out; omega) who
            rw [← ht0, ← hR] at hEA
            simp only [← ht0, ← hR] at hEB
            have HEA := keep hEA
            have HEB := keep hEB
            have HR := keep hR
            have HTa0 := keep hta0
            clear hR ht0 hta0 hEA hEB h1 h2
            go_upto_region 25 with (go_at_call 21; refine HEA.out.mono ?_; rintro e w2 ⟨av, A2, B2, rfl, hr2, ht2, hA3, hB3, ho2⟩; obtain ⟨a7, c7, rfl⟩ := row_sl hr2.1.weak; have HR2 := keep hr2; have HT2 := keep ht2; have HA3 := keep hA3; have HB3 := keep hB3; have HO2 := keep ho2; have HZ2 := keep ho2.size; clear hr2 ht2 hA3 hB3 ho2; unfold tnV)
            clear x0 x1 x2 x3 x4 x5
            have hA4 : ∀ j, A2 j → A j ∧ j < w1.heap.size := fun j hj => ⟨(HA3.out j hj).1.elim id (fun h => by have := (HA3.out j hj).2; omega), (HA3.out j hj).2⟩
            have hB4 : ∀ j, B2 j → B j ∧ j < w1.heap.size := fun j hj => ⟨(HB3.out j hj).1.elim id (fun h => by have := (HB3.out j hj).2; omega), (HB3.out j hj).2⟩
            obtain ⟨w3, hw3⟩ : ∃ w3, w3 = w2.alloc (.cells #[.int .i64 t0.next, .slice a7 t0.act.length c7, .int .i64 t0.xid, .int .i64 t0.first, .int .i64 t0.last, .int .i64 t0.undoes] 32) := ⟨_, rfl⟩
            have hg3 : Grow w2 w3 := by subst hw3; exact (Grow.refl w2).alloc _
            have HY3 := keep (show Blk w3 w2.heap.size 32 [.int .i64 t0.next, .slice a7 t0.act.length c7, .int .i64 t0.xid, .int .i64 t0.first, .int .i64 t0.last, .int .i64 t0.undoes] from by subst hw3; exact Blk.new w2 _ [_, _, _, _, _, _])
            rw [← hw3]
            have HT3 := keep (fun M => (HT2.out M).fits hg3)
            have HX3 := keep ((blk_keeps HX1.out (HO2.out.block _ HX1.out.lt (fun h => hxA (hA4 _ h).1))).fits hg3)
            have HZ3 := keep (show w2.heap.size < w3.heap.size from HY3.out.lt)
            have HI3 := keep (show Row w3 3 _ _ _ from Row.fits HR2.out.1.weak hg3)
            have HF3 := keep (show FreshB w1.heap.size (.slice a7 t0.act.length c7) ∨ t0.act = [] from by
              by_cases he : t0.act = []
              · exact .inr he
              · exact .inl (fun c off n cap e => (HR2.out.2 c off n cap e he).1))
            have HBw3 := keep (HB1.out.trans (((HO2.out.mono (fun j hj => hAw j (hA4 j hj).1)).below HN1.out).trans (hg3.mono (Nat.le_trans HN1.out HZ2.out))))
            clear hw3 hg3
            obtain ⟨x0, x1, x2, x3, x4, x5, -⟩ := six_of HX3.out
            go_upto_region 26 with (go_at_call 22; refine (HEB.out A2 B2 w3.heap.size _ w3 (HT3.out _) (Nat.le_refl _)).mono ?_; rintro e w4 ⟨av2, rfl, hi4, ht4, he4⟩; obtain ⟨a9, c9, rfl⟩ := row_sl hi4; have HI4 := keep hi4; have HT4 := keep ht4; have HE4 := keep he4; clear hi4 ht4 he4; unfold tnV)
            clear x0 x1 x2 x3 x4 x5
            obtain ⟨w5, hw5⟩ : ∃ w5, w5 = w4.alloc (.cells #[.int .i64 t0.next, .slice a9 t0.act.length c9, .int .i64 t0.xid, .int .i64 t0.first, .int .i64 t0.last, .int .i64 t0.undoes] 32) := ⟨_, rfl⟩
            have hg5 : Grow w4 w5 := by subst hw5; exact (Grow.refl w4).alloc _
            have HZ5 := keep (show Blk w5 w4.heap.size 32 [.int .i64 t0.next, .slice a9 t0.act.length c9, .int .i64 t0.xid, .int .i64 t0.first, .int .i64 t0.last, .int .i64 t0.undoes] from by subst hw5; exact Blk.new w4 _ [_, _, _, _, _, _])
            rw [← hw5]
            have hnA : ∀ j, w1.heap.size ≤ j → ¬ A2 j := fun j h1 h2 => by have := (hA4 j h2).2; omega
            have hnB : ∀ j, w1.heap.size ≤ j → ¬ B2 j := fun j h1 h2 => by have := (hB4 j h2).2; omega
            have HY5 := keep ((blk_keeps HY3.out (HE4.out.block _ HY3.out.lt (hnA _ HZ2.out) (hnB _ HZ2.out))).fits hg5)
            have HXu0 := keep ((blk_keeps HX3.out (HE4.out.block _ HX3.out.lt (fun h => hxA (hA4 _ h).1) (fun h => hxB (hB4 _ h).1))).fits hg5)
            have HI7 := keep (show Ints w5 (.slice a7 t0.act.length c7) t0.act from by
              rcases HF3.out with hf | he
              · exact Row.fits (Row.ext HI3.out hf (fun j hj => (hA4 j hj).2) (fun j hj => (hB4 j hj).2) HE4.out) hg5
              · unfold Ints
                rw [he]
                exact Row.nil _ _ _ _)
            have HI9 := keep (show Ints w5 (.slice a9 t0.act.length c9) t0.act from Row.fits HI4.out hg5)
            have HTu0 := keep (show TwoT (fun _ => False) (fun _ => False) w_.heap.size tb tr (stA ps (k + 1)) (stA ps (k + 1)) w5 by rw [HSc.out, does_3, ← HR.out]; exact (TwoT.wide HT4.out (fun j hj => .inr (hAw j (hA4 j hj).1)) (fun j hj => .inr (hBw j (hB4 j hj).1)) HBw3.out.size).fits hg5)
            have HBu0 := keep (HBw3.out.trans ((HE4.out.below (fun j hj => hAw j (hA4 j hj).1) (fun j hj => hBw j (hB4 j hj).1) HBw3.out.size).trans (hg5.mono (Nat.le_trans HBw3.out.size HE4.out.size))))
            clear hw5 hg5
            obtain ⟨x0, x1, x2, x3, x4, x5, -⟩ := six_of HY5.out
            obtain ⟨y0, y1, y2, y3, y4, y5, -⟩ := six_of HZ5.out
            go_upto_region 27 with (go_at_call 23; refine (same_eq t0 _ _ w5 HI7.out HI9.out HTa0.out).mono ?_; rintro e u ⟨rfl, hb⟩; have HGu0 := keep hb; clear hb)
            clear x0 x1 x2 x3 x4 x5 y0 y1 y2 y3 y4 y5
            have HTu := keep (HTu0.out.fits HGu0.out)
            have HXu := keep (HXu0.out.fits HGu0.out)
            have HBu := keep (HBu0.out.trans (HGu0.out.mono HBu0.out.size))
            have hG' := HGd.out (k + 1) hlt
            have HRd := keep (HTu.out.rd hG' (by have := HN.out; omega))
            have HDd := keep (HTu.out.dd hG' (by have := HN.out; omega))
            have HAc := keep (fun x (hx : x ∈ snapsT (stA ps (k + 1))) => (show (x.2.length : Int) ≤ 17592186044416 from by
              obtain ⟨y, hy, rfl⟩ := List.mem_map.1 hx
              exact hG'.acts y hy))
            have HSl := keep (show (stA ps (k + 1)).length ≤ 2199023255552 by have := HN.out; have := hG'.len; omega)
            have HTend := keep (fun u' (hu : Grow u u') => (show PlRel ps tb tr w_ (.int .i64 ((k + 1 : Nat) : Int)) u' from ⟨k + 1, hlt, rfl, keep (HTu.out.fits hu), keep (HBu.out.trans (hu.mono HBu.out.size))⟩))
            have hoft := fun (t : Tn) (ht : findT who (stA ps (k + 1)) = some t) => hG'.acts _ (findT_mem ht)
            obtain ⟨o, ho⟩ : ∃ o, o = findT who (stA ps (k + 1)) := ⟨_, rfl⟩
            have hof := HRd.out.of who HW.out
            have hod := HDd.out.of who
            rw [← ho] at hof hod
            unfold OfS at hof
            unfold DofPost at hod
            have hta : ((o.getD tnZ).act.length : Int) ≤ 17592186044416 := by
              cases o with
              | none => simp [tnZ]
              | some t => exact hoft t ho.symm
            have hqq : (o.isSome != o.isSome) = false := by simp
            generalize o.isSome = ok at *
            generalize o.getD tnZ = t at *
            generalize stA ps (k + 1) = S' at *
            have HOf := keep hof
            have HOd := keep hod
            have HTa := keep hta
            clear hof hod hta ho hoft hG' HTu
            obtain ⟨x0, x1, x2, x3, x4, x5, -⟩ := six_of HXu.out
            go_upto_region 28 with (go_at_call 10; refine (HOf.out u (Below.refl _ _)).mono ?_; rintro e w7 ⟨av, rfl, hrow7, hb7⟩; obtain ⟨a7, c7, rfl⟩ := row_sl hrow7.1.weak; have HR7 := keep hrow7; have HG7 := keep hb7; clear hrow7 hb7; unfold tnV)
            obtain ⟨w8, hw8⟩ : ∃ w8, w8 = w7.alloc (.cells #[.int .i64 t.next, .slice a7 t.act.length c7, .int .i64 t.xid, .int .i64 t.first, .int .i64 t.last, .int .i64 t.undoes] 32) := ⟨_, rfl⟩
            have hg8 : Grow w7 w8 := by subst hw8; exact (Grow.refl w7).alloc _
            have HX8 := keep (show Blk w8 w7.heap.size 32 [.int .i64 t.next, .slice a7 t.act.length c7, .int .i64 t.xid, .int .i64 t.first, .int .i64 t.last, .int .i64 t.undoes] from by subst hw8; exact Blk.new w7 _ [_, _, _, _, _, _])
            rw [← hw8]
            have HG8 := keep (Grow.trans HG7.out hg8)
            have HR8 := keep (HR7.out.keeps fun j _ hl => hg8.block j hl)
            clear hw8 hg8 x0 x1 x2 x3 x4 x5
            obtain ⟨x0, x1, x2, x3, x4, x5, -⟩ := six_of (HXu.out.fits HG8.out)
            go_upto_region 29 with (go_at_call 24; refine (HOd.out w8 HG8.out).mono ?_; rintro e w9 ⟨av2, rfl, hrow9, hb9⟩; obtain ⟨a9, c9, rfl⟩ := row_sl hrow9; have HR9 := keep hrow9; have HG89 := keep hb9; clear hrow9 hb9; unfold tnV)
            obtain ⟨wa, hwa⟩ : ∃ wa, wa = w9.alloc (.cells #[.int .i64 t.next, .slice a9 t.act.length c9, .int .i64 t.xid, .int .i64 t.first, .int .i64 t.last, .int .i64 t.undoes] 32) := ⟨_, rfl⟩
            have hga : Grow w9 wa := by subst hwa; exact (Grow.refl w9).alloc _
            have HXa := keep (show Blk wa w9.heap.size 32 [.int .i64 t.next, .slice a9 t.act.length c9, .int .i64 t.xid, .int .i64 t.first, .int .i64 t.last, .int .i64 t.undoes] from by subst hwa; exact Blk.new w9 _ [_, _, _, _, _, _])
            rw [← hwa]
            have HG8a := keep (Grow.trans HG89.out hga)
            have HGa := keep (Grow.trans HG8.out HG8a.out)
            have HRa := keep (HR8.out.keeps fun j _ hl => HG8a.out.block j hl)
            have HI7 := keep (show Ints wa (.slice a7 t.act.length c7) t.act from HRa.out.1.weak)
            have HI9 := keep (show Ints wa (.slice a9 t.act.length c9) t.act from Row.fits HR9.out hga)
            clear hwa hga x0 x1 x2 x3 x4 x5
            obtain ⟨x0, x1, x2, x3, x4, x5, -⟩ := six_of (HX8.out.fits HG8a.out)
            obtain ⟨y0, y1, y2, y3, y4, y5, -⟩ := six_of HXa.out
            go_wp2_with (first
              | (go_at_call 23; refine (same_eq t _ _ wa HI7.out HI9.out HTa.out).mono ?_; rintro e wb ⟨rfl, hb⟩; have HGab := keep hb; clear hb)
              | (go_at_call 25; refine (same_law S' tb tr wb (HRd.out.fits (Grow.trans HGa.out HGab.out)) (HDd.out.fits (Grow.trans HGa.out HGab.out)) HSl.out HAc.out).mono ?_; rintro e wc ⟨rfl, hb⟩; have HGac := keep (Grow.trans HGab.out hb); clear hb))
            have HGc := keep (Grow.trans HGa.out HGac.out)
            have HRc := keep (HRa.out.keeps fun j _ hl => HGac.out.block j hl)
            have HX14 := keep (HX8.out.fits (Grow.trans HG8a.out HGac.out))
            have HPut := keep (putOk_row HRc.out)
            have hrb : ∃ rb : Option Nat, (∀ g off, a7 = some ⟨g, off, none⟩ → t.act.length ≠ 0 → rb = some g) ∧ ∀ g, rb = some g → u.heap.size ≤ g ∧ g < w7.heap.size := by
              rcases HR7.out.1.weak with ⟨h0, h1, -⟩ | ⟨c, off, cap, hv, hc⟩
              · exact ⟨none, fun _ _ _ h => absurd h0 h, fun g h => by cases h⟩
              · by_cases h0 : t.act = []
                · exact ⟨none, fun _ _ _ h => absurd (by rw [h0]; rfl) h, fun g h => by cases h⟩
                · have h1 := (HR7.out.2 c off _ cap hv h0).1
                  have h2 := hc 0 (by simpa using List.length_pos_iff.2 h0)
                  simp only [Value.slice.injEq] at hv
                  refine ⟨some c, fun g off' e _ => by rw [hv.1] at e; cases e; rfl, fun g h => by cases h; exact ⟨h1, World.block_lt_of_cell? w7 _ h2⟩⟩
            obtain ⟨rb, hrb1, hrb2⟩ := hrb
            have HRb1 := keep hrb1
            have HRb2 := keep hrb2
            have HForm := keep (show t.act.length = 0 ∨ ∃ g off, a7 = some ⟨g, off, none⟩ by
              rcases HR7.out.1.weak with ⟨h0, -, -⟩ | ⟨c, off, cap, hv, -⟩
              · exact .inl h0
              · simp only [Value.slice.injEq] at hv
                exact .inr ⟨c, off, hv.1⟩)
            have HNe := keep (show some w7.heap.size ≠ rb by rintro e; have := (hrb2 _ e.symm).2; omega)
            clear hrb1 hrb2 x0 x1 x2 x3 x4 x5 y0 y1 y2 y3 y4 y5
            have hta := HTa.out
            go_loopw [18] (fun i wr => PutRel wc (.slice a7 t.act.length c7) t.act.length t.act.length rb i wr) (fun i _ => t.act.length - (intOf i).toNat)
            case atStart => exact show PutRel wc _ _ _ _ _ _ from ⟨0, Nat.zero_le _, rfl, keep ⟨rfl, rfl, rfl, Nat.le_refl _, fun _ _ _ => rfl⟩, HPut⟩
            case round =>
              obtain ⟨j, hjl, rfl, HGr, HPt⟩ := hrel
              have hx14 : Blk wr w7.heap.size 32 [.int .i64 t.next, .slice a7 t.act.length c7, .int .i64 t.xid, .int .i64 t.first, .int .i64 t.last, .int .i64 t.undoes] := blk_keeps HX14.out (HGr.out.block _ HX14.out.lt HNe.out)
              obtain ⟨-, x1, -⟩ := six_of hx14
              by_cases hltj : j < t.act.length
              · have hfm : ∃ g off, a7 = some ⟨g, off, none⟩ := HForm.out.elim (fun h => by omega) id
                obtain ⟨g, off, rfl⟩ := hfm
                have hrb := HRb1.out g off rfl (by omega)
                subst hrb
                obtain ⟨⟨z, hz⟩, hfz⟩ := HPt.out g off _ _ rfl j hltj
                have HGr2 := keep (grownBy_putB HGr.out (off + j) (.int .i64 (-8)))
                have HPt2 := keep (HPt.out.put ⟨g, off + j, none⟩ (.int .i64 (-8)))
                clear hx14
                go_wp2_with fail
                go_roundw
                case rel => exact show PutRel wc _ _ _ _ _ _ from ⟨j + 1, by omega, by first | go_num | simp, HGr2, HPt2⟩
                case measure => simp [intOf]; omega
              · have hgu : Grow u wr := Below.grown HGc.out HGr.out HGc.out.size (fun g e => (HRb2.out g e).1)
                have HGu := keep hgu
                clear hgu hx14
                go_upto_region 36 with (go_at_call 26; refine (HRd.out.snp wr HGu.out).mono ?_; rintro e wd ⟨ad, cd, rfl, hs, hb⟩; have HSd := keep hs; have HGd2 := keep hb; clear hs hb)
                have HGd3 := keep (Grow.trans HGu.out HGd2.out)
                have hso : ∃ xs, wd.ownsRow wr.heap.size 28 2 (.slice ad S'.length cd) S'.length xs := by
                  obtain ⟨qs, h1, -⟩ := HSd.out
                  rw [snapsT_len] at h1
                  exact ⟨_, h1⟩
                obtain ⟨xs9, hso⟩ := hso
                have HSo := keep hso
                have HPs := keep (putOk_own hso)
                have HFs := keep (show S'.length = 0 ∨ ∃ g, ad = some ⟨g, 0, none⟩ by
                  rcases hso.2 with ⟨_, h0⟩ | ⟨g, cap, cur, hv, -⟩
                  · exact .inl h0
                  · simp only [Value.slice.injEq] at hv
                    exact .inr ⟨g, hv.1⟩)
                clear hso x1
                have HSl2 := HSl.out
                have hlp := HN.out
                go_wp2_with fail
                go_loopw [20] (fun i wr => PutRel wd (.slice ad S'.length cd) (S'.length * 2) S'.length (Value.slice ad S'.length cd).ownBlock i wr) (fun i _ => S'.length - (intOf i).toNat)
                case atStart => exact show PutRel wd _ _ _ _ _ _ from ⟨0, Nat.zero_le _, rfl, keep ⟨rfl, rfl, rfl, Nat.le_refl _, fun _ _ _ => rfl⟩, HPs⟩
                case round =>
                  obtain ⟨j2, hjl2, rfl, HGr2, HPt2⟩ := hrel
                  by_cases hltj2 : j2 < S'.length
                  · have hfm : ∃ g, ad = some ⟨g, 0, none⟩ := HFs.out.elim (fun h => by omega) id
                    obtain ⟨g, rfl⟩ := hfm
                    obtain ⟨⟨z, hz⟩, hfz⟩ := HPt2.out g 0 _ _ rfl (j2 * 2) (by omega)
                    simp only [Nat.zero_add] at hz hfz
                    have HGr3 := keep (grownBy_putB HGr2.out (j2 * 2) (.int .i64 (-9)))
                    have HPt3 := keep (HPt2.out.put ⟨g, j2 * 2, none⟩ (.int .i64 (-9)))
                    go_wp2_with fail
                    go_roundw
                    case rel => exact show PutRel wd _ _ _ _ _ _ from ⟨j2 + 1, by omega, by first | go_num | simp, HGr3, HPt3⟩
                    case measure => simp [intOf]; omega
                  · have hgu2 : Grow u wr := Below.grown HGd3.out HGr2.out HGd3.out.size (fun g e => Nat.le_trans HGu.out.size (HSo.out.lt g e).1)
                    have HGu2 := keep hgu2
                    clear hgu2
                    go_wp2_with (go_at_call 25; refine (same_law S' tb tr wr (HRd.out.fits HGu2.out) (HDd.out.fits HGu2.out) HSl.out HAc.out).mono ?_; rintro e wz ⟨rfl, hb⟩; have HGz := keep (Grow.trans HGu2.out hb); clear hb)
                    go_roundw
                    case rel => exact (show (Value.int .i64 ((k : Int) + 1)) = .int .i64 ((k + 1 : Nat) : Int) by first | rfl | simp) ▸ HTend.out _ HGz.out
                    case measure => simp [intOf]; omega
          · by_cases h0 : ask = 0
            · subst h0
              obtain ⟨iI, hiI, hzI0, hzI1, hzI2⟩ := info_parts infoIntT
              obtain ⟨R, hR⟩ : ∃ R, R = beginT who next act S := ⟨_, rfl⟩
              have HR := keep hR
              have hal := HAl.out
              have hlen := HN.out
              dsimp only at hal
              clear hR h1 h2 h3
              obtain ⟨x0, x1, x2, x3, x4, x5, -⟩ := six_of HX1.out
              go_upto_region 13 with fail
              obtain ⟨w2, hw2⟩ : ∃ w2, w2 = w1.alloc (.cells #[.int .i64 next, .slice none 0 0] 28) := ⟨_, rfl⟩
              have hg2 : Grow w1 w2 := by subst hw2; exact (Grow.refl w1).alloc _
              have HY2 := keep (show Blk w2 w1.heap.size 28 [.int .i64 next, .slice none 0 0] from by subst hw2; exact Blk.new w1 _ [_, _])
              rw [← hw2]
              have HX2 := keep (HX1.out.fits hg2)
              have HG2 := keep hg2
              have HBw2 := keep (HB1.out.trans (hg2.mono HN1.out))
              clear hw2 hg2 x0 x1 x2 x3 x4 x5
              obtain ⟨x0, x1, x2, x3, x4, x5, -⟩ := six_of HX2.out
              obtain ⟨y0, y1, f0, f1⟩ := two_of HY2.out
              go_upto_region 14 with (at_builtin; go_must (refine wpList_append_src rfl _ _ 26 rfl w2.heap.size 3 iI (.int .i64 0) 1 8 Try.underlying26 hiI hzI0 hzI1 hzI2 rfl (by decide) (Value.slice none 0 0) 0 [] rfl (World.ownsRow_nil _ _ _ _) _ act.length (iCells act) rfl (HSr.out.fits HBw2.out) (one_ints act) (by unfold maxLen; omega) (by omega) (Nat.le_refl _) ?_); intro v' w3 hown hgrow'; have hgrow := (show World.grownBy _ w3 none from hgrow'); clear hgrow'; rw [Nat.zero_add, List.nil_append] at hown; obtain ⟨a2, c2, rfl⟩ := own_form hown; have HV3 := keep hown; have hg3 := (Below.grown (Below.refl w2.heap.size w2) hgrow (Nat.le_refl _) (fun g e => by cases e) : Grow w2 w3); have HG3 := keep hg3; have HY3 := keep (HY2.out.fits hg3); have HX3 := keep (HX2.out.fits hg3); obtain ⟨y0, y1, f0, f1⟩ := two_of HY3.out; clear hown hgrow hg3)
              obtain ⟨w4, hw4⟩ : ∃ w4, w4 = w3.setCell ⟨w1.heap.size, 1, none⟩ (.slice a2 act.length c2) := ⟨_, rfl⟩
              have hbut4 : But w1.heap.size w3 w4 := by subst hw4; exact (But.refl _ _).setCell 1 _
              have hz4 : w4.heap.size = w3.heap.size := by subst hw4; simp
              have HY4 := keep (show Blk w4 w1.heap.size 28 [.int .i64 next, .slice a2 act.length c2] from by subst hw4; exact HY3.out.set 1 _)
              rw [← hw4]
              have hx1lt := HX1.out.lt
              have hy2lt := HY2.out.lt
              have hz23 := HG3.out.size
              have HX4 := keep (HX3.out.but hbut4 (by omega))
              have HT4 := keep (show TwoT A B w4.heap.size tb tr S S w4 from by
                rw [hz4]
                exact ((HT1.out w3.heap.size).fits (Grow.trans HG2.out HG3.out)).keeps hbut4.size fun j hj hc => hbut4.block j hj (fun e => by
                  rcases hc with h | h | h
                  · have := hA2 j h; omega
                  · have := hB2 j h; omega
                  · omega))
              have HV4 := keep (rowO_butG (own_rowO HV3.out) (fun cs f e => by have h9 := HY3.out; unfold Blk at h9; rw [h9] at e; cases e) hbut4)
              have HFm := keep (show act.length = 0 ∨ ∃ g, a2 = some ⟨g, 0, none⟩ by
                rcases HV3.out.2 with ⟨_, h0⟩ | ⟨g, cap, cur, hv, -⟩
                · exact .inl h0
                · simp only [Value.slice.injEq] at hv
                  exact .inr ⟨g, hv.1⟩)
              have HFr := keep ((own_fresh HV3.out).mono (show wr.heap.size ≤ w2.heap.size by omega))
              have HBw3 := keep (HBw2.out.trans (HG3.out.mono HBw2.out.size))
              have HBw4 := keep (But.below HBw3.out hbut4 HN1.out HBw3.out.size)
              have HKp := keep (show ∀ j, (A j ∨ B j ∨ w4.heap.size ≤ j) → some j ≠ (Value.slice a2 act.length c2).ownBlock from fun j hc e => by
                have h9 := HV3.out.lt j e.symm
                rcases hc with h | h | h
                · have := hA2 j h; omega
                · have := hB2 j h; omega
                · omega)
              have HNx := keep (show some wr.heap.size ≠ (Value.slice a2 act.length c2).ownBlock from fun e => by have := HV3.out.lt _ e.symm; omega)
              have HNy := keep (show some w1.heap.size ≠ (Value.slice a2 act.length c2).ownBlock from fun e => by have := HV3.out.lt _ e.symm; omega)
              have HNw := keep (show ∀ g, (Value.slice a2 act.length c2).ownBlock = some g → w_.heap.size ≤ g from fun g e => by have := HV3.out.lt _ e; have := HBw2.out.size; omega)
              have hyA : ¬ A w1.heap.size := fun h => by have := hA2 _ h; omega
              have hyB : ¬ B w1.heap.size := fun h => by have := hB2 _ h; omega
              have HX := keep (fun (u : World) (hu : ExtT A B w4.heap.size w4 u) => six_of (blk_keeps HX4.out (hu.block _ HX4.out.lt hxA hxB)))
              have HY := keep (fun (u : World) (hu : ExtT A B w4.heap.size w4 u) => two_of (blk_keeps HY4.out (hu.block _ HY4.out.lt hyA hyB)))
              clear hw4 hbut4 x0 x1 x2 x3 x4 x5 y0 y1 f0 f1
              refine wp_region_i_named (by kernel_rfl) 11 4 10 (by decide) (by decide) (fun bA bB w => TwoT A B w4.heap.size tb tr (if bA then R.1 else S) (if bB then R.1 else S) w) (ExtT A B w4.heap.size) (ExtT.refl _) (TwoT.drew HT4.out) (fun _ _ _ => ExtT.trans) (by kernel_rfl) [(50, 0), (51, 1), (52, 2), (53, 3), (54, 4), (55, 5), (56, 6), (57, 7), (58, 8), (59, 9), (60, 10)] (by kernel_rfl) [(0, true), (1, true), (2, true), (3, true), (4, true), (5, true), (6, true), (7, true), (8, true), (9, true), (10, true)] (by kernel_rfl) rfl rfl ?_
              intro a0 ha0
              have hsz : a0.tmps.size = 194 := (size_at ha0).trans rfl
              have s3 := slot_at ha0 3 rfl
              have s4 := slot_at ha0 4 rfl
              have s6 := slot_at ha0 6 rfl
              have s8 := slot_at ha0 8 rfl
              have HA0 := keep ha0
              clear ha0
              -- operation 0
              apply lexi_eq hsz [] [(51, 1), (52, 2), (53, 3), (55, 5), (56, 6), (57, 7), (58, 8), (59, 9), (60, 10), (61, 11)] none (by kernel_rfl) (by kernel_rfl) (by kernel_rfl) (by kernel_rfl) rfl (by decide) (by decide) (fun _ => ExtT.refl _)
              · intro xs w hw hp K hK
                go_simp
                exact hK
              -- operation 1
              apply lexi_eq hsz [] [(50, 0), (53, 3), (54, 4), (55, 5), (56, 6), (57, 7), (58, 8), (59, 9), (60, 10), (61, 11)] none (by kernel_rfl) (by kernel_rfl) (by kernel_rfl) (by kernel_rfl) rfl (by decide) (by decide) (fun _ => ExtT.refl _)
              · intro xs w hw hp K hK
                go_simp
                exact hK
              -- operation 2
              apply lexi_eq hsz [(1, true)] [(50, 0), (51, 1), (53, 3), (55, 5), (56, 6), (57, 7), (58, 8), (59, 9), (60, 10), (61, 11)] none (by kernel_rfl) (by kernel_rfl) (by kernel_rfl) (by kernel_rfl) rfl (by decide) (by decide) (fun _ => ExtT.refl _)
              · intro xs w hw hp K hK
                simp only [holdsL, List.nil_append, List.cons_append, List.getD_cons_succ, List.getD_cons_zero, if_true, and_true] at hp
                obtain ⟨-, x1, x2, x3, x4, x5, -⟩ := HX.out w hw.undrew
                go_simp
                exact hK
              -- operation 3
              apply lexi_eq hsz [] [(50, 0), (51, 1), (52, 2), (55, 5), (56, 6), (57, 7), (58, 8), (59, 9), (60, 10), (61, 11)] none (by kernel_rfl) (by kernel_rfl) (by kernel_rfl) (by kernel_rfl) rfl (by decide) (by decide) (fun _ => ExtT.refl _)
              · intro xs w hw hp K hK
                obtain ⟨y0, y1, -⟩ := HY.out w hw.undrew
                go_simp
                exact hK
              -- operation 4
              apply lexi_a hsz [(0, true), (2, true), (3, true)] [(50, 0), (51, 1), (52, 2), (53, 3), (55, 5), (56, 6), (57, 7), (58, 8), (59, 9)] none (by kernel_rfl) (by kernel_rfl) (by kernel_rfl) (by kernel_rfl) rfl (by decide)
              · intro xs w b9 hw hin hp K hK
                simp only [holdsL, List.nil_append, List.cons_append, List.getD_cons_succ, List.getD_cons_zero, if_true, and_true] at hp
                go_simp
                refine (twoA_begin (S1 := S) (S2 := if b9 then R.1 else S) hin hw.size HGS.out (by omega) who next act (.slice a2 act.length c2) HW.out (Row.ext HV4.out.1.weak HFr.out hA2 hB2 hw.undrew) HAl.out).mono ?_; rintro e w' ⟨rfl, h2, h3⟩; rw [← HR.out] at h2 ⊢; exact ⟨_, rfl, hK w' h3 h2⟩
              -- operation 5
              apply lexi_eq hsz [] [(50, 0), (51, 1), (52, 2), (53, 3), (54, 4), (56, 6), (57, 7), (58, 8), (59, 9), (61, 11)] none (by kernel_rfl) (by kernel_rfl) (by kernel_rfl) (by kernel_rfl) rfl (by decide) (by decide) (fun _ => ExtT.refl _)
              · intro xs w hw hp K hK
                go_simp
                exact hK
              -- operation 6
              apply lexi_eq hsz [] [(50, 0), (51, 1), (52, 2), (53, 3), (54, 4), (55, 5), (58, 8), (59, 9), (60, 10), (61, 11)] none (by kernel_rfl) (by kernel_rfl) (by kernel_rfl) (by kernel_rfl) rfl (by decide) (by decide) (fun _ => ExtT.refl _)
              · intro xs w hw hp K hK
                go_simp
                exact hK
              -- operation 7
              apply lexi_eq hsz [(6, true)] [(50, 0), (51, 1), (52, 2), (53, 3), (54, 4), (55, 5), (56, 6), (58, 8), (59, 9), (61, 11)] none (by kernel_rfl) (by kernel_rfl) (by kernel_rfl) (by kernel_rfl) rfl (by decide) (by decide) (fun _ => ExtT.refl _)
              · intro xs w hw hp K hK
                simp only [holdsL, List.nil_append, List.cons_append, List.getD_cons_succ, List.getD_cons_zero, if_true, and_true] at hp
                obtain ⟨-, x1, x2, x3, x4, x5, -⟩ := HX.out w hw.undrew
                go_simp
                exact hK
              -- operation 8
              apply lexi_eq hsz [] [(50, 0), (51, 1), (52, 2), (53, 3), (54, 4), (55, 5), (56, 6), (57, 7), (60, 10), (61, 11)] none (by kernel_rfl) (by kernel_rfl) (by kernel_rfl) (by kernel_rfl) rfl (by decide) (by decide) (fun _ => ExtT.refl _)
              · intro xs w hw hp K hK
                go_simp
                exact hK
              -- operation 9
              apply lexi_eq hsz [(8, true)] [(50, 0), (51, 1), (52, 2), (53, 3), (54, 4), (55, 5), (56, 6), (57, 7), (58, 8), (61, 11)] none (by kernel_rfl) (by kernel_rfl) (by kernel_rfl) (by kernel_rfl) rfl (by decide) (by decide) (fun _ => ExtT.refl _)
              · intro xs w hw hp K hK
                simp only [holdsL, List.nil_append, List.cons_append, List.getD_cons_succ, List.getD_cons_zero, if_true, and_true] at hp
                obtain ⟨-, x1, x2, x3, x4, x5, -⟩ := HX.out w hw.undrew
                go_simp
                exact hK
              -- operation 10
              apply lexi_b hsz [(5, true), (7, true), (9, true)] [(50, 0), (51, 1), (52, 2), (53, 3), (54, 4), (55, 5), (56, 6), (57, 7), (58, 8), (59, 9)] none (by kernel_rfl) (by kernel_rfl) (by kernel_rfl) (by kernel_rfl) rfl (by decide)
              · intro xs w b9 hw hin hp K hK
                simp only [holdsL, List.nil_append, List.cons_append, List.getD_cons_succ, List.getD_cons_zero, if_true, and_true] at hp
                go_simp
                refine (twoB_begin (S1 := if b9 then R.1 else S) (S2 := S) hin hw.size HGS.out (by omega) who next act (.slice s1 act.length s2) (HSr.out.fits (HBw4.out.trans (hw.undrew.below hAw hBw HBw4.out.size))) HAl.out).mono ?_; rintro e w' ⟨rfl, h2, h3⟩; rw [← HR.out] at h2 ⊢; exact ⟨_, rfl, hK w' h3 h2⟩
              intro xs w hw hin hp
              have ha0 := HA0.out
              clear HA0 hsz s3 s4 s6 s8
              simp only [holdsL, List.nil_append, List.cons_append, List.getD_cons_succ, List.getD_cons_zero, if_true, and_true] at hp
              have h4 := hp.2.2.2.2.1
              have h10 := hp.2.2.2.2.2.2.2.2.2.2
              clear hp
              subst ha0
              simp only [putAll, h4, h10]
              obtain ⟨w5, rfl⟩ : ∃ w5, w5 = w := ⟨_, rfl⟩
              have HXe := keep hw.undrew
              have HT5 := keep (show TwoT A B w4.heap.size tb tr R.1 R.1 w5 from hin)
              have HX5 := keep (blk_keeps HX4.out (HXe.out.block _ HX4.out.lt hxA hxB))
              have HY5 := keep (blk_keeps HY4.out (HXe.out.block _ HY4.out.lt hyA hyB))
              have HPt5 := keep ((putOk_row HV4.out).keepsB (fun g off m cap e hl => HXe.out.block g hl (fun h => by have := hA2 _ h; have := HFr.out g off m cap e; omega) (fun h => by have := hB2 _ h; have := HFr.out g off m cap e; omega)))
              have HBw5 := keep (HBw4.out.trans (HXe.out.below hAw hBw HBw4.out.size))
              have HT6 := keep (fun (v : World) (hg : w5.grownBy v (Value.slice a2 act.length c2).ownBlock) => (show TwoT (fun _ => False) (fun _ => False) w_.heap.size tb tr (stA ps (k + 1)) (stA ps (k + 1)) v by
                rw [HSc.out, does_0, ← HR.out]
                exact TwoT.wide (HT5.out.keeps hg.size fun j hj hc => hg.block j hj (HKp.out j hc)) (fun j hj => .inr (hAw j hj)) (fun j hj => .inr (hBw j hj)) HBw4.out.size))
              have HX6 := keep (fun (v : World) (hg : w5.grownBy v (Value.slice a2 act.length c2).ownBlock) => blk_keeps HX5.out (hg.block _ HX5.out.lt HNx.out))
              have HY6 := keep (fun (v : World) (hg : w5.grownBy v (Value.slice a2 act.length c2).ownBlock) => two_of (blk_keeps HY5.out (hg.block _ HY5.out.lt HNy.out)))
              clear hw hin hA2 hB2 hx1lt hy2lt hz23 hz4 hyA hyB
              go_frame
              go_wp2_with fail
              go_loopw [9] (fun i wr => PutRel w5 (.slice a2 act.length c2) act.length act.length (Value.slice a2 act.length c2).ownBlock i wr) (fun i _ => act.length - (intOf i).toNat)
              case atStart => exact show PutRel w5 _ _ _ _ _ _ from ⟨0, Nat.zero_le _, rfl, keep ⟨rfl, rfl, rfl, Nat.le_refl _, fun _ _ _ => rfl⟩, HPt5⟩
              case round =>
                obtain ⟨j, hjl, rfl, HGr, HPt⟩ := hrel
                obtain ⟨y0, y1, -⟩ := HY6.out wr HGr.out
                by_cases hltj : j < act.length
                · have hfm : ∃ g, a2 = some ⟨g, 0, none⟩ := HFm.out.elim (fun h => by omega) id
                  obtain ⟨g, rfl⟩ := hfm
                  obtain ⟨⟨z, hz⟩, hfz⟩ := HPt.out g 0 _ _ rfl j hltj
                  simp only [Nat.zero_add] at hz hfz
                  have HGr3 := keep (grownBy_putB HGr.out j (.int .i64 (-7)))
                  have HPt3 := keep (HPt.out.put ⟨g, j, none⟩ (.int .i64 (-7)))
                  go_wp2_with fail
                  go_roundw
                  case rel => exact show PutRel w5 _ _ _ _ _ _ from ⟨j + 1, by omega, by first | go_num | simp, HGr3, HPt3⟩
                  case measure => simp [intOf]; omega
                · obtain ⟨u, rfl⟩ : ∃ u, u = wr := ⟨_, rfl⟩
                  have HTu := keep (HT6.out u HGr.out)
                  have HXu := keep (HX6.out u HGr.out)
                  have HBu := keep (Below.grown HBw5.out HGr.out HBw5.out.size HNw.out)
                  go_upto_region 27 with fail
                  clear y0 y1
                  have hG' := HGd.out (k + 1) hlt
                  have HRd := keep (HTu.out.rd hG' (by have := HN.out; omega))
                  have HDd := keep (HTu.out.dd hG' (by have := HN.out; omega))
                  have HAc := keep (fun x (hx : x ∈ snapsT (stA ps (k + 1))) => (show (x.2.length : Int) ≤ 17592186044416 from by
                    obtain ⟨y, hy, rfl⟩ := List.mem_map.1 hx
                    exact hG'.acts y hy))
                  have HSl := keep (show (stA ps (k + 1)).length ≤ 2199023255552 by have := HN.out; have := hG'.len; omega)
                  have HTend := keep (fun u' (hu : Grow u u') => (show PlRel ps tb tr w_ (.int .i64 ((k + 1 : Nat) : Int)) u' from ⟨k + 1, hlt, rfl, keep (HTu.out.fits hu), keep (HBu.out.trans (hu.mono HBu.out.size))⟩))
                  have hoft := fun (t : Tn) (ht : findT who (stA ps (k + 1)) = some t) => hG'.acts _ (findT_mem ht)
                  obtain ⟨o, ho⟩ : ∃ o, o = findT who (stA ps (k + 1)) := ⟨_, rfl⟩
                  have hof := HRd.out.of who HW.out
                  have hod := HDd.out.of who
                  rw [← ho] at hof hod
                  unfold OfS at hof
                  unfold DofPost at hod
                  have hta : ((o.getD tnZ).act.length : Int) ≤ 17592186044416 := by
                    cases o with
                    | none => simp [tnZ]
                    | some t => exact hoft t ho.symm
                  have hqq : (o.isSome != o.isSome) = false := by simp
                  generalize o.isSome = ok at *
                  generalize o.getD tnZ = t at *
                  generalize stA ps (k + 1) = S' at *
                  have HOf := keep hof
                  have HOd := keep hod
                  have HTa := keep hta
                  clear hof hod hta ho hoft hG' HTu
                  obtain ⟨x0, x1, x2, x3, x4, x5, -⟩ := six_of HXu.out
                  go_upto_region 28 with (go_at_call 10; refine (HOf.out u (Below.refl _ _)).mono ?_; rintro e w7 ⟨av, rfl, hrow7, hb7⟩; obtain ⟨a7, c7, rfl⟩ := row_sl hrow7.1.weak; have HR7 := keep hrow7; have HG7 := keep hb7; clear hrow7 hb7; unfold tnV)
                  obtain ⟨w8, hw8⟩ : ∃ w8, w8 = w7.alloc (.cells #[.int .i64 t.next, .slice a7 t.act.length c7, .int .i64 t.xid, .int .i64 t.first, .int .i64 t.last, .int .i64 t.undoes] 32) := ⟨_, rfl⟩
                  have hg8 : Grow w7 w8 := by subst hw8; exact (Grow.refl w7).alloc _
                  have HX8 := keep (show Blk w8 w7.heap.size 32 [.int .i64 t.next, .slice a7 t.act.length c7, .int .i64 t.xid, .int .i64 t.first, .int .i64 t.last, .int .i64 t.undoes] from by subst hw8; exact Blk.new w7 _ [_, _, _, _, _, _])
                  rw [← hw8]
                  have HG8 := keep (Grow.trans HG7.out hg8)
                  have HR8 := keep (HR7.out.keeps fun j _ hl => hg8.block j hl)
                  clear hw8 hg8 x0 x1 x2 x3 x4 x5
                  obtain ⟨x0, x1, x2, x3, x4, x5, -⟩ := six_of (HXu.out.fits HG8.out)
                  go_upto_region 29 with (go_at_call 24; refine (HOd.out w8 HG8.out).mono ?_; rintro e w9 ⟨av2, rfl, hrow9, hb9⟩; obtain ⟨a9, c9, rfl⟩ := row_sl hrow9; have HR9 := keep hrow9; have HG89 := keep hb9; clear hrow9 hb9; unfold tnV)
                  obtain ⟨wa, hwa⟩ : ∃ wa, wa = w9.alloc (.cells #[.int .i64 t.next, .slice a9 t.act.length c9, .int .i64 t.xid, .int .i64 t.first, .int .i64 t.last, .int .i64 t.undoes] 32) := ⟨_, rfl⟩
                  have hga : Grow w9 wa := by subst hwa; exact (Grow.refl w9).alloc _
                  have HXa := keep (show Blk wa w9.heap.size 32 [.int .i64 t.next, .slice a9 t.act.length c9, .int .i64 t.xid, .int .i64 t.first, .int .i64 t.last, .int .i64 t.undoes] from by subst hwa; exact Blk.new w9 _ [_, _, _, _, _, _])
                  rw [← hwa]
                  have HG8a := keep (Grow.trans HG89.out hga)
                  have HGa := keep (Grow.trans HG8.out HG8a.out)
                  have HRa := keep (HR8.out.keeps fun j _ hl => HG8a.out.block j hl)
                  have HI7 := keep (show Ints wa (.slice a7 t.act.length c7) t.act from HRa.out.1.weak)
                  have HI9 := keep (show Ints wa (.slice a9 t.act.length c9) t.act from Row.fits HR9.out hga)
                  clear hwa hga x0 x1 x2 x3 x4 x5
                  obtain ⟨x0, x1, x2, x3, x4, x5, -⟩ := six_of (HX8.out.fits HG8a.out)
                  obtain ⟨y0, y1, y2, y3, y4, y5, -⟩ := six_of HXa.out
                  go_wp2_with (first
                    | (go_at_call 23; refine (same_eq t _ _ wa HI7.out HI9.out HTa.out).mono ?_; rintro e wb ⟨rfl, hb⟩; have HGab := keep hb; clear hb)
                    | (go_at_call 25; refine (same_law S' tb tr wb (HRd.out.fits (Grow.trans HGa.out HGab.out)) (HDd.out.fits (Grow.trans HGa.out HGab.out)) HSl.out HAc.out).mono ?_; rintro e wc ⟨rfl, hb⟩; have HGac := keep (Grow.trans HGab.out hb); clear hb))
                  have HGc := keep (Grow.trans HGa.out HGac.out)
                  have HRc := keep (HRa.out.keeps fun j _ hl => HGac.out.block j hl)
                  have HX14 := keep (HX8.out.fits (Grow.trans HG8a.out HGac.out))
                  have HPut := keep (putOk_row HRc.out)
                  have hrb : ∃ rb : Option Nat, (∀ g off, a7 = some ⟨g, off, none⟩ → t.act.length ≠ 0 → rb = some g) ∧ ∀ g, rb = some g → u.heap.size ≤ g ∧ g < w7.heap.size := by
                    rcases HR7.out.1.weak with ⟨h0, h1, -⟩ | ⟨c, off, cap, hv, hc⟩
                    · exact ⟨none, fun _ _ _ h => absurd h0 h, fun g h => by cases h⟩
                    · by_cases h0 : t.act = []
                      · exact ⟨none, fun _ _ _ h => absurd (by rw [h0]; rfl) h, fun g h => by cases h⟩
                      · have h1 := (HR7.out.2 c off _ cap hv h0).1
                        have h2 := hc 0 (by simpa using List.length_pos_iff.2 h0)
                        simp only [Value.slice.injEq] at hv
                        refine ⟨some c, fun g off' e _ => by rw [hv.1] at e; cases e; rfl, fun g h => by cases h; exact ⟨h1, World.block_lt_of_cell? w7 _ h2⟩⟩
                  obtain ⟨rb, hrb1, hrb2⟩ := hrb
                  have HRb1 := keep hrb1
                  have HRb2 := keep hrb2
                  have HForm := keep (show t.act.length = 0 ∨ ∃ g off, a7 = some ⟨g, off, none⟩ by
                    rcases HR7.out.1.weak with ⟨h0, -, -⟩ | ⟨c, off, cap, hv, -⟩
                    · exact .inl h0
                    · simp only [Value.slice.injEq] at hv
                      exact .inr ⟨c, off, hv.1⟩)
                  have HNe := keep (show some w7.heap.size ≠ rb by rintro e; have := (hrb2 _ e.symm).2; omega)
                  clear hrb1 hrb2 x0 x1 x2 x3 x4 x5 y0 y1 y2 y3 y4 y5
                  have hta := HTa.out
                  go_loopw [18] (fun i wr => PutRel wc (.slice a7 t.act.length c7) t.act.length t.act.length rb i wr) (fun i _ => t.act.length - (intOf i).toNat)
                  case atStart => exact show PutRel wc _ _ _ _ _ _ from ⟨0, Nat.zero_le _, rfl, keep ⟨rfl, rfl, rfl, Nat.le_refl _, fun _ _ _ => rfl⟩, HPut⟩
                  case round =>
                    obtain ⟨j, hjl, rfl, HGr, HPt⟩ := hrel
                    have hx14 : Blk wr w7.heap.size 32 [.int .i64 t.next, .slice a7 t.act.length c7, .int .i64 t.xid, .int .i64 t.first, .int .i64 t.last, .int .i64 t.undoes] := blk_keeps HX14.out (HGr.out.block _ HX14.out.lt HNe.out)
                    obtain ⟨-, x1, -⟩ := six_of hx14
                    by_cases hltj : j < t.act.length
                    · have hfm : ∃ g off, a7 = some ⟨g, off, none⟩ := HForm.out.elim (fun h => by omega) id
                      obtain ⟨g, off, rfl⟩ := hfm
                      have hrb := HRb1.out g off rfl (by omega)
                      subst hrb
                      obtain ⟨⟨z, hz⟩, hfz⟩ := HPt.out g off _ _ rfl j hltj
                      have HGr2 := keep (grownBy_putB HGr.out (off + j) (.int .i64 (-8)))
                      have HPt2 := keep (HPt.out.put ⟨g, off + j, none⟩ (.int .i64 (-8)))
                      clear hx14
                      go_wp2_with fail
                      go_roundw
                      case rel => exact show PutRel wc _ _ _ _ _ _ from ⟨j + 1, by omega, by first | go_num | simp, HGr2, HPt2⟩
                      case measure => simp [intOf]; omega
                    · have hgu : Grow u wr := Below.grown HGc.out HGr.out HGc.out.size (fun g e => (HRb2.out g e).1)
                      have HGu := keep hgu
                      clear hgu hx14
                      go_upto_region 36 with (go_at_call 26; refine (HRd.out.snp wr HGu.out).mono ?_; rintro e wd ⟨ad, cd, rfl, hs, hb⟩; have HSd := keep hs; have HGd2 := keep hb; clear hs hb)
                      have HGd3 := keep (Grow.trans HGu.out HGd2.out)
                      have hso : ∃ xs, wd.ownsRow wr.heap.size 28 2 (.slice ad S'.length cd) S'.length xs := by
                        obtain ⟨qs, h1, -⟩ := HSd.out
                        rw [snapsT_len] at h1
                        exact ⟨_, h1⟩
                      obtain ⟨xs9, hso⟩ := hso
                      have HSo := keep hso
                      have HPs := keep (putOk_own hso)
                      have HFs := keep (show S'.length = 0 ∨ ∃ g, ad = some ⟨g, 0, none⟩ by
                        rcases hso.2 with ⟨_, h0⟩ | ⟨g, cap, cur, hv, -⟩
                        · exact .inl h0
                        · simp only [Value.slice.injEq] at hv
                          exact .inr ⟨g, hv.1⟩)
                      clear hso x1
                      have HSl2 := HSl.out
                      have hlp := HN.out
                      go_wp2_with fail
                      go_loopw [20] (fun i wr => PutRel wd (.slice ad S'.length cd) (S'.length * 2) S'.length (Value.slice ad S'.length cd).ownBlock i wr) (fun i _ => S'.length - (intOf i).toNat)
                      case atStart => exact show PutRel wd _ _ _ _ _ _ from ⟨0, Nat.zero_le _, rfl, keep ⟨rfl, rfl, rfl, Nat.le_refl _, fun _ _ _ => rfl⟩, HPs⟩
                      case round =>
                        obtain ⟨j2, hjl2, rfl, HGr2, HPt2⟩ := hrel
                        by_cases hltj2 : j2 < S'.length
                        · have hfm : ∃ g, ad = some ⟨g, 0, none⟩ := HFs.out.elim (fun h => by omega) id
                          obtain ⟨g, rfl⟩ := hfm
                          obtain ⟨⟨z, hz⟩, hfz⟩ := HPt2.out g 0 _ _ rfl (j2 * 2) (by omega)
                          simp only [Nat.zero_add] at hz hfz
                          have HGr3 := keep (grownBy_putB HGr2.out (j2 * 2) (.int .i64 (-9)))
                          have HPt3 := keep (HPt2.out.put ⟨g, j2 * 2, none⟩ (.int .i64 (-9)))
                          go_wp2_with fail
                          go_roundw
                          case rel => exact show PutRel wd _ _ _ _ _ _ from ⟨j2 + 1, by omega, by first | go_num | simp, HGr3, HPt3⟩
                          case measure => simp [intOf]; omega
                        · have hgu2 : Grow u wr := Below.grown HGd3.out HGr2.out HGd3.out.size (fun g e => Nat.le_trans HGu.out.size (HSo.out.lt g e).1)
                          have HGu2 := keep hgu2
                          clear hgu2
                          go_wp2_with (go_at_call 25; refine (same_law S' tb tr wr (HRd.out.fits HGu2.out) (HDd.out.fits HGu2.out) HSl.out HAc.out).mono ?_; rintro e wz ⟨rfl, hb⟩; have HGz := keep (Grow.trans HGu2.out hb); clear hb)
                          go_roundw
                          case rel => exact (show (Value.int .i64 ((k : Int) + 1)) = .int .i64 ((k + 1 : Nat) : Int) by first | rfl | simp) ▸ HTend.out _ HGz.out
                          case measure => simp [intOf]; omega
            · have e0 : (ask == 0) = false := by simp [h0]
              have e1 : (ask == 1) = false := by simp [h1]
              have e2 : (ask == 2) = false := by simp [h2]
              have e3 : (ask == 3) = false := by simp [h3]
              have HTu := keep (show TwoT (fun _ => False) (fun _ => False) w_.heap.size tb tr (stA ps (k + 1)) (stA ps (k + 1)) w1 by rw [HSc.out, does_x _ _ _ _ _ _ _ h0 h1 h2 h3]; exact TwoT.wide (HT1.out w1.heap.size) (fun j hj => .inr (hAw j hj)) (fun j hj => .inr (hBw j hj)) HN1.out)
              obtain ⟨x0, x1, x2, x3, x4, x5, -⟩ := six_of HX1.out
              clear h0 h1 h2 h3
              go_upto_region 27 with fail
              clear x0 x1 x2 x3 x4 x5
              obtain ⟨u, rfl⟩ : ∃ u, u = w1 := ⟨_, rfl⟩
              have HXu := HX1
              have HBu := HB1
              have hG' := HGd.out (k + 1) hlt
              have HRd := keep (HTu.out.rd hG' (by have := HN.out; omega))
              have HDd := keep (HTu.out.dd hG' (by have := HN.out; omega))
              have HAc := keep (fun x (hx : x ∈ snapsT (stA ps (k + 1))) => (show (x.2.length : Int) ≤ 17592186044416 from by
                obtain ⟨y, hy, rfl⟩ := List.mem_map.1 hx
                exact hG'.acts y hy))
              have HSl := keep (show (stA ps (k + 1)).length ≤ 2199023255552 by have := HN.out; have := hG'.len; omega)
              have HTend := keep (fun u' (hu : Grow u u') => (show PlRel ps tb tr w_ (.int .i64 ((k + 1 : Nat) : Int)) u' from ⟨k + 1, hlt, rfl, keep (HTu.out.fits hu), keep (HBu.out.trans (hu.mono HBu.out.size))⟩))
              have hoft := fun (t : Tn) (ht : findT who (stA ps (k + 1)) = some t) => hG'.acts _ (findT_mem ht)
              obtain ⟨o, ho⟩ : ∃ o, o = findT who (stA ps (k + 1)) := ⟨_, rfl⟩
              have hof := HRd.out.of who HW.out
              have hod := HDd.out.of who
              rw [← ho] at hof hod
              unfold OfS at hof
              unfold DofPost at hod
              have hta : ((o.getD tnZ).act.length : Int) ≤ 17592186044416 := by
                cases o with
                | none => simp [tnZ]
                | some t => exact hoft t ho.symm
              have hqq : (o.isSome != o.isSome) = false := by simp
              generalize o.isSome = ok at *
              generalize o.getD tnZ = t at *
              generalize stA ps (k + 1) = S' at *
              have HOf := keep hof
              have HOd := keep hod
              have HTa := keep hta
              clear hof hod hta ho hoft hG' HTu
              obtain ⟨x0, x1, x2, x3, x4, x5, -⟩ := six_of HXu.out
              go_upto_region 28 with (go_at_call 10; refine (HOf.out u (Below.refl _ _)).mono ?_; rintro e w7 ⟨av, rfl, hrow7, hb7⟩; obtain ⟨a7, c7, rfl⟩ := row_sl hrow7.1.weak; have HR7 := keep hrow7; have HG7 := keep hb7; clear hrow7 hb7; unfold tnV)
              obtain ⟨w8, hw8⟩ : ∃ w8, w8 = w7.alloc (.cells #[.int .i64 t.next, .slice a7 t.act.length c7, .int .i64 t.xid, .int .i64 t.first, .int .i64 t.last, .int .i64 t.undoes] 32) := ⟨_, rfl⟩
              have hg8 : Grow w7 w8 := by subst hw8; exact (Grow.refl w7).alloc _
              have HX8 := keep (show Blk w8 w7.heap.size 32 [.int .i64 t.next, .slice a7 t.act.length c7, .int .i64 t.xid, .int .i64 t.first, .int .i64 t.last, .int .i64 t.undoes] from by subst hw8; exact Blk.new w7 _ [_, _, _, _, _, _])
              rw [← hw8]
              have HG8 := keep (Grow.trans HG7.out hg8)
              have HR8 := keep (HR7.out.keeps fun j _ hl => hg8.block j hl)
              clear hw8 hg8 x0 x1 x2 x3 x4 x5
              obtain ⟨x0, x1, x2, x3, x4, x5, -⟩ := six_of (HXu.out.fits HG8.out)
              go_upto_region 29 with (go_at_call 24; refine (HOd.out w8 HG8.out).mono ?_; rintro e w9 ⟨av2, rfl, hrow9, hb9⟩; obtain ⟨a9, c9, rfl⟩ := row_sl hrow9; have HR9 := keep hrow9; have HG89 := keep hb9; clear hrow9 hb9; unfold tnV)
              obtain ⟨wa, hwa⟩ : ∃ wa, wa = w9.alloc (.cells #[.int .i64 t.next, .slice a9 t.act.length c9, .int .i64 t.xid, .int .i64 t.first, .int .i64 t.last, .int .i64 t.undoes] 32) := ⟨_, rfl⟩
              have hga : Grow w9 wa := by subst hwa; exact (Grow.refl w9).alloc _
              have HXa := keep (show Blk wa w9.heap.size 32 [.int .i64 t.next, .slice a9 t.act.length c9, .int .i64 t.xid, .int .i64 t.first, .int .i64 t.last, .int .i64 t.undoes] from by subst hwa; exact Blk.new w9 _ [_, _, _, _, _, _])
              rw [← hwa]
              have HG8a := keep (Grow.trans HG89.out hga)
              have HGa := keep (Grow.trans HG8.out HG8a.out)
              have HRa := keep (HR8.out.keeps fun j _ hl => HG8a.out.block j hl)
              have HI7 := keep (show Ints wa (.slice a7 t.act.length c7) t.act from HRa.out.1.weak)
              have HI9 := keep (show Ints wa (.slice a9 t.act.length c9) t.act from Row.fits HR9.out hga)
              clear hwa hga x0 x1 x2 x3 x4 x5
              obtain ⟨x0, x1, x2, x3, x4, x5, -⟩ := six_of (HX8.out.fits HG8a.out)
              obtain ⟨y0, y1, y2, y3, y4, y5, -⟩ := six_of HXa.out
              go_wp2_with (first
                | (go_at_call 23; refine (same_eq t _ _ wa HI7.out HI9.out HTa.out).mono ?_; rintro e wb ⟨rfl, hb⟩; have HGab := keep hb; clear hb)
                | (go_at_call 25; refine (same_law S' tb tr wb (HRd.out.fits (Grow.trans HGa.out HGab.out)) (HDd.out.fits (Grow.trans HGa.out HGab.out)) HSl.out HAc.out).mono ?_; rintro e wc ⟨rfl, hb⟩; have HGac := keep (Grow.trans HGab.out hb); clear hb))
              have HGc := keep (Grow.trans HGa.out HGac.out)
              have HRc := keep (HRa.out.keeps fun j _ hl => HGac.out.block j hl)
              have HX14 := keep (HX8.out.fits (Grow.trans HG8a.out HGac.out))
              have HPut := keep (putOk_row HRc.out)
              have hrb : ∃ rb : Option Nat, (∀ g off, a7 = some ⟨g, off, none⟩ → t.act.length ≠ 0 → rb = some g) ∧ ∀ g, rb = some g → u.heap.size ≤ g ∧ g < w7.heap.size := by
                rcases HR7.out.1.weak with ⟨h0, h1, -⟩ | ⟨c, off, cap, hv, hc⟩
                · exact ⟨none, fun _ _ _ h => absurd h0 h, fun g h => by cases h⟩
                · by_cases h0 : t.act = []
                  · exact ⟨none, fun _ _ _ h => absurd (by rw [h0]; rfl) h, fun g h => by cases h⟩
                  · have h1 := (HR7.out.2 c off _ cap hv h0).1
                    have h2 := hc 0 (by simpa using List.length_pos_iff.2 h0)
                    simp only [Value.slice.injEq] at hv
                    refine ⟨some c, fun g off' e _ => by rw [hv.1] at e; cases e; rfl, fun g h => by cases h; exact ⟨h1, World.block_lt_of_cell? w7 _ h2⟩⟩
              obtain ⟨rb, hrb1, hrb2⟩ := hrb
              have HRb1 := keep hrb1
              have HRb2 := keep hrb2
              have HForm := keep (show t.act.length = 0 ∨ ∃ g off, a7 = some ⟨g, off, none⟩ by
                rcases HR7.out.1.weak with ⟨h0, -, -⟩ | ⟨c, off, cap, hv, -⟩
                · exact .inl h0
                · simp only [Value.slice.injEq] at hv
                  exact .inr ⟨c, off, hv.1⟩)
              have HNe := keep (show some w7.heap.size ≠ rb by rintro e; have := (hrb2 _ e.symm).2; omega)
              clear hrb1 hrb2 x0 x1 x2 x3 x4 x5 y0 y1 y2 y3 y4 y5
              have hta := HTa.out
              go_loopw [18] (fun i wr => PutRel wc (.slice a7 t.act.length c7) t.act.length t.act.length rb i wr) (fun i _ => t.act.length - (intOf i).toNat)
              case atStart => exact show PutRel wc _ _ _ _ _ _ from ⟨0, Nat.zero_le _, rfl, keep ⟨rfl, rfl, rfl, Nat.le_refl _, fun _ _ _ => rfl⟩, HPut⟩
              case round =>
                obtain ⟨j, hjl, rfl, HGr, HPt⟩ := hrel
                have hx14 : Blk wr w7.heap.size 32 [.int .i64 t.next, .slice a7 t.act.length c7, .int .i64 t.xid, .int .i64 t.first, .int .i64 t.last, .int .i64 t.undoes] := blk_keeps HX14.out (HGr.out.block _ HX14.out.lt HNe.out)
                obtain ⟨-, x1, -⟩ := six_of hx14
                by_cases hltj : j < t.act.length
                · have hfm : ∃ g off, a7 = some ⟨g, off, none⟩ := HForm.out.elim (fun h => by omega) id
                  obtain ⟨g, off, rfl⟩ := hfm
                  have hrb := HRb1.out g off rfl (by omega)
                  subst hrb
                  obtain ⟨⟨z, hz⟩, hfz⟩ := HPt.out g off _ _ rfl j hltj
                  have HGr2 := keep (grownBy_putB HGr.out (off + j) (.int .i64 (-8)))
                  have HPt2 := keep (HPt.out.put ⟨g, off + j, none⟩ (.int .i64 (-8)))
                  clear hx14
                  go_wp2_with fail
                  go_roundw
                  case rel => exact show PutRel wc _ _ _ _ _ _ from ⟨j + 1, by omega, by first | go_num | simp, HGr2, HPt2⟩
                  case measure => simp [intOf]; omega
                · have hgu : Grow u wr := Below.grown HGc.out HGr.out HGc.out.size (fun g e => (HRb2.out g e).1)
                  have HGu := keep hgu
                  clear hgu hx14
                  go_upto_region 36 with (go_at_call 26; refine (HRd.out.snp wr HGu.out).mono ?_; rintro e wd ⟨ad, cd, rfl, hs, hb⟩; have HSd := keep hs; have HGd2 := keep hb; clear hs hb)
                  have HGd3 := keep (Grow.trans HGu.out HGd2.out)
                  have hso : ∃ xs, wd.ownsRow wr.heap.size 28 2 (.slice ad S'.length cd) S'.length xs := by
                    obtain ⟨qs, h1, -⟩ := HSd.out
                    rw [snapsT_len] at h1
                    exact ⟨_, h1⟩
                  obtain ⟨xs9, hso⟩ := hso
                  have HSo := keep hso
                  have HPs := keep (putOk_own hso)
                  have HFs := keep (show S'.length = 0 ∨ ∃ g, ad = some ⟨g, 0, none⟩ by
                    rcases hso.2 with ⟨_, h0⟩ | ⟨g, cap, cur, hv, -⟩
                    · exact .inl h0
                    · simp only [Value.slice.injEq] at hv
                      exact .inr ⟨g, hv.1⟩)
                  clear hso x1
                  have HSl2 := HSl.out
                  have hlp := HN.out
                  go_wp2_with fail
                  go_loopw [20] (fun i wr => PutRel wd (.slice ad S'.length cd) (S'.length * 2) S'.length (Value.slice ad S'.length cd).ownBlock i wr) (fun i _ => S'.length - (intOf i).toNat)
                  case atStart => exact show PutRel wd _ _ _ _ _ _ from ⟨0, Nat.zero_le _, rfl, keep ⟨rfl, rfl, rfl, Nat.le_refl _, fun _ _ _ => rfl⟩, HPs⟩
                  case round =>
                    obtain ⟨j2, hjl2, rfl, HGr2, HPt2⟩ := hrel
                    by_cases hltj2 : j2 < S'.length
                    · have hfm : ∃ g, ad = some ⟨g, 0, none⟩ := HFs.out.elim (fun h => by omega) id
                      obtain ⟨g, rfl⟩ := hfm
                      obtain ⟨⟨z, hz⟩, hfz⟩ := HPt2.out g 0 _ _ rfl (j2 * 2) (by omega)
                      simp only [Nat.zero_add] at hz hfz
                      have HGr3 := keep (grownBy_putB HGr2.out (j2 * 2) (.int .i64 (-9)))
                      have HPt3 := keep (HPt2.out.put ⟨g, j2 * 2, none⟩ (.int .i64 (-9)))
                      go_wp2_with fail
                      go_roundw
                      case rel => exact show PutRel wd _ _ _ _ _ _ from ⟨j2 + 1, by omega, by first | go_num | simp, HGr3, HPt3⟩
                      case measure => simp [intOf]; omega
                    · have hgu2 : Grow u wr := Below.grown HGd3.out HGr2.out HGd3.out.size (fun g e => Nat.le_trans HGu.out.size (HSo.out.lt g e).1)
                      have HGu2 := keep hgu2
                      clear hgu2
                      go_wp2_with (go_at_call 25; refine (same_law S' tb tr wr (HRd.out.fits HGu2.out) (HDd.out.fits HGu2.out) HSl.out HAc.out).mono ?_; rintro e wz ⟨rfl, hb⟩; have HGz := keep (Grow.trans HGu2.out hb); clear hb)
                      go_roundw
                      case rel => exact (show (Value.int .i64 ((k : Int) + 1)) = .int .i64 ((k + 1 : Nat) : Int) by first | rfl | simp) ▸ HTend.out _ HGz.out
                      case measure => simp [intOf]; omega
    · have e : k = ps.length := by omega
      subst e
      go_wp2_with (go_at_call 13; refine (awake_any wr).mono ?_; rintro e w9 ⟨rfl, hb9⟩)
      go_ret
      exact ⟨rfl, HB.out.trans (hb9.mono HB.out.size)⟩

end Go.Proofs.Ytgijmlienolhpaa
