import Derived.Test.YtaninphcgeaepaaGreatKRk1
import Derived.Test.YtaninphcgeaepaaGreatKCh2
namespace Go.Proofs.YtaninphcgeaepaaGreat
open Go.RowKit
structure Two (w : World) (b : Nat) (n : Nat) (xs : List Value) (m : Nat) (ys : List Value) (ev cv : Value) : Prop where
 ens : w.ownsRow (b + 1) 41 3 ev n xs
 kids : w.ownsRow (b + 1) 3 1 cv m ys
theorem Two.fits {w w' : World} {b n m : Nat} {xs ys : List Value} {ev cv : Value} (h : Two w b n xs m ys ev cv) (g : Grow w w') : Two w' b n xs m ys ev cv := ⟨owns_fits h.ens g, owns_fits h.kids g⟩
theorem Two.pushEns {w w1 : World} {b n m n' : Nat} {xs ys xs' : List Value} {ev cv v' : Value} (h : Two w b n xs m ys ev cv) {o : Obj} (hg : (w.alloc o).grownBy w1 ev.ownBlock) (hown : w1.ownsRow (b + 1) 41 3 v' n' xs') : Two w1 b n' xs' m ys v' cv :=
 ⟨hown, (h.kids.alloc o).kept hg (own_neO h.kids h.ens (by decide))⟩
theorem Two.pushKids {w w1 : World} {b n m n' : Nat} {xs ys ys' : List Value} {ev cv v' : Value} (h : Two w b n xs m ys ev cv) {o : Obj} (hg : (w.alloc o).grownBy w1 cv.ownBlock) (hown : w1.ownsRow (b + 1) 3 1 v' n' ys') : Two w1 b n xs n' ys' ev v' :=
 ⟨(h.ens.alloc o).kept hg (own_neO h.ens h.kids (by decide)), hown⟩
theorem push_below {w wr w1 : World} {b e s n : Nat} {v : Value} {xs : List Value} {o : Obj} (hB : b ≤ wr.heap.size) (hg : Below b w wr) (ho : wr.ownsRow (b + 1) e s v n xs) (h : (wr.alloc o).grownBy w1 v.ownBlock) : Below b w w1 :=
 own_grown hB hg (owns_low ho (by omega)) h
theorem push_page {w w1 : World} {b t e s n : Nat} {v : Value} {cs xs : List Value} {o : Obj} (h : Blk w b t cs) (ho : w.ownsRow (b + 1) e s v n xs) (hg : (w.alloc o).grownBy w1 v.ownBlock) : Blk w1 b t cs :=
 row_stands h ho hg fun e => by have := (ho.lt _ e).1; omega
def EntRel (P : Pg) (ia : Option Addr) (ic : Nat) (w_ : World) (x i : Value) (wr : World) : Prop := ∃ (k : Nat) (a : Option Addr) (cap : Nat), k ≤ P.items.length ∧ x = .slice a k cap ∧ i = .int .i64 k ∧
 Kept (Blk wr w_.heap.size 24 [.int .i64 P.lsn, .int .i64 P.kind, .int .i64 P.level, .int .i64 P.right, .string (str P.high), .slice ia P.items.length ic]) ∧ Kept (Two wr w_.heap.size k (eCells (ensTo P.level P.items k)) 0 [] (.slice a k cap) (.slice none 0 0)) ∧ Kept (Below w_.heap.size w_ wr)
theorem ent_step (P : Pg) (k : Nat) (hk : k < P.items.length) {e : En} (he : (itemN P.level P.items[k]).1 = e) : eCells (ensTo P.level P.items (k + 1)) = eCells (ensTo P.level P.items k) ++ [.string (str e.1), .int .i64 e.2.1, .int .i64 e.2.2] := by
 rw [ensTo_succ _ _ _ hk, eCells_append, he]
 simp [eCells, enC]
set_option maxRecDepth 100000 in
set_option maxHeartbeats 4000000 in
theorem rentries_any (P : Pg) (iv : Value) (w_ : World) (hin : PgIn w_ iv P) :
  Calls Tryz.prog 44 #[pgV P iv] w_ (EntPost P w_) := by
 obtain ⟨iE, hiE, hzE0, hzE1, hzE2⟩ := info_parts infoEntryO
 have hd : entriesOk P = (openOk P && decide (P.level = 0)) := rfl
 have HD := keep hd
 clear hd
 obtain ⟨w0, hw0⟩ : ∃ w0, w0 = w_.alloc (.cells (pgCells P iv).toArray 24) := ⟨_, rfl⟩
 have hg0 : Grow w_ w0 := by subst hw0; exact (Grow.refl w_).alloc _
 have hB0 : Blk w0 w_.heap.size 24 (pgCells P iv) := by subst hw0; exact Blk.new w_ _ _
 have hck := rcheck_any P iv w0 (hin.fits hg0)
 obtain ⟨hi, hs, hh, hl, hlsn⟩ := hin
 obtain ⟨ia, ic, rfl⟩ := items_form hi
 unfold pgCells at hw0 hB0
 unfold pgV at hck
 have HCk := keep hck
 have HI := keep hi
 have HS := keep hs
 have HB0 := keep hB0
 have HG0 := keep hg0
 obtain ⟨p0, p1, p2, p3, p4, p5, _⟩ := pgres hB0
 clear hck hi hs hB0 hg0
 unfold pgV
 go_enter Tryz.func44, Tryz.ntmps44
 go_upto_region 1 with fail
 rw [← hw0]
 clear hw0
 go_wp2_with fail
 refine HCk.out.mono ?_
 rintro x w1 ⟨rfl, hb1⟩
 have HB1 := keep (HB0.out.fits hb1)
 have HG1 := keep (Grow.trans HG0.out hb1)
 clear p0 p1 p2 p3 p4 p5 HCk hb1
 obtain ⟨p0, p1, p2, p3, p4, p5, _⟩ := pgres HB1.out
 cases hO : openOk P with
 | false =>
  have HNo := keep (show entriesOk P = false by rw [HD.out, hO]; rfl)
  clear hO
  simp only [Bool.false_eq_true, if_false]
  go_wp2_with fail
  go_ret2
  unfold EntPost
  rw [HNo.out, if_neg (by decide)]
  exact ⟨rfl, HG1.out⟩
 | true =>
  simp only [if_true]
  by_cases hz : P.level = 0
  ·have HYs := keep (show entriesOk P = true by rw [HD.out, hO, decide_eq_true hz]; rfl)
   have HZ := keep hz
   have hz2 : (P.level != 0) = false := by simp [hz]
   have h255 := (open_fine hO).1
   clear hO hz
   go_wp2_with fail
   clear p0 p1 p2 p3 p4 p5
   go_loopw [4, 5] (fun x i wr => EntRel P ia ic w_ x i wr) (fun _ i _ => P.items.length - (intOf i).toNat)
   case atStart => exact show EntRel P ia ic w_ _ _ _ from ⟨0, none, 0, Nat.zero_le _, rfl, rfl, HB1, keep ⟨by simpa [ensTo, eCells] using World.ownsRow_nil _ _ _ _, World.ownsRow_nil _ _ _ _⟩, HG1⟩
   case round =>
    obtain ⟨k, a, cap, hkl, rfl, rfl, HPr, HTr, HGr⟩ := hrel
    obtain ⟨p0, p1, p2, p3, p4, p5, _⟩ := pgres HPr.out
    by_cases hlt : k < P.items.length
    ·obtain ⟨cc, off, cap2, e, hcl⟩ := items_cells (Row.fits HI.out HGr.out) (by omega)
     simp only [Value.slice.injEq] at e
     obtain ⟨rfl, x1, rfl⟩ := e
     have hcell := hcl k hlt
     have hxl : (P.items[k].length : Int) ≤ 140737488355328 := HS.out _ (List.getElem_mem hlt)
     have hdx := fun (u : World) => rdecode_any P.items[k] u (by omega)
     have hit : (itemN P.level P.items[k]).1 = (decN P.items[k]).1 := by unfold itemN; rw [if_pos HZ.out]
     have hst := ent_step P k hlt hit
     generalize P.items[k] = raw at *
     generalize decN raw = D at *
     obtain ⟨⟨dk, dp, ds⟩, dcx⟩ := D
     unfold enV at hdx
     dsimp only at hdx hst
     have HDx := keep hdx
     have HSt := keep hst
     clear hdx hst hit hcl hxl x1
     go_wp2_with fail
     refine (HDx.out wr).mono ?_
     rintro x w6 ⟨rfl, hb6⟩
     go_upto_region 8 with fail
     obtain ⟨w7, hw7⟩ : ∃ w7, w7 = w6.alloc (.cells #[.string (str dk), .int .i64 dp, .int .i64 ds] 41) := ⟨_, rfl⟩
     have hb7 : Grow wr w7 := by subst hw7; exact Grow.alloc hb6 _
     have hX7 : Blk w7 w6.heap.size 41 [.string (str dk), .int .i64 dp, .int .i64 ds] := by subst hw7; exact Blk.new w6 _ [_, _, _]
     rw [← hw7]
     have HPv := keep (HPr.out.fits hb7)
     have HT := keep (HTr.out.fits hb7)
     have HGv := keep (Below.trans HGr.out (hb7.mono (by have := HPr.out.lt; omega)))
     clear hw7 hb6 hb7 hcell HPr HTr HGr p0 p1 p2 p3 p4 p5
     obtain ⟨c0, c1, c2, _⟩ := enres hX7
     clear hX7
     go_wp2_with ((at_builtin; go_must (refine wpList_append_own_at _ rfl _ _ 52 rfl (w_.heap.size + 1) 41 iE (.agg #[.string ⟨#[]⟩, .int .i64 0, .int .i64 0]) 3 32 Tryz.underlying52 hiE hzE0 hzE1 hzE2 rfl (by decide) _ _ _ rfl (HT.out.ens.alloc _) ⟨w7.heap.size, 0, none⟩ 1 1 [.string (str dk), .int .i64 dp, .int .i64 ds] rfl rfl (cell_three_newO _ _ _ _ _) (by intro u hu; simp at hu; rcases hu with rfl | rfl | rfl <;> rfl) (by unfold maxLen; omega) (by omega) (by have := HPv.out.lt; simp; omega) ?_); intro v' xa hown' hgrow _ _; obtain ⟨a', cap', rfl⟩ := own_form hown'))
     have HB9 := keep (push_page HPv.out HT.out.ens hgrow)
     have HG9 := keep (push_below (by have := HPv.out.lt; omega) HGv.out HT.out.ens hgrow)
     have h9 := HT.out.pushEns hgrow hown'
     rw [← HSt.out] at h9
     have HT9 := keep h9
     clear h9 hown' hgrow
     go_roundw
     case rel => exact show EntRel P (some ⟨cc, off, none⟩) ic w_ _ _ _ from ⟨k + 1, a', cap', by omega, rfl, by first | go_num | simp, HB9, HT9, HG9⟩
     case measure => simp [intOf]; omega
    ·have e : k = P.items.length := by omega
     subst e
     go_wp2_with fail
     go_ret2
     unfold EntPost
     rw [HYs.out, if_pos rfl]
     have hl9 : (ensN P).length = P.items.length := ensTo_length _ _ _ (Nat.le_refl _)
     rw [hl9]
     refine ⟨⟨a, cap, rfl, ?_⟩, HGr.out⟩
     have h9 := own_rowO HTr.out.ens
     unfold EnsS
     rw [hl9]
     exact h9
  ·have HNo := keep (show entriesOk P = false by rw [HD.out, decide_eq_false hz]; simp)
   have hz2 : (P.level != 0) = true := by simp [hz]
   clear hO hz
   go_wp2_with fail
   go_ret2
   unfold EntPost
   rw [HNo.out, if_neg (by decide)]
   exact ⟨rfl, HG1.out⟩
end Go.Proofs.YtaninphcgeaepaaGreat
namespace Go.Proofs.YtaninphcgeaepaaGreat
open Go.RowKit
def KidRel (P : Pg) (ia : Option Addr) (ic : Nat) (w_ : World) (x y i : Value) (wr : World) : Prop := ∃ (k : Nat) (a : Option Addr) (cap : Nat) (a2 : Option Addr) (cap2 : Nat), k ≤ P.items.length ∧ x = .slice a k cap ∧ y = .slice a2 k cap2 ∧ i = .int .i64 k ∧
 Kept (Blk wr w_.heap.size 24 [.int .i64 P.lsn, .int .i64 P.kind, .int .i64 P.level, .int .i64 P.right, .string (str P.high), .slice ia P.items.length ic]) ∧ Kept (Two wr w_.heap.size k (eCells (ensTo P.level P.items k)) k (iCells (kidsTo P.level P.items k)) (.slice a k cap) (.slice a2 k cap2)) ∧ Kept (Below w_.heap.size w_ wr)
theorem kid_step (P : Pg) (k : Nat) (hk : k < P.items.length) (hz : P.level ≠ 0) {q : Int} (he : (itemN P.level P.items[k]).2.1 = q) : iCells (kidsTo P.level P.items (k + 1)) = iCells (kidsTo P.level P.items k) ++ [.int .i64 q] := by
 unfold kidsTo
 rw [if_neg hz, if_neg hz, List.take_add_one, List.map_append, List.getElem?_eq_getElem hk, ← he]
 simp [iCells]
theorem kidsTo_len (P : Pg) (hz : P.level ≠ 0) : (kidsN P).length = P.items.length := by
 unfold kidsN kidsTo
 rw [if_neg hz]
 simp
set_option maxRecDepth 100000 in
set_option maxHeartbeats 4000000 in
theorem rkids_any (P : Pg) (iv : Value) (w_ : World) (hin : PgIn w_ iv P) :
  Calls Tryz.prog 54 #[pgV P iv] w_ (KidsPost P w_) := by
 obtain ⟨iE, hiE, hzE0, hzE1, hzE2⟩ := info_parts infoEntryO
 obtain ⟨iI, hiI, hzI0, hzI1, hzI2⟩ := info_parts infoIntO
 have hd : kidsOk P = (openOk P && !decide (P.level = 0)) := rfl
 have HD := keep hd
 clear hd
 obtain ⟨w0, hw0⟩ : ∃ w0, w0 = w_.alloc (.cells (pgCells P iv).toArray 24) := ⟨_, rfl⟩
 have hg0 : Grow w_ w0 := by subst hw0; exact (Grow.refl w_).alloc _
 have hB0 : Blk w0 w_.heap.size 24 (pgCells P iv) := by subst hw0; exact Blk.new w_ _ _
 have hck := rcheck_any P iv w0 (hin.fits hg0)
 obtain ⟨hi, hs, hh, hl, hlsn⟩ := hin
 obtain ⟨ia, ic, rfl⟩ := items_form hi
 unfold pgCells at hw0 hB0
 unfold pgV at hck
 have HCk := keep hck
 have HI := keep hi
 have HS := keep hs
 have HB0 := keep hB0
 have HG0 := keep hg0
 obtain ⟨p0, p1, p2, p3, p4, p5, _⟩ := pgres hB0
 clear hck hi hs hB0 hg0
 unfold pgV
 go_enter Tryz.func54, Tryz.ntmps54
 go_upto_region 1 with fail
 rw [← hw0]
 clear hw0
 go_wp2_with fail
 refine HCk.out.mono ?_
 rintro x w1 ⟨rfl, hb1⟩
 have HB1 := keep (HB0.out.fits hb1)
 have HG1 := keep (Grow.trans HG0.out hb1)
 clear p0 p1 p2 p3 p4 p5 HCk hb1
 obtain ⟨p0, p1, p2, p3, p4, p5, _⟩ := pgres HB1.out
 cases hO : openOk P with
 | false =>
  have HNo := keep (show kidsOk P = false by rw [HD.out, hO]; rfl)
  clear hO
  simp only [Bool.false_eq_true, if_false]
  go_wp2_with fail
  go_ret3
  unfold KidsPost
  rw [HNo.out, if_neg (by decide)]
  exact ⟨rfl, HG1.out⟩
 | true =>
  simp only [if_true]
  by_cases hz : P.level = 0
  ·have HNo := keep (show kidsOk P = false by rw [HD.out, decide_eq_true hz]; simp)
   have hz2 : (P.level == 0) = true := by simp [hz]
   clear hO hz
   go_wp2_with fail
   go_ret3
   unfold KidsPost
   rw [HNo.out, if_neg (by decide)]
   exact ⟨rfl, HG1.out⟩
  ·have HYs := keep (show kidsOk P = true by rw [HD.out, hO, decide_eq_false hz]; rfl)
   have HZ := keep hz
   have hz2 : (P.level == 0) = false := by simp [hz]
   have h255 := (open_fine hO).1
   clear hO hz
   go_wp2_with fail
   clear p0 p1 p2 p3 p4 p5
   go_loopw [5, 6, 7] (fun x y i wr => KidRel P ia ic w_ x y i wr) (fun _ _ i _ => P.items.length - (intOf i).toNat)
   case atStart => exact show KidRel P ia ic w_ _ _ _ _ from ⟨0, none, 0, none, 0, Nat.zero_le _, rfl, rfl, rfl, HB1, keep ⟨by simpa [ensTo, eCells] using World.ownsRow_nil _ _ _ _, by simpa [kidsTo, iCells] using World.ownsRow_nil _ _ _ _⟩, HG1⟩
   case round =>
    obtain ⟨k, a, cap, a2, cap2, hkl, rfl, rfl, rfl, HPr, HTr, HGr⟩ := hrel
    obtain ⟨p0, p1, p2, p3, p4, p5, _⟩ := pgres HPr.out
    by_cases hlt : k < P.items.length
    ·obtain ⟨cc, off, cap3, e, hcl⟩ := items_cells (Row.fits HI.out HGr.out) (by omega)
     simp only [Value.slice.injEq] at e
     obtain ⟨rfl, x1, rfl⟩ := e
     have hcell := hcl k hlt
     have hxl : (P.items[k].length : Int) ≤ 140737488355328 := HS.out _ (List.getElem_mem hlt)
     have hdx := fun (u : World) => runsep_any P.items[k] u (by omega)
     have hit : itemN P.level P.items[k] = unsN P.items[k] := by unfold itemN; rw [if_neg HZ.out]
     have hst := ent_step P k hlt (congrArg Prod.fst hit)
     have hst2 := kid_step P k hlt HZ.out (congrArg (fun x => x.2.1) hit)
     generalize P.items[k] = raw at *
     generalize unsN raw = D at *
     obtain ⟨⟨dk, dp, ds⟩, dq, dcx⟩ := D
     unfold enV at hdx
     dsimp only at hdx hst hst2
     have HDx := keep hdx
     have HSt := keep hst
     have HSt2 := keep hst2
     clear hdx hst hst2 hit hcl hxl x1
     go_wp2_with fail
     refine (HDx.out wr).mono ?_
     rintro x w6 ⟨rfl, hb6⟩
     go_upto_region 9 with fail
     obtain ⟨w7, hw7⟩ : ∃ w7, w7 = w6.alloc (.cells #[.string (str dk), .int .i64 dp, .int .i64 ds] 41) := ⟨_, rfl⟩
     have hb7 : Grow wr w7 := by subst hw7; exact Grow.alloc hb6 _
     have hX7 : Blk w7 w6.heap.size 41 [.string (str dk), .int .i64 dp, .int .i64 ds] := by subst hw7; exact Blk.new w6 _ [_, _, _]
     rw [← hw7]
     have HPv := keep (HPr.out.fits hb7)
     have HT := keep (HTr.out.fits hb7)
     have HGv := keep (Below.trans HGr.out (hb7.mono (by have := HPr.out.lt; omega)))
     clear hw7 hb6 hb7 hcell HPr HTr HGr p0 p1 p2 p3 p4 p5
     obtain ⟨c0, c1, c2, _⟩ := enres hX7
     clear hX7
     go_upto_region 10 with ((at_builtin; go_must (refine wpList_append_own_at _ rfl _ _ 52 rfl (w_.heap.size + 1) 41 iE (.agg #[.string ⟨#[]⟩, .int .i64 0, .int .i64 0]) 3 32 Tryz.underlying52 hiE hzE0 hzE1 hzE2 rfl (by decide) _ _ _ rfl (HT.out.ens.alloc _) ⟨w7.heap.size, 0, none⟩ 1 1 [.string (str dk), .int .i64 dp, .int .i64 ds] rfl rfl (cell_three_newO _ _ _ _ _) (by intro u hu; simp at hu; rcases hu with rfl | rfl | rfl <;> rfl) (by unfold maxLen; omega) (by omega) (by have := HPv.out.lt; simp; omega) ?_); intro v' xa hown' hgrow _ _; obtain ⟨a', cap', rfl⟩ := own_form hown'))
     have HB9 := keep (push_page HPv.out HT.out.ens hgrow)
     have HG9 := keep (push_below (by have := HPv.out.lt; omega) HGv.out HT.out.ens hgrow)
     have h9 := HT.out.pushEns hgrow hown'
     rw [← HSt.out] at h9
     have HT9 := keep h9
     clear h9 hown' hgrow c0 c1 c2
     go_wp2_with ((at_builtin; go_must (refine wpList_append_own_at _ rfl _ _ 25 rfl (w_.heap.size + 1) 3 iI (.int .i64 0) 1 8 Tryz.underlying25 hiI hzI0 hzI1 hzI2 rfl (by decide) _ _ _ rfl (HT9.out.kids.alloc _) ⟨xa.heap.size, 0, none⟩ 1 1 [.int .i64 dq] rfl rfl (cell_one_new _ _ _) (ints_oneCell .i64 [dq]) (by unfold maxLen; omega) (by omega) (by have := HB9.out.lt; simp; omega) ?_); intro v2 xb hown2 hgrow2 _ _; obtain ⟨a2', cap2', rfl⟩ := own_form hown2))
     have HB10 := keep (push_page HB9.out HT9.out.kids hgrow2)
     have HG10 := keep (push_below (by have := HB9.out.lt; omega) HG9.out HT9.out.kids hgrow2)
     have h9 := HT9.out.pushKids hgrow2 hown2
     rw [← HSt2.out] at h9
     have HT10 := keep h9
     clear h9 hown2 hgrow2
     go_roundw
     case rel => exact show KidRel P (some ⟨cc, off, none⟩) ic w_ _ _ _ _ from ⟨k + 1, a', cap', a2', cap2', by omega, rfl, rfl, by first | go_num | simp, HB10, HT10, HG10⟩
     case measure => simp [intOf]; omega
    ·have e : k = P.items.length := by omega
     subst e
     go_wp2_with fail
     go_ret3
     unfold KidsPost
     rw [HYs.out, if_pos rfl]
     have hl9 : (ensN P).length = P.items.length := ensTo_length _ _ _ (Nat.le_refl _)
     have hl8 := kidsTo_len P HZ.out
     rw [hl9, hl8]
     refine ⟨⟨a, cap, a2, cap2, rfl, ?_, ?_⟩, HGr.out⟩
     ·have h9 := own_rowO HTr.out.ens
      unfold EnsS
      rw [hl9]
      exact h9
     ·have h9 := own_rowO HTr.out.kids
      unfold IntsS
      rw [hl8]
      exact h9
end Go.Proofs.YtaninphcgeaepaaGreat
