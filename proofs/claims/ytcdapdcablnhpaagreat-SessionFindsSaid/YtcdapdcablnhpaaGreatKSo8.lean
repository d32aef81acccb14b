import Derived.Test.YtcdapdcablnhpaaGreatKFd2
import Derived.Test.YtcdapdcablnhpaaGreatKFc1
import Derived.Test.YtcdapdcablnhpaaGreatKFc2
import Derived.Test.YtcdapdcablnhpaaGreatKFp1
import Derived.Test.YtcdapdcablnhpaaGreatKFa1
import Derived.Test.YtcdapdcablnhpaaGreatKFq1
import Derived.Test.YtcdapdcablnhpaaGreatKLexn
import Derived.Test.YtcdapdcablnhpaaGreatKSo4
namespace Go.Proofs.YtcdapdcablnhpaaGreat
open Go.RowKit
attribute [local go_sem] givesV lookV knAt hgs
def lk11 (j : Nat) : Nat := if j = 11 then 10 else j
def GoodW (Q : Pg) (cs : List Value) (w : World) : Prop := ∃ iv, cs = pgCells Q iv /\ ItemsS w iv Q.items
theorem goodW_stays (Q : Pg) : Lasts 28 (GoodW Q) := by
 rintro cs u v h ⟨iv, h1, h2⟩;exact ⟨iv, h1, RowS.move h2 (fun c blk f hb => h c blk _ f (by decide) hb)⟩
theorem goodW_lasts {N b : Nat} {Q : Pg} {u v : World} {iv : Value} (h : Fill N 28 (GoodW Q) u v) (hb : Blk u b 28 (pgCells Q iv)) (hi : ItemsS u iv Q.items) :
  ∃ iv', Blk v b 28 (pgCells Q iv') /\ ItemsS v iv' Q.items := by
 rcases h.page b _ hb with h1 | ⟨cs', _, ⟨iv', rfl, h3⟩, h4⟩
 ·exact ⟨iv, h1, h.row hi (by decide)⟩
 ·exact ⟨iv', h4, h3⟩
def F1Rel (n9 : Nat) (b7 : Nat) (w1 : World) (i : Value) (wr : World) : Prop := ∃ (n : Nat) (P : Pg) (iv : Value), n <= n9 /\ i = .int .i64 n /\ Kept (Blk wr b7 28 (pgCells P iv)) /\ Kept (ItemsS wr iv P.items) /\ Kept (ClogK P) /\ Kept (Grow w1 wr)
theorem vwIn_of {u : World} {iv : Value} {P : Pg} (nx : Int) (hK : ClogK P) (hi : ItemsS u iv P.items) : VwIn u ⟨16, nx, [], 0, [], P⟩ (.slice none 0 0) (.slice none 0 0) iv :=
 ⟨Row.nil _ _ _ _, Row.nil _ _ _ _, hi.weak, by simp, by simp, by have := hK.1; show ((P.items.length : Nat) : Int) <= _; omega, fun x hx => by have := hK.2 x hx; omega⟩
theorem rwf_below {B : Nat} {u v : World} (h : RwF B u v) (hb : B <= u.heap.size) : Below B u v := ⟨(h.2 hb).1, (h.2 hb).2.1, (h.2 hb).2.2.1, h.1, (h.2 hb).2.2.2.1⟩
def F3Rel (W : List Rw) (key : List UInt8) (w6 : World) (i : Value) (wr : World) : Prop := ∃ k : Nat, k <= W.length /\ i = .int .i64 k /\ Kept (∀ j (hj : j < W.length), j < k -> Op.bytesLess W[j].1 key = true) /\ Kept (Grow w6 wr)
def rpC (r : Rp) : List Value := [.int .i64 r.1, .bool r.2.1, .string (str r.2.2.1), .slice none 0 0]
theorem oneR_rows (key : List UInt8) (W : List Rw) : ∃ q1 q2 q3, oneR key W = (q1, q2, q3, []) := by
 unfold oneR;have h : ∀ (W : List Rw) (a : Rp), a.2.2.2 = [] -> (W.foldl (fun a r => if r.1 = key then ((0, true, r.2, []) : Rp) else a) a).2.2.2 = [] := by
  intro W
  induction W with
  | nil => exact fun a h => h
  | cons r W ih => intro a h; rw [List.foldl_cons]; exact ih _ (by split; rfl; exact h)
 have h2 := h W (0, false, [], []) rfl;generalize W.foldl _ _ = R at *;obtain ⟨q1, q2, q3, q4⟩ := R;dsimp only at h2;subst h2;exact ⟨_, _, _, rfl⟩
def F4Rel (W : List Rw) (key : List UInt8) (wI : World) (i : Value) (wr : World) : Prop := ∃ k : Nat, k <= W.length /\ i = .int .i64 k /\ Kept (Blk wr wI.heap.size 56 (rpC (oneR key (W.take k)))) /\ Kept (Grow wI wr)
def F2Rel (l : List Tpl) (v : Vw) (wA : World) (wv i : Value) (wr : World) : Prop := ∃ (n : Nat) (W : List Rw), n <= l.length /\ n <= 12 /\ i = .int .i64 n /\ Kept (WantOk v (l.take n) W) /\ Kept (OwnR wA.heap.size wr wv W) /\ Kept (Grow wA wr)
set_option maxRecDepth 100000 in
set_option maxHeartbeats 16000000 in
theorem finds_law (l : List Tpl) (lv : Value) (D : List Int) (dv : Value) (nx : Int) (key : List UInt8) (w_ : World) (hl : Row w_ 44 lv l.length (l.flatMap tplC)) (hll : (l.length : Int) <= 4398046511104) (hd : Ints w_ dv D) (hdl : (D.length : Int) <= 70368744177664) :
  Calls Tryz.prog 3 #[lv, .agg #[dv, .int .i64 nx], .string (str key)] w_ fun y w' => y = .returned (.bool true) /\ Below w_.heap.size w_ w' := by
 obtain ⟨la, lc, rfl⟩ := row_slice hl;obtain ⟨da, dc, rfl, -⟩ := ints_form hd;obtain ⟨w0, hw0⟩ : ∃ w0, w0 = w_.alloc (.cells #[.slice da D.length dc, .int .i64 nx] 25) := ⟨_, rfl⟩;have hg0 : Grow w_ w0 := by subst hw0; exact (Grow.refl w_).alloc _
 have hE0 : Blk w0 w_.heap.size 25 [.slice da D.length dc, .int .i64 nx] := by subst hw0; exact Blk.new w_ _ [_, _]
 have hbl := blank_any 16 1 w0;rw [blank16] at hbl;have hk0 : ClogK (madeP 1 [0, 0, 0, 0] 0) := clogK_made (by decide);generalize madeP 1 [0, 0, 0, 0] 0 = P0 at *;unfold CpgPost pgV at hbl;dsimp only at hbl;have HBl := keep hbl;have HK0 := keep hk0;have HL := keep (Row.fits hl hg0);have HD := keep (Row.fits hd hg0);have HLl := keep hll;have HDl := keep hdl;have HG0 := keep hg0;have HE := keep hE0;have he9 := hE0.lt;clear hl hd hll hdl hg0 hE0 hbl hk0;go_enter Tryz.func3, Tryz.ntmps3;go_upto_region 1 with fail;rw [<- hw0];clear hw0;go_wp2_with fail;refine HBl.out.mono ?_;rintro y w1 ⟨iv, rfl, hi1, hb1⟩;obtain ⟨ia, ic, rfl⟩ := itemsS_form hi1;have HI1 := keep hi1;have HG1 := keep (show Grow w0 w1 from hb1);have hsz1 := hb1.size;clear hi1 hb1 HBl;go_upto_region 2 with fail;obtain ⟨w2, hw2⟩ : ∃ w2, w2 = w1.alloc (.cells #[.int .i64 P0.lsn, .int .i64 P0.kind, .int .i64 P0.level, .int .i64 P0.right, .string (str P0.high), .slice ia P0.items.length ic] 28) := ⟨_, rfl⟩;rw [<- hw2];have hg2 : Grow w1 w2 := by subst hw2; exact (Grow.refl _).alloc _
 have hB2 : Blk w2 w1.heap.size 28 (pgCells P0 (.slice ia P0.items.length ic)) := by subst hw2; exact Blk.new w1 _ [_, _, _, _, _, _]
 have HB2 := keep hB2;have HI2 := keep (RowS.fits HI1.out hg2);have HG2 := keep hg2;have HL1 := keep (Row.fits HL.out HG1.out);have HD1 := keep (Row.fits HD.out HG1.out);have HE1 := keep (HE.out.fits HG1.out);have HG01 := keep (Grow.trans HG0.out HG1.out);have hDl := HDl.out;have hLl := HLl.out;clear hw2 hg2 hB2 HI1 HL HD HE HG0 HG1;go_wp2_with fail;go_loopw [9] (fun i wr => F1Rel D.length w1.heap.size w1 i wr) (fun i _ => D.length - (intOf i).toNat)
 case atStart => exact show F1Rel _ _ _ _ _ from ⟨0, P0, _, Nat.zero_le _, rfl, HB2, HI2, HK0, HG2⟩
 case round =>
  obtain ⟨n, P, iv, hn1, rfl, HB7, HI7, HK7, HG7⟩ := hrel;obtain ⟨va, vc, rfl⟩ := itemsS_form HI7.out;obtain ⟨g0, g1⟩ := (show wr.cell? ⟨w_.heap.size, 0, none⟩ = some (.slice da D.length dc) /\ wr.cell? ⟨w_.heap.size, 1, none⟩ = some (.int .i64 nx) from ⟨(HE1.out.fits HG7.out).cell 0 (by simp), (HE1.out.fits HG7.out).cell 1 (by simp)⟩)
  by_cases hlt : n < D.length
  ·obtain ⟨c, off, cap, e1, hd7⟩ := ints_at HD1.out hlt;simp only [Value.slice.injEq] at e1;obtain ⟨rfl, -, rfl⟩ := e1;have hst := fun (u : World) (h : ItemsS u (.slice va P.items.length vc) P.items) => set_any 16 P (.slice va P.items.length vc) D[n] 2 u h.weak (fun x hx => by have := HK7.out.2 x hx; omega) (by decide)
   have hk9 := clogK_set HK7.out (m := 16) (x := D[n]) (s := 2);generalize D[n] = x9 at *;generalize setS 16 P x9 2 = R at *;obtain ⟨Q, cd⟩ := R;unfold CpgPost pgV at hst;dsimp only at hst hk9;have HSt := keep hst;have HK9 := keep hk9;have HD7 := keep (fun (u : World) (hu : Fill wr.heap.size 28 (GoodW Q) wr.drew u) => hd7 u (Grow.trans HG7.out (Grow.undrew (u := wr) hu.below)));have HE7 := keep (fun (u : World) (hu : Fill wr.heap.size 28 (GoodW Q) wr.drew u) => ((HE1.out.fits HG7.out).fits (Grow.undrew (u := wr) hu.below)).cell 0 (by simp));have HP7 := keep (fun (u : World) (hu : Fill wr.heap.size 28 (GoodW Q) wr.drew u) => Blk.below HB7.out.drew hu.below HB7.out.lt);have HI8 := keep (fun (u : World) (hu : Fill wr.heap.size 28 (GoodW Q) wr.drew u) => (hu.undrew.row HI7.out (by decide) : ItemsS u (.slice va P.items.length vc) P.items));clear hst hk9 hd7;unfold pgCells at HP7;simp only [List.getElem_cons_zero] at HE7;go_upto_region 5 with fail;clear g0 g1;refine wp_region_link_named (by kernel_rfl) 13 lk11 (Fill wr.heap.size 28 (GoodW Q)) (Fill.refl _) (fun _ _ _ => Fill.trans (goodW_stays Q)) (by kernel_rfl) (by kernel_rfl) [(38, 0), (39, 1), (40, 2), (41, 3), (42, 4), (43, 5), (44, 6), (37, 7), (45, 8), (46, 9), (10, 10), (11, 12)] (by kernel_rfl) [(0, true), (1, true), (2, true), (3, true), (4, true), (5, true), (6, true), (7, true), (8, true), (9, true), (10, true), (11, true), (12, true)] (by kernel_rfl) rfl rfl ?_;intro a0 ha0
   have hsz : a0.tmps.size = 217 := (size_at ha0).trans rfl;have s4 := slot_at ha0 4 rfl;have s7 := slot_at ha0 7 rfl;have s9 := slot_at ha0 9 rfl;have HA0 := keep ha0;clear ha0;apply lexkf_eq hsz [] [(39, 1), (40, 2), (41, 3), (42, 4), (43, 5), (37, 7), (45, 8), (46, 9), (10, 10)] none (by kernel_rfl) (by kernel_rfl) (by kernel_rfl) (by kernel_rfl) rfl rfl
   ·intro xs w hw hp K hK;obtain ⟨p0, p1, p2, p3, p4, p5, _⟩ := pgres (HP7.out w hw);go_simp;exact hK _ (Fill.refl _)
   apply lexkf_eq hsz [] [(38, 0), (41, 3), (42, 4), (43, 5), (44, 6), (37, 7), (45, 8), (46, 9), (10, 10)] none (by kernel_rfl) (by kernel_rfl) (by kernel_rfl) (by kernel_rfl) rfl rfl
   ·intro xs w hw hp K hK;go_simp;exact hK _ (Fill.refl _)
   apply lexkf_eq hsz [(1, true)] [(38, 0), (39, 1), (41, 3), (43, 5), (44, 6), (37, 7), (45, 8), (46, 9), (10, 10)] none (by kernel_rfl) (by kernel_rfl) (by kernel_rfl) (by kernel_rfl) rfl rfl
   ·intro xs w hw hp K hK;simp only [hzk, lk11, reduceIte, Nat.reduceEqDiff] at hp;have e0 := HE7.out w hw;go_simp;exact hK _ (Fill.refl _)
   apply lexkf_eq hsz [] [(38, 0), (39, 1), (40, 2), (43, 5), (44, 6), (37, 7), (45, 8), (46, 9), (10, 10)] none (by kernel_rfl) (by kernel_rfl) (by kernel_rfl) (by kernel_rfl) rfl rfl
   ·intro xs w hw hp K hK;go_simp;exact hK _ (Fill.refl _)
   apply lexkf_eq hsz [(2, true), (3, true)] [(38, 0), (39, 1), (40, 2), (41, 3), (44, 6), (37, 7), (45, 8), (46, 9), (10, 10)] none (by kernel_rfl) (by kernel_rfl) (by kernel_rfl) (by kernel_rfl) rfl rfl
   ·intro xs w hw hp K hK;simp only [hzk, lk11, reduceIte, Nat.reduceEqDiff] at hp;have q1 : n < D.length := hlt;go_simp;exact hK _ (Fill.refl _)
   apply lexkf_eq hsz [(4, true)] [(38, 0), (39, 1), (40, 2), (41, 3), (42, 4), (37, 7), (45, 8), (46, 9), (10, 10)] none (by kernel_rfl) (by kernel_rfl) (by kernel_rfl) (by kernel_rfl) rfl rfl
   ·intro xs w hw hp K hK;simp only [hzk, lk11, reduceIte, Nat.reduceEqDiff] at hp;have d0 := HD7.out w hw;go_simp;exact hK _ (Fill.refl _)
   refine lexkf_says hsz (fun v u => ∃ iv, v = .tuple #[pgV Q iv, .int .i64 cd] /\ ItemsS u iv Q.items) (fun _ _ _ g h => h.elim fun iv h => ⟨iv, h.1, g.row h.2 (by decide)⟩) [(0, true), (5, true)] [(38, 0), (39, 1), (40, 2), (41, 3), (42, 4), (43, 5), (45, 8), (46, 9), (10, 10)] none (by kernel_rfl) (by kernel_rfl) (by kernel_rfl) (by kernel_rfl) rfl rfl ?_ ?_
   ·intro xs w hw hp K hK;simp only [hzk, lk11, reduceIte, Nat.reduceEqDiff] at hp;go_simp;exact (HSt.out w (HI8.out w hw)).mono fun e w' ⟨iv, h1, h2, h3⟩ => ⟨_, h1, hK _ _ ⟨iv, rfl, h2⟩ (Fill.of_grow h3 hw.below.size)⟩
   refine lexkf_says hsz (fun v u => ∃ iv, v = .tuple #[pgV Q iv, .int .i64 cd] /\ ItemsS u iv Q.items) (fun _ _ _ g h => h.elim fun iv h => ⟨iv, h.1, g.row h.2 (by decide)⟩) [(6, true)] [(38, 0), (39, 1), (40, 2), (41, 3), (42, 4), (43, 5), (44, 6), (10, 10)] none (by kernel_rfl) (by kernel_rfl) (by kernel_rfl) (by kernel_rfl) rfl rfl ?_ ?_
   ·intro xs w hw hp K hK;simp only [hzk, lk11, reduceIte, Nat.reduceEqDiff] at hp;obtain ⟨iv8, h8, hit⟩ := hp;go_simp;exact hK _ _ ⟨iv8, rfl, hit⟩ (Fill.refl _)
   refine lexkf_says hsz (fun v u => ∃ iv, v = pgV Q iv /\ ItemsS u iv Q.items) (fun _ _ _ g h => h.elim fun iv h => ⟨iv, h.1, g.row h.2 (by decide)⟩) [(7, true)] [(38, 0), (39, 1), (40, 2), (41, 3), (42, 4), (43, 5), (44, 6), (37, 7), (46, 9), (10, 10)] none (by kernel_rfl) (by kernel_rfl) (by kernel_rfl) (by kernel_rfl) rfl rfl ?_ ?_
   ·intro xs w hw hp K hK;simp only [hzk, lk11, reduceIte, Nat.reduceEqDiff] at hp;obtain ⟨iv8, h8, hit⟩ := hp;go_simp;exact hK _ _ ⟨iv8, rfl, hit⟩ (Fill.refl _)
   refine lexkf_says hsz (fun v _ => v = .int .i64 cd) (fun _ _ _ _ h => h) [(7, true)] [(38, 0), (39, 1), (40, 2), (41, 3), (42, 4), (43, 5), (44, 6), (37, 7), (45, 8), (10, 10)] none (by kernel_rfl) (by kernel_rfl) (by kernel_rfl) (by kernel_rfl) rfl rfl ?_ ?_
   ·intro xs w hw hp K hK;simp only [hzk, lk11, reduceIte, Nat.reduceEqDiff] at hp;obtain ⟨iv8, h8, hit⟩ := hp;go_simp;exact hK _ _ rfl (Fill.refl _)
   refine lexkf_says hsz (fun v u => ∃ b, v = .pointer (some ⟨b, 0, none⟩) /\ wr.heap.size <= b /\ ∃ a0 a1 a2 a3 a4 a5, Blk u b 28 [a0, a1, a2, a3, a4, a5]) (fun _ _ _ g ⟨b, h1, h2, h3⟩ => ⟨b, h1, h2, fill_six g h3⟩) [] [(38, 0), (39, 1), (40, 2), (41, 3), (42, 4), (43, 5), (44, 6), (37, 7), (45, 8), (46, 9)] none (by kernel_rfl) (by kernel_rfl) (by kernel_rfl) (by kernel_rfl) rfl rfl ?_ ?_
   ·intro xs w hw hp K hK;go_simp;exact hK _ _ ⟨_, rfl, hw.below.size, _, _, _, _, _, _, Blk.new w _ [_, _, _, _, _, _]⟩ (Fill.of_grow ((Grow.refl w).alloc _) hw.below.size)
   refine lexkf_link hsz (fun v u => ∃ b, v = .pointer (some ⟨b, 0, none⟩) /\ wr.heap.size <= b /\ ∃ iv', Blk u b 28 (pgCells Q iv') /\ ItemsS u iv' Q.items) (fun _ _ _ hg ⟨b, h1, h2, iv', h3, h4⟩ => ⟨b, h1, h2, goodW_lasts hg h3 h4⟩) [(8, true), (10, true)] [(38, 0), (39, 1), (40, 2), (41, 3), (42, 4), (43, 5), (44, 6), (37, 7), (45, 8), (46, 9), (10, 10)] none (by kernel_rfl) (by kernel_rfl) (by kernel_rfl) (by kernel_rfl) rfl (by decide) ?_ ?_
   ·intro xs w hw hp K hK;simp only [hzk, lk11, reduceIte, Nat.reduceEqDiff] at hp;obtain ⟨⟨iv', h17, hit⟩, b, h19, hbN, a0_, a1_, a2_, a3_, a4_, a5_, hB⟩ := hp;obtain ⟨c0, c1, c2, c3, c4, c5, f0, f1, f2, f3, f4, f5⟩ := pgres hB;obtain ⟨iva', ivc', rfl⟩ := itemsS_form hit;have Hset := keep (pgset hB (.int .i64 Q.lsn) (.int .i64 Q.kind) (.int .i64 Q.level) (.int .i64 Q.right) (.string (str Q.high)) (.slice iva' Q.items.length ivc'));have Hbut := keep (pgbut w b (.int .i64 Q.lsn) (.int .i64 Q.kind) (.int .i64 Q.level) (.int .i64 Q.right) (.string (str Q.high)) (.slice iva' Q.items.length ivc'));have Hit2 := keep (items_but hit Hbut.out hB (by decide));have HB := keep hB;unfold pgV at h17;clear hB hit;go_simp;exact hK _ _ ⟨b, h19, hbN, _, Hset.out, Hit2.out⟩ (Fill.but (cs' := pgCells Q (.slice iva' Q.items.length ivc')) Hbut.out hbN hw.below.size HB.out rfl Hset.out ⟨_, rfl, Hit2.out⟩)
   apply lexkf_eq hsz [(9, true)] [(38, 0), (39, 1), (40, 2), (41, 3), (42, 4), (43, 5), (44, 6), (37, 7), (45, 8), (46, 9), (10, 10)] none (by kernel_rfl) (by kernel_rfl) (by kernel_rfl) (by kernel_rfl) rfl rfl
   ·intro xs w hw hp K hK;simp only [hzk, lk11, reduceIte, Nat.reduceEqDiff] at hp;go_simp;exact hK _ (Fill.refl _)
   intro xs w hw hp;have ha0 := HA0.out;clear HA0 hsz s4 s7 s9;simp only [hzk, lk11, reduceIte, Nat.reduceEqDiff] at hp;have hM := hp.2.2.2.2.2.2.2.2.2.1;have h12 := hp.2.2.2.2.2.2.2.2.2.2.2.2;obtain ⟨b, h19, hbN, ivQ, hQ, hiQ⟩ := hp.2.2.2.2.2.2.2.2.2.2.2.1;clear hp;subst ha0;simp only [putAll, hM, h12, h19];have HG4 := keep (show Grow wr w from hw.undrew.below);obtain ⟨qa, qc, rfl⟩ := itemsS_form hiQ;have hB7 := HB7.out.fits HG4.out;have hbne : b ≠ w1.heap.size := by have h7 := HB7.out.lt; omega
   have hsz9 : w1.heap.size <= w.heap.size := Nat.le_trans HG7.out.size HG4.out.size;have HIv := keep (RowS.fits HI7.out HG4.out);have HiQ := keep hiQ;have HGs := keep (Grow.trans HG7.out HG4.out);generalize w = w3 at *;clear hw hiQ HD7 HE7 HP7 HI8 HSt HG4;simp only [List.drop_succ_cons, List.drop_zero];go_frame
   by_cases hcd : cd = 0
   ·subst hcd;unfold pgCells at hQ hB7;obtain ⟨y0, y1, y2, y3, y4, y5, _⟩ := pgres hQ;obtain ⟨p0, p1, p2, p3, p4, p5, q0, q1, q2, q3, q4, q5⟩ := pgres hB7;have hlw := hB7.lt;go_upto_region 4 with fail;clear y0 y1 y2 y3 y4 y5 p0 p1 p2 p3 p4 p5 q0 q1 q2 q3 q4 q5;obtain ⟨w5, hw5⟩ : ∃ w5, w5 = ((((((w3.setCell ⟨w1.heap.size, 0, none⟩ (.int .i64 Q.lsn)).setCell ⟨w1.heap.size, 1, none⟩ (.int .i64 Q.kind)).setCell ⟨w1.heap.size, 2, none⟩ (.int .i64 Q.level)).setCell ⟨w1.heap.size, 3, none⟩ (.int .i64 Q.right)).setCell ⟨w1.heap.size, 4, none⟩ (.string (str Q.high))).setCell ⟨w1.heap.size, 5, none⟩ (.slice qa Q.items.length qc)) := ⟨_, rfl⟩;rw [<- hw5];have hset : Blk w5 w1.heap.size 28 (pgCells Q (.slice qa Q.items.length qc)) := by rw [hw5]; exact pgset hB7 (.int .i64 Q.lsn) (.int .i64 Q.kind) (.int .i64 Q.level) (.int .i64 Q.right) (.string (str Q.high)) (.slice qa Q.items.length qc)
    have hbut : But w1.heap.size w3 w5 := by rw [hw5]; exact pgbut w3 w1.heap.size (.int .i64 Q.lsn) (.int .i64 Q.kind) (.int .i64 Q.level) (.int .i64 Q.right) (.string (str Q.high)) (.slice qa Q.items.length qc)
    have HS5 := keep hset;have HI5 := keep (items_but HiQ.out hbut hB7 (by decide));have HG5 := keep (But.below HGs.out hbut (Nat.le_refl _) hsz9);clear hw5 hset hbut hB7 hQ;go_wp2_with fail;go_roundw
    case rel => exact show F1Rel _ _ _ _ _ from ⟨n + 1, Q, _, hlt, by go_num, HS5, HI5, HK9, HG5⟩
    case measure => simp [intOf]; omega
   ·have e6 : (cd == 0) = false := by simpa using hcd
    have HB5 := keep hB7;clear hQ hB7 hcd;go_wp2_with fail;go_roundw
    case rel => exact show F1Rel _ _ _ _ _ from ⟨n + 1, P, _, hlt, by go_num, HB5, HIv, HK7, HGs⟩
    case measure => simp [intOf]; omega
  ·have hld := laid_any l (.slice la l.length lc) P va P.items.length vc wr (Row.fits HL1.out HG7.out) HLl.out;have hB7 := HB7.out;unfold pgCells at hB7;obtain ⟨p0, p1, p2, p3, p4, p5, _⟩ := pgres hB7;unfold LaidPost pgV at hld;have HLd := keep hld;clear hld hB7;go_wp2_with fail;refine HLd.out.mono ?_;rintro y w3 ⟨P1, i1, P2, i2, ok, rfl, ⟨a1, n1, c1, rfl⟩, ⟨a2, n2, c2, rfl⟩, hok, hb3⟩;have HOk := keep hok;have HG3 := keep (show Grow wr w3 from hb3);have HB3 := keep (HB7.out.fits hb3);have HI3 := keep (RowS.fits HI7.out hb3);have HE3 := keep (HE1.out.fits (Grow.trans HG7.out hb3));clear hok hb3 HLd p0 p1 p2 p3 p4 p5 g0 g1;go_upto_region 9 with fail;obtain ⟨w4, hw4⟩ : ∃ w4, w4 = (w3.alloc (.cells #[.int .i64 P1.lsn, .int .i64 P1.kind, .int .i64 P1.level, .int .i64 P1.right, .string (str P1.high), .slice a1 n1 c1] 28)).alloc (.cells #[.int .i64 P2.lsn, .int .i64 P2.kind, .int .i64 P2.level, .int .i64 P2.right, .string (str P2.high), .slice a2 n2 c2] 28) := ⟨_, rfl⟩;rw [<- hw4];have hg4 : Grow w3 w4 := by subst hw4; exact ((Grow.refl w3).alloc _).alloc _
   have hB12 : Blk w4 w3.heap.size 28 (pgCells P1 (.slice a1 n1 c1)) := by subst hw4; exact (Blk.new w3 _ [_, _, _, _, _, _]).alloc _
   have hB13 : Blk w4 (w3.heap.size + 1) 28 (pgCells P2 (.slice a2 n2 c2)) := by
    have := Blk.new (w3.alloc (.cells #[.int .i64 P1.lsn, .int .i64 P1.kind, .int .i64 P1.level, .int .i64 P1.right, .string (str P1.high), .slice a1 n1 c1] 28)) 28 [.int .i64 P2.lsn, .int .i64 P2.kind, .int .i64 P2.level, .int .i64 P2.right, .string (str P2.high), .slice a2 n2 c2];have e : (w3.alloc (.cells #[.int .i64 P1.lsn, .int .i64 P1.kind, .int .i64 P1.level, .int .i64 P1.right, .string (str P1.high), .slice a1 n1 c1] 28)).heap.size = w3.heap.size + 1 := by simp
    rw [e] at this;subst hw4; exact this
   have HG4 := keep (Grow.trans HG3.out hg4);have HB12 := keep hB12;have HB13 := keep hB13;have HB4 := keep (HB3.out.fits hg4);have HI4 := keep (RowS.fits HI3.out hg4);have hE4 := HE3.out.fits hg4;have HE4 := keep hE4;have HGr := keep (Grow.trans HG01.out (Grow.trans HG7.out HG4.out));have HL4 := keep (Row.fits HL1.out (Grow.trans HG7.out HG4.out));have hne13 : w3.heap.size + 1 ≠ w1.heap.size := by have := HG7.out.size; have := HG3.out.size; omega
   have hne12 : w3.heap.size ≠ w1.heap.size := by have h7 := HB7.out.lt; have := HG3.out.size; omega
   have hgr4 := keep hg4;clear hw4 hg4 hB12 hB13 hE4 HB3 HI3 HE3 HG3 HG4 HE1 HL1 HD1 HB7 HI7 HG7 HG01;cases ok with
   | false =>
    go_wp2_with fail;refine (awake19_any w4).mono ?_;rintro y w5 ⟨rfl, hb5⟩;have HG5 := keep (Grow.trans HGr.out hb5);clear hb5;go_wp2_with fail;go_ret;exact ⟨rfl, HG5.out⟩
   | true =>
    obtain ⟨L, hLk, hP1, hP2, hi1, hi2⟩ := HOk.out rfl;have HLk := keep hLk;have HP1 := keep hP1;have HP2 := keep hP2;have HIa := keep (hi1.fits hgr4.out);have HIb := keep (hi2.fits hgr4.out);have e1 := HE4.out.cell 1 (by simp);simp only [List.getElem_cons_zero, List.getElem_cons_succ] at e1;have hB4 := HB4.out;unfold pgCells at hB4;obtain ⟨p0, p1, p2, p3, p4, p5, _⟩ := pgres hB4;clear hB4 hLk hP1 hP2 hi1 hi2 HOk hgr4;go_upto_region 12 with fail;obtain ⟨wA, hwA⟩ : ∃ wA, wA = w4.alloc (.cells #[.int .i64 16, .int .i64 nx, .slice none 0 0, .int .i64 0, .slice none 0 0, .int .i64 P.lsn, .int .i64 P.kind, .int .i64 P.level, .int .i64 P.right, .string (str P.high), .slice va P.items.length vc] 40) := ⟨_, rfl⟩;rw [<- hwA];have hgA : Grow w4 wA := by subst hwA; exact (Grow.refl w4).alloc _
    have hBV : Blk wA w4.heap.size 40 (vwCells ⟨16, nx, [], 0, [], P⟩ (.slice none 0 0) (.slice none 0 0) (.slice va P.items.length vc)) := by subst hwA; exact Blk.new w4 _ [_, _, _, _, _, _, _, _, _, _, _]
    have HBV := keep hBV;have HB12 := keep (HB12.out.fits hgA);have HB13 := keep (HB13.out.fits hgA);have HIa := keep (HIa.out.fits hgA);have HIb := keep (HIb.out.fits hgA);have HI4 := keep (RowS.fits HI4.out hgA);have HL4 := keep (Row.fits HL4.out hgA);have HGr := keep (Grow.trans HGr.out hgA);have hVi := fun (t : Tup) (u : World) (hu : Grow wA u) => rvisible_any ⟨16, nx, [], 0, [], P⟩ (.slice none 0 0) (.slice none 0 0) (.slice va P.items.length vc) t u (vwIn_of nx HK7.out (RowS.fits HI4.out hu)) (fun x hx => by have := HK7.out.2 x hx; show (x.length : Int) <= _; omega)
    obtain ⟨v, hv⟩ : ∃ v, v = (⟨16, nx, [], 0, [], P⟩ : Vw) := ⟨_, rfl⟩;rw [<- hv] at hVi;have HV := keep hv;have HVi := keep hVi;clear hwA hgA hBV hVi hv e1 p0 p1 p2 p3 p4 p5 HE4 HB4;go_wp2_with fail;go_loopw [16, 17] (fun wv i wr => F2Rel l v wA wv i wr) (fun _ i _ => l.length - (intOf i).toNat)
    case atStart => exact show F2Rel _ _ _ _ _ _ from ⟨0, [], Nat.zero_le _, Nat.zero_le _, rfl, keep (wantOk_nil _), keep (World.ownsRow_nil _ _ _ _), keep (Grow.refl _)⟩
    case round =>
     obtain ⟨n, W, hn1, hn2, rfl, HW, HOw, HG⟩ := hrel;obtain ⟨wa, wcp, rfl⟩ := own_form HOw.out
     by_cases hgo : n < l.length /\ n < 12
     ·obtain ⟨hlt, h12⟩ := hgo;have e12 : decide ((n : Int) < 12) = true := decide_eq_true (by omega);obtain ⟨c, off, cap, e1, hcm⟩ := tpl_at HL4.out hlt;simp only [Value.slice.injEq] at e1;obtain ⟨rfl, -, rfl⟩ := e1;have htk := List.take_succ_eq_append_getElem hlt;have htok := HLk.out.ok l[n] (by rw [List.mem_take_iff_getElem]; exact ⟨n, by omega, rfl⟩);obtain ⟨tx1, tx2⟩ := Tpl.nat htok;have hvi := fun (u : World) (hu : Grow wr u) => HVi.out l[n].tup u (Grow.trans HG.out hu)
      unfold tupV Tpl.tup at hvi;dsimp only at hvi;rw [tx1, tx2] at hvi;have hskip := fun (h : visB v l[n].tup = false) => wantOk_skip (t := l[n]) HW.out h
      have hins := fun (h : visB v l[n].tup = true) k (hk : InsAt W l[n].key k) => wantOk_ins (t := l[n]) HW.out h hk
      rw [<- htk] at hskip hins;unfold Tpl.tup at hskip hins;generalize l[n] = t at *;generalize visB v ⟨t.xmin.toNat, t.xmax.toNat, t.frz, t.key, t.val⟩ = vb at *;unfold vwV at hvi;have HHvi := keep hvi;have HCm := keep hcm;have HSkip := keep hskip;have HIns := keep hins;clear hvi hcm hskip hins htok tx1 tx2 htk;go_upto_region 16 with fail;refine rgv 7 (by kernel_rfl) (by kernel_rfl) rfl rfl ?_;intro a0 ha0;have hsz : a0.tmps.size = 217 := (size_at ha0).trans rfl;have s0 := slot_at ha0 0 rfl;have s15 := slot_at ha0 15 rfl;have s17 := slot_at ha0 17 rfl;have HA0 := keep ha0;clear ha0;apply lxv hsz Grow.refl (by kernel_rfl) rfl
      ·intro xs w hw K hK;have hBVf := HBV.out.fits (Grow.trans HG.out hw.undrew);unfold vwCells at hBVf;obtain ⟨s0_, s1_, s2_, s3_, s4_, s5_, s6_, s7_, s8_, s9_, s10_⟩ := vwres hBVf;go_simp;exact hK
      iterate 2
       apply lxv hsz Grow.refl (by kernel_rfl) rfl
       ·intro xs w hw K hK;go_simp;exact hK
      apply lxv hsz Grow.refl (by kernel_rfl) rfl
      ·intro xs w hw K hK;have q1 : n < l.length := hlt;go_simp;exact hK
      apply lxv hsz Grow.refl (by kernel_rfl) rfl
      ·intro xs w hw K hK;obtain ⟨c0, c1, c2, c3, c4⟩ := HCm.out w (Grow.trans HG.out hw.undrew);go_simp;exact hK
      apply lxe hsz [] (by kernel_rfl) rfl
      ·intro xs w hw hp K hK;go_simp;rw [HV.out] at HHvi;exact (HHvi.out w hw.undrew).mono fun e w' ⟨h1, h2⟩ => ⟨_, h1, hK _ h2⟩
      apply lxv hsz Grow.refl (by kernel_rfl) rfl
      ·intro xs w hw K hK;go_simp;exact hK
      refine rgd [] (by kernel_rfl) rfl ?_;intro xs w hw hp;have ha0 := HA0.out;clear HA0 hsz s0 s15 s17;clear hp;subst ha0;simp only [putV];have HG6 := keep (Grow.trans HG.out hw.undrew);have HO6 := keep (show OwnR wA.heap.size w (.slice wa W.length wcp) W from owns_fits HOw.out hw.undrew);generalize w = w6 at *;clear hw HHvi;simp only [List.drop_succ_cons, List.drop_zero];go_frame;cases vb with
      | false =>
       go_wp2_with fail;go_roundw
       case rel => exact show F2Rel _ _ _ _ _ _ from ⟨n + 1, W, hlt, h12, by go_num, keep (HSkip.out rfl), HO6, HG6⟩
       case measure => simp [intOf]; omega
      | true =>
       have HIns2 := keep (HIns.out rfl);have hWl := HW.out.len;rw [List.length_take] at hWl;clear HSkip HIns;go_wp2_with fail;go_loopw [18] (fun i wr => F3Rel W t.key w6 i wr) (fun i _ => W.length - (intOf i).toNat)
       case atStart => exact show F3Rel _ _ _ _ _ from ⟨0, Nat.zero_le _, rfl, keep (fun _ _ h => absurd h (Nat.not_lt_zero _)), keep (Grow.refl _)⟩
       case round =>
        obtain ⟨k, hk1, rfl, hlow, HG8⟩ := hrel;have hG8 := HG8.out;obtain ⟨c0, c1, c2, c3, c4⟩ := HCm.out wr (Grow.trans HG6.out hG8)
        by_cases hE : ∃ h : k < W.length, Op.bytesLess W[k].1 t.key = true
        ·obtain ⟨hkk, hbl⟩ := hE;obtain ⟨c9, o9, cap9, x9, hc9⟩ := rw_at (own_rowO HO6.out) hkk;simp only [Value.slice.injEq] at x9;obtain ⟨rfl, _, rfl⟩ := x9;obtain ⟨p0, p1⟩ := hc9 wr hG8;have hlow2 : ∀ j (hj : j < W.length), j < k + 1 -> Op.bytesLess W[j].1 t.key = true := by
          intro j hj hj2
          by_cases e : j = k
          ·subst e; exact hbl
          ·exact hlow.out j hj (by omega)
         have hb2 : Op.bytesLess (str W[k].1).toList (str t.key).toList = true := by rw [str_list, str_list]; exact hbl
         generalize W[k] = r9 at *;have HLow2 := keep hlow2;clear hc9 hlow2 hbl;go_upto_region 18 with fail;go_quiet (fail);go_wp2_with fail;go_roundw
         case rel => exact show F3Rel _ _ _ _ _ from ⟨k + 1, hkk, by go_num, HLow2, keep (below_drewN hG8 _)⟩
         case measure => simp [intOf]; omega
        ·have hq : ∃ q : Bool, (q = false -> InsAt W t.key k) /\ ((¬ k < W.length /\ q = false) \/ ∃ h : k < W.length, Op.bytesLess W[k].1 t.key = false /\ q = decide (W[k].1 = t.key)) := by
          by_cases hkk : k < W.length
          ·have hbl : Op.bytesLess W[k].1 t.key = false := by
            cases hb : Op.bytesLess W[k].1 t.key with
            | false => rfl
            | true => exact absurd ⟨hkk, hb⟩ hE
           refine ⟨decide (W[k].1 = t.key), fun h => ⟨hk1, hlow.out, fun _ => ⟨hbl, of_decide_eq_false h⟩⟩, .inr ⟨hkk, hbl, rfl⟩⟩
          ·exact ⟨false, fun _ => ⟨hk1, hlow.out, fun h => absurd h hkk⟩, .inl ⟨hkk, rfl⟩⟩
         obtain ⟨q, hqi, hq⟩ := hq;have HQi := keep hqi;clear hqi hE hlow;go_upto_region 18 with fail;go_cut [106] from 90 to 108 (fun s wx => s = .bool false /\ Kept (Grow w6 wx))
         case first =>
          rcases hq with ⟨hkk, -⟩ | ⟨hkk, hbl, -⟩
          ·go_quiet (fail);go_wp2_with fail;go_meet
           case rel => exact ⟨rfl, keep (below_drewN hG8 _)⟩
          ·obtain ⟨c9, o9, cap9, x9, hc9⟩ := rw_at (own_rowO HO6.out) hkk;simp only [Value.slice.injEq] at x9;obtain ⟨rfl, _, rfl⟩ := x9;obtain ⟨p0, p1⟩ := hc9 wr hG8;have hb2 : Op.bytesLess (str W[k].1).toList (str t.key).toList = false := by rw [str_list, str_list]; exact hbl
           generalize W[k] = r9 at *;clear hc9 hbl;go_quiet (fail);go_wp2_with fail;go_meet
           case rel => exact ⟨rfl, keep (below_drewN hG8 _)⟩
         case rest =>
         obtain ⟨rfl, HG9⟩ := hcut;clear hG8 c0 c1 c2 c3 c4 HG8;generalize wc = w9 at *;go_upto_region 20 with fail;go_cut [125] from 73 to 150 (fun s wx => s = .bool q /\ Kept (Grow w6 wx))
         case first =>
          have hG9 := HG9.out;obtain ⟨c0, c1, c2, c3, c4⟩ := HCm.out w9 (Grow.trans HG6.out hG9);rcases hq with ⟨hkk, rfl⟩ | ⟨hkk, hbl, rfl⟩
          ·go_quiet (fail);go_wp2_with fail;go_meet
           case rel => exact ⟨rfl, keep (below_drewN hG9 _)⟩
          ·obtain ⟨c9, o9, cap9, x9, hc9⟩ := rw_at (own_rowO HO6.out) hkk;simp only [Value.slice.injEq] at x9;obtain ⟨rfl, _, rfl⟩ := x9;obtain ⟨p0, p1⟩ := hc9 w9 hG9;have hb3 : ((str W[k].1).toList == (str t.key).toList) = decide (W[k].1 = t.key) := by
            rw [str_list, str_list]
            by_cases h : W[k].1 = t.key
            ·rw [h]; simp
            ·simp [h]
           generalize decide (W[k].1 = t.key) = q9 at *;generalize W[k] = r9 at *;clear hc9 hbl;go_quiet (fail);go_wp2_with fail;go_meet
           case rel => exact ⟨by simp [], keep (below_drewN hG9 _)⟩
         case rest =>
         obtain ⟨rfl, HG10⟩ := hcut;clear hq HG9;generalize wc = wT at *;cases q with
         | true =>
          go_wp2_with fail;refine (awake19_any wT).mono ?_;rintro y wU ⟨rfl, hbU⟩;have HGU := keep (Grow.trans HGr.out (Grow.trans HG6.out (Grow.trans HG10.out hbU)));clear hbU;go_wp2_with fail;go_ret;exact ⟨rfl, HGU.out⟩
         | false =>
          have HAt := keep (HQi.out rfl);have hcap0 := own_cap HO6.out;have hcap1 : (k : Int) <= (wcp : Int) := by omega
          have hrw := (own_rowO (owns_fits HO6.out HG10.out)).weak;have hlo := rsub_lo hrw hk1;have HRw := keep hrw;have HCap := keep hcap0;have hXl : (W.take k).length = k := by rw [List.length_take]; omega
          obtain ⟨X, hX⟩ : ∃ X, X = W.take k := ⟨_, rfl⟩;rw [<- hX] at hlo hXl;have HX := keep hX;have HLo := keep hlo;have HWl := keep hWl;have HXl := keep hXl;clear hrw hlo hX hcap0 hXl;go_upto_region 24 with (at_builtin; go_must (refine wpList_rapps rfl _ _ rfl wT.heap.size [] X (List.nil_append _) _ _ rfl rfl (World.ownsRow_nil _ _ _ _) HLo.out (by have := HXl.out; simp; omega) (Nat.le_refl _) ?_); intro na nc w2 ho2 hg2; have HO2 := keep ho2; have HG2a := keep hg2; clear ho2 hg2);have hq1 : n < l.length := hlt;refine wp_region_m_named (by kernel_rfl) 15 13 (fun j => decide (13 <= j)) (RwG wT.heap.size (.slice na X.length nc) X) (RwG.refl _ _ _ _) (fun _ _ => RwG.grow) (fun _ _ _ => RwG.trans) (by kernel_rfl)  (by kernel_rfl) [(132, 0), (133, 1), (134, 2), (135, 3), (136, 4), (137, 5), (138, 6), (139, 7), (140, 8), (141, 9), (142, 10), (143, 11), (144, 12), (145, 13), (19, 14)] (by kernel_rfl) [(0, true), (1, true), (2, true), (3, true), (4, true), (5, true), (6, true), (7, true), (8, true), (9, true), (10, true), (11, true), (12, true), (13, true), (14, true)] (by kernel_rfl) rfl rfl ?_;intro a0 ha0;have hsz : a0.tmps.size = 217 := (size_at ha0).trans rfl;have s0 := slot_at ha0 0 rfl;have s17 := slot_at ha0 17 rfl;have s19 := slot_at ha0 19 rfl;have HA0 := keep ha0;clear ha0
          apply lexm_eq hsz [] [(133, 1), (134, 2), (135, 3), (136, 4), (137, 5), (138, 6), (139, 7), (140, 8), (141, 9), (142, 10), (143, 11), (144, 12)] none (by kernel_rfl) (by kernel_rfl) (by kernel_rfl) (by kernel_rfl) rfl (by decide)
          ·intro xs w hw hp K hK;go_simp;exact hK _ (Grow.refl _)
          apply lexm_eq hsz [] [(132, 0), (134, 2), (136, 4), (137, 5), (138, 6), (139, 7), (140, 8), (141, 9), (142, 10), (143, 11), (144, 12), (145, 13)] none (by kernel_rfl) (by kernel_rfl) (by kernel_rfl) (by kernel_rfl) rfl (by decide)
          ·intro xs w hw hp K hK;go_simp;exact hK _ (Grow.refl _)
          apply lexm_eq hsz [] [(132, 0), (133, 1), (136, 4), (137, 5), (138, 6), (139, 7), (140, 8), (141, 9), (142, 10), (143, 11), (144, 12), (145, 13)] none (by kernel_rfl) (by kernel_rfl) (by kernel_rfl) (by kernel_rfl) rfl (by decide)
          ·intro xs w hw hp K hK;go_simp;exact hK _ (Grow.refl _)
          apply lexm_eq hsz [(1, true), (2, true)] [(132, 0), (133, 1), (134, 2), (137, 5), (138, 6), (139, 7), (140, 8), (141, 9), (142, 10), (143, 11), (144, 12), (145, 13)] none (by kernel_rfl) (by kernel_rfl) (by kernel_rfl) (by kernel_rfl) rfl (by decide)
          ·intro xs w hw hp K hK;simp only [hz] at hp;go_simp;exact hK _ (Grow.refl _)
          apply lexm_eq hsz [(3, true)] [(132, 0), (133, 1), (134, 2), (135, 3), (138, 6), (139, 7), (140, 8), (141, 9), (142, 10), (143, 11), (144, 12), (145, 13)] none (by kernel_rfl) (by kernel_rfl) (by kernel_rfl) (by kernel_rfl) rfl (by decide)
          ·intro xs w hw hp K hK;simp only [hz] at hp;go_simp;exact hK _ (Grow.refl _)
          apply lexm_eq hsz [(4, true)] [(132, 0), (133, 1), (134, 2), (135, 3), (136, 4), (138, 6), (139, 7), (140, 8), (141, 9), (142, 10), (144, 12), (145, 13)] none (by kernel_rfl) (by kernel_rfl) (by kernel_rfl) (by kernel_rfl) rfl (by decide)
          ·intro xs w hw hp K hK;simp only [hz] at hp;obtain ⟨c0, c1, c2, c3, c4⟩ := HCm.out w (Grow.trans HG6.out (Grow.trans HG10.out (Below.trans HG2a.out (rwf_below hw.undrew.1 HG2a.out.size))));go_simp;exact hK _ (Grow.refl _)
          apply lexm_eq hsz [] [(132, 0), (133, 1), (134, 2), (135, 3), (136, 4), (137, 5), (139, 7), (141, 9), (142, 10), (143, 11), (144, 12), (145, 13)] none (by kernel_rfl) (by kernel_rfl) (by kernel_rfl) (by kernel_rfl) rfl (by decide)
          ·intro xs w hw hp K hK;go_simp;exact hK _ (Grow.refl _)
          apply lexm_eq hsz [] [(132, 0), (133, 1), (134, 2), (135, 3), (136, 4), (137, 5), (138, 6), (141, 9), (142, 10), (143, 11), (144, 12), (145, 13)] none (by kernel_rfl) (by kernel_rfl) (by kernel_rfl) (by kernel_rfl) rfl (by decide)
          ·intro xs w hw hp K hK;go_simp;exact hK _ (Grow.refl _)
          apply lexm_eq hsz [(6, true), (7, true)] [(132, 0), (133, 1), (134, 2), (135, 3), (136, 4), (137, 5), (138, 6), (139, 7), (142, 10), (143, 11), (144, 12), (145, 13)] none (by kernel_rfl) (by kernel_rfl) (by kernel_rfl) (by kernel_rfl) rfl (by decide)
          ·intro xs w hw hp K hK;simp only [hz] at hp;go_simp;exact hK _ (Grow.refl _)
          apply lexm_eq hsz [(8, true)] [(132, 0), (133, 1), (134, 2), (135, 3), (136, 4), (137, 5), (138, 6), (139, 7), (140, 8), (143, 11), (144, 12), (145, 13)] none (by kernel_rfl) (by kernel_rfl) (by kernel_rfl) (by kernel_rfl) rfl (by decide)
          ·intro xs w hw hp K hK;simp only [hz] at hp;go_simp;exact hK _ (Grow.refl _)
          apply lexm_eq hsz [(9, true)] [(132, 0), (133, 1), (134, 2), (135, 3), (136, 4), (137, 5), (138, 6), (139, 7), (140, 8), (141, 9), (144, 12), (145, 13)] none (by kernel_rfl) (by kernel_rfl) (by kernel_rfl) (by kernel_rfl) rfl (by decide)
          ·intro xs w hw hp K hK;simp only [hz] at hp;obtain ⟨c0, c1, c2, c3, c4⟩ := HCm.out w (Grow.trans HG6.out (Grow.trans HG10.out (Below.trans HG2a.out (rwf_below hw.undrew.1 HG2a.out.size))));go_simp;exact hK _ (Grow.refl _)
          apply lexm_eq hsz [(5, true), (10, true)] [(132, 0), (133, 1), (134, 2), (135, 3), (136, 4), (137, 5), (138, 6), (139, 7), (140, 8), (141, 9), (142, 10), (145, 13)] none (by kernel_rfl) (by kernel_rfl) (by kernel_rfl) (by kernel_rfl) rfl (by decide)
          ·intro xs w hw hp K hK;simp only [hz] at hp;go_simp;exact hK _ (Grow.refl _)
          refine lexm_until hsz (fun v u => ∃ vb, v = .slice (some ⟨vb, 0, none⟩) 1 1 /\ Blk u vb 46 (rwC (t.key, t.val))) (fun _ _ _ g h => h.elim fun vb h => ⟨vb, h.1, h.2.fits g⟩) [(11, true)] [(132, 0), (133, 1), (134, 2), (135, 3), (136, 4), (137, 5), (138, 6), (139, 7), (140, 8), (141, 9), (142, 10), (143, 11)] none (by kernel_rfl) (by kernel_rfl) (by kernel_rfl) (by kernel_rfl) rfl (by decide) ?_ ?_
          ·intro xs w hw hp K hK;simp only [hz] at hp;go_simp;exact hK _ _ ⟨_, rfl, Blk.new w _ [_, _]⟩ ((Grow.refl _).alloc _)
          refine lexm_it rfl hsz (fun v u => ∃ nb nc2, v = .slice nb (X ++ [(t.key, t.val)]).length nc2 /\ OwnR wT.heap.size u (.slice nb (X ++ [(t.key, t.val)]).length nc2) (X ++ [(t.key, t.val)])) (fun _ _ _ g ⟨nb, nc2, h1, h2⟩ => ⟨nb, nc2, h1, owns_fits h2 g⟩) [(0, true), (12, true)] [(132, 0), (133, 1), (134, 2), (135, 3), (136, 4), (137, 5), (138, 6), (139, 7), (140, 8), (141, 9), (142, 10), (143, 11), (144, 12)] none (by kernel_rfl) (by kernel_rfl) (by kernel_rfl) (by kernel_rfl) rfl ?_ ?_
          ·intro xs w hw hp K hK;simp only [hz] at hp;obtain ⟨h0_, vb, h12_, hvb⟩ := hp;obtain ⟨v', w', hr, h1, h2, h3⟩ := rapp_keeps _ wT.heap.size X (t.key, t.val) (.slice na X.length nc) ⟨vb, 0, none⟩ 1 w (hw.undrew.2 HO2.out) (row_cells hvb) (by have := HXl.out; omega) (Nat.le_trans HG2a.out.size hw.undrew.1.1);obtain ⟨nb, nc2, e9⟩ := own_form h1;rw [e9] at h1;exact upon_append rfl (by simp [evalF_tmp, lookL, h0_]) (by simp [evalF_tmp, lookL, h12_]) hr (hK _ _ ⟨nb, nc2, e9, h1⟩ ⟨RwF.app (hw.undrew.2 HO2.out) h2, fun _ => h3⟩)
          refine lexm_late rfl hsz (fun v u => ∃ nb nc2, v = .slice nb (X ++ [(t.key, t.val)]).length nc2 /\ OwnR wT.heap.size u (.slice nb (X ++ [(t.key, t.val)]).length nc2) (X ++ [(t.key, t.val)])) (fun _ _ _ g ⟨nb, nc2, h1, h2⟩ => ⟨nb, nc2, h1, owns_fits h2 g⟩) [(13, true)] [(132, 0), (133, 1), (134, 2), (135, 3), (136, 4), (137, 5), (138, 6), (139, 7), (140, 8), (141, 9), (142, 10), (143, 11), (144, 12), (145, 13)] none (by kernel_rfl) (by kernel_rfl) (by kernel_rfl) (by kernel_rfl) rfl (by decide) ?_ ?_
          ·intro xs w hw hp K hK;simp only [hz] at hp;obtain ⟨nb, nc2, h13, hO⟩ := hp;go_simp;exact hK _ _ ⟨nb, nc2, by simp, hO⟩ (Grow.refl _)
          intro xs w hw hp;have ha0 := HA0.out;clear HA0 hsz s0 s17 s19;simp only [hz] at hp;have h19 := hp.2.2.2.2.2.2.2.2.2.2.2.2.2.2;clear hp;subst ha0;simp only [putAll];have HG12 := keep (show Grow wT w from Below.trans HG2a.out (rwf_below hw.undrew.1 HG2a.out.size));obtain ⟨nb, nc2, h19, HOn⟩ := h19;simp only [h19];have HO12 := keep HOn;generalize w = wU at *;clear hw h19 HOn HO2;simp only [List.drop_succ_cons, List.drop_zero];go_frame;have hhi := rsub_hi (Row.fits HRw.out HG12.out) hk1 HCap.out;have hYl : (W.drop k).length = W.length - k := List.length_drop;obtain ⟨Y, hY⟩ : ∃ Y, Y = W.drop k := ⟨_, rfl⟩;rw [<- hY] at hhi hYl;have hins9 : (X ++ [(t.key, t.val)]) ++ Y = insR W k (t.key, t.val) := by rw [hY, HX.out]; unfold insR; simp
          have HIn9 := keep hins9;have HHi := keep hhi;have HYl := keep hYl;have hcap2 : W.length <= wcp := HCap.out;clear hhi hY hYl hins9;go_wp2_with (at_builtin; go_must (refine wpList_rapps rfl _ _ rfl wT.heap.size (X ++ [(t.key, t.val)]) Y HIn9.out _ _ rfl rfl HO12.out HHi.out (by have := HXl.out; have := HYl.out; simp; omega) HG12.out.size ?_); intro oa oc w3b ho3 hg3; have HO3 := keep ho3; have HG3b := keep hg3; clear ho3 hg3);go_roundw
          case rel => exact show F2Rel _ _ _ _ _ _ from ⟨n + 1, insR W k (t.key, t.val), hlt, h12, by go_num, keep (HIns2.out k HAt.out), keep (owns_low HO3.out (Nat.le_trans HG6.out.size HG10.out.size)), keep (Grow.trans HG6.out (Grow.trans HG10.out (show Grow wT w3b from Below.trans HG12.out HG3b.out)))⟩
          case measure => simp [intOf]; omega
     ·have htk : l.take n = l.take 12 := by
       by_cases h1 : n < l.length
       ·rw [show n = 12 by omega]
       ·rw [List.take_of_length_le (by omega), List.take_of_length_le (by omega)]
      have HW12 := keep (show WantOk v (l.take 12) W by rw [<- htk]; exact HW.out);clear htk HW;go_upto_region 14 with fail;go_cut [80] from 73 to 150 (fun s wx => s = .bool false /\ wx = wr)
      case first =>
       go_wp2_with fail
       ·rename_i h9
        go_meet
        case rel => exact ⟨by rw [decide_eq_false (by omega)], rfl⟩
       ·go_meet
        case rel => exact ⟨rfl, rfl⟩
      case rest =>
      obtain ⟨rfl, rfl⟩ := hcut;clear hgo;generalize wc = wB at *;have hnp := plnew_nil 5 [] [] [] 16 0 wB;have hnq := fun (u : World) => plnew_nil 2 key [] [] 0 0 u
      unfold NewPostZ askV at hnp hnq;simp only [str_nilS] at hnp hnq;have HNp := keep hnp;have HNq := keep hnq;clear hnp hnq;go_wp2_with fail;refine HNp.out.mono ?_;rintro y wC (⟨hr, -, -⟩ | ⟨hrp, pb, rfl, hpb, hZp, hbC⟩)
      ·exact absurd hr (by decide)
      have HZp := keep hZp;have HbC := keep (show Grow wB wC from hbC);have HPb := keep hpb;have HRp := keep hrp;clear hZp hbC hpb hrp HNp;go_wp2_with fail;refine (HNq.out wC).mono ?_;intro y wD hq;obtain ⟨qv, ge, rfl, hbD, hq⟩ : ∃ qv ge, y = .returned (.tuple #[qv, .int .i64 ge]) /\ Grow wC wD /\ ((ge = 1 /\ qv = .pointer none) \/ (ge = 0 /\ ∃ qb, qv = .pointer (some ⟨qb, 0, none⟩) /\ wC.heap.size <= qb /\ rightB 2 key [] [] 0 0 = true /\ PlZ wC.heap.size qb wD (startS 2 key [] [] 0 0))) := by
       rcases hq with ⟨_, h1, h2⟩ | ⟨h0, qb, h1, h2, h3, h4⟩
       ·exact ⟨_, _, h1, h2, .inl ⟨rfl, rfl⟩⟩
       ·exact ⟨_, _, h1, h4, .inr ⟨rfl, qb, rfl, h2, h0, h3⟩⟩
      have HbD := keep hbD;have HQ := keep hq;clear hbD hq HNq;have hZ := (HZp.out.fits HbD.out).tab;have hPk1 : ∀ u, Grow wB u -> PgIn u (.slice a1 n1 c1) P1 := by
       intro u hu;have h := HIa.out.fits (Grow.trans HG.out hu);rw [HP1.out] at h ⊢;exact pgIn_good HLk.out.good h
      have hPk2 : ∀ u, Grow wB u -> PgIn u (.slice a2 n2 c2) P2 := by
       intro u hu;have h := HIb.out.fits (Grow.trans HG.out hu);rw [HP2.out] at h ⊢;exact pgIn_heap HLk.out.ok (by simp; omega) h
      have hVk : ∀ u, Grow wB u -> VwIn u ⟨16, nx, [], 0, [], P⟩ (.slice none 0 0) (.slice none 0 0) (.slice va P.items.length vc) := fun u hu => vwIn_of nx HK7.out (RowS.fits HI4.out (Grow.trans HG.out hu))
      have hl1 : P1.items.length <= 8796093021980 := by
       rw [HP1.out];have := good_length HLk.out.good;simp [pgOf];omega
      have hl2 : P2.items.length <= 8796093021980 := by
       rw [HP2.out];simp [heapP];omega
      have hrd := reads19_any wB.heap.size pb (startS 5 [] [] [] 16 0) ⟨16, nx, [], 0, [], P⟩ P1 P2 none none va 0 0 0 0 P.items.length vc a1 n1 c1 a2 n2 c2 wD hZ ⟨PlOk.start HRp.out, _, RdOk.start (.inr rfl)⟩
       (fun w' kk => hVk w' (Below.trans (Grow.trans HbC.out HbD.out) (kk.below HPb.out))) (fun w' kk => hPk1 w' (Below.trans (Grow.trans HbC.out HbD.out) (kk.below HPb.out))) HIa.out.2 hl1 (fun w' kk => hPk2 w' (Below.trans (Grow.trans HbC.out HbD.out) (kk.below HPb.out))) HIb.out.2 hl2
      have hrep : (runP ⟨16, nx, [], 0, [], P⟩ P1 P2 1000 (startS 5 [] [] [] 16 0)).rep = (0, false, [], W) := by
       rw [<- HV.out, HP1.out, HP2.out, scan_run HLk.out (by have := HLk.out.len; simp at this; omega), want_rows HLk.out HW12.out]
      have hok1 := PlOk.runP ⟨16, nx, [], 0, [], P⟩ P1 P2 1000 (PlOk.start HRp.out);generalize runP ⟨16, nx, [], 0, [], P⟩ P1 P2 1000 (startS 5 [] [] [] 16 0) = S1 at *;unfold PlPost vwV pgV at hrd;dsimp only at hrd;have HRd := keep hrd;have HRep := keep hrep;have HRrl := keep hok1.rrl;have HPk1 := keep hPk1;have HPk2 := keep hPk2;have HVk := keep hVk;have HL1 := keep hl1;have HL2 := keep hl2;clear hrd hrep hok1 hPk1 hPk2 hVk hl1 hl2 hZ;have hGD := Grow.trans HG.out (Grow.trans HbC.out HbD.out);have hBVf := HBV.out.fits hGD;unfold vwCells at hBVf;obtain ⟨s0_, s1_, s2_, s3_, s4_, s5_, s6_, s7_, s8_, s9_, s10_⟩ := vwres hBVf;have hBp := HB12.out.fits hGD;have hBq := HB13.out.fits hGD;unfold pgCells at hBp hBq;obtain ⟨p0, p1, p2, p3, p4, p5, _⟩ := pgres hBp;obtain ⟨q0, q1, q2, q3, q4, q5, _⟩ := pgres hBq;clear hBVf hBp hBq hGD;go_wp2_with fail;refine HRd.out.mono ?_;rintro y wE ⟨rfl, hT1, hS1⟩;have HGE := keep (show Grow wB wE from Below.trans (Grow.trans HbC.out HbD.out) (hS1.below HPb.out));have HSE := keep hS1;have hre := plreply_any _ pb S1 wE hT1 HRrl.out;unfold RpPost rpV at hre;rw [HRep.out] at hre;simp only [str_nilS] at hre;have HRe := keep hre;clear s0_ s1_ s2_ s3_ s4_ s5_ s6_ s7_ s8_ s9_ s10_ p0 p1 p2 p3 p4 p5 q0 q1 q2 q3 q4 q5 hT1 hS1 hre HRd;go_wp2_with fail;refine HRe.out.mono ?_;rintro y wF ⟨rv, rfl, hq1, hbF⟩;have hWl := HW12.out.len;rw [List.length_take] at hWl;have HGF := keep (Grow.trans HGE.out (show Grow wE wF from hbF))
      have hrr := reply19_any (0, false, [], W) (0, false, [], W) rv (.slice wa W.length wcp) wF hq1 (own_rowO (owns_fits HOw.out HGF.out)) (by show W.length <= 1000; omega) (by show W.length <= 1000; omega);rw [show sameRp (0, false, [], W) (0, false, [], W) = true by unfold sameRp; simp] at hrr;unfold rpV at hrr;simp only [str_nilS] at hrr;have HRr := keep hrr;have HbF := keep (show Grow wE wF from hbF);clear hq1 hbF hrr HRe;go_wp2_with fail;refine HRr.out.mono ?_;rintro y wG ⟨rfl, hbG⟩;have HGG := keep (Grow.trans HGF.out (show Grow wF wG from hbG));have HbG := keep (Grow.trans HbF.out (show Grow wF wG from hbG));clear hbG HRr;rcases HQ.out with ⟨rfl, rfl⟩ | ⟨rfl, qb, rfl, hqb, hrq, hZq⟩
      ·go_wp2_with fail;refine (awake19_any wG).mono ?_;rintro y wH ⟨rfl, hbH⟩;have HGH := keep (Grow.trans HGr.out (Grow.trans HG.out (Grow.trans HGG.out hbH)));clear hbH;go_wp2_with fail;go_ret;exact ⟨rfl, HGH.out⟩
      ·clear HQ;have hne : qb ≠ pb := by have := HZp.out.blk.lt; omega
       have hZG := ((hZq.sel HSE.out hne).fits HbG.out).tab;have hk : isKeyB key = true := by
        have h := hrq;unfold rightB at h
        simpa using h
       have hrd := reads19_any wC.heap.size qb (startS 2 key [] [] 0 0) ⟨16, nx, [], 0, [], P⟩ P1 P2 none none va 0 0 0 0 P.items.length vc a1 n1 c1 a2 n2 c2 wG hZG ⟨PlOk.start hrq, _, RdOk.start (.inl rfl)⟩
        (fun w' kk => HVk.out w' (Below.trans HGG.out ((kk.below hqb).mono HbC.out.size))) (fun w' kk => HPk1.out w' (Below.trans HGG.out ((kk.below hqb).mono HbC.out.size))) HIa.out.2 HL1.out (fun w' kk => HPk2.out w' (Below.trans HGG.out ((kk.below hqb).mono HbC.out.size))) HIb.out.2 HL2.out
       have hrep : (runP ⟨16, nx, [], 0, [], P⟩ P1 P2 1000 (startS 2 key [] [] 0 0)).rep = oneR key W := by
        rw [<- HV.out, HP1.out, HP2.out, get_run HLk.out (by have := HLk.out.len; simp at this; omega) key hk, one_get HLk.out HW12.out]
       have hok1 := PlOk.runP ⟨16, nx, [], 0, [], P⟩ P1 P2 1000 (PlOk.start hrq);generalize runP ⟨16, nx, [], 0, [], P⟩ P1 P2 1000 (startS 2 key [] [] 0 0) = S2 at *;unfold PlPost vwV pgV at hrd;dsimp only at hrd;have HRd := keep hrd;have HRep2 := keep hrep;have HRrl2 := keep hok1.rrl;have HQb := keep hqb;have hGG := Grow.trans HG.out HGG.out;have hBVf := HBV.out.fits hGG;unfold vwCells at hBVf;obtain ⟨s0_, s1_, s2_, s3_, s4_, s5_, s6_, s7_, s8_, s9_, s10_⟩ := vwres hBVf;have hBp := HB12.out.fits hGG;have hBq := HB13.out.fits hGG;unfold pgCells at hBp hBq;obtain ⟨p0, p1, p2, p3, p4, p5, _⟩ := pgres hBp;obtain ⟨q0, q1, q2, q3, q4, q5, _⟩ := pgres hBq;clear hBVf hBp hBq hGG hrd hrep hok1 hqb hrq hZq hZG hk hne;go_wp2_with fail;refine HRd.out.mono ?_;rintro y wI ⟨rfl, hT2, hS2⟩;have HGI := keep (show Grow wB wI from Below.trans HGG.out ((hS2.below HQb.out).mono HbC.out.size));have HT2 := keep hT2;clear s0_ s1_ s2_ s3_ s4_ s5_ s6_ s7_ s8_ s9_ s10_ p0 p1 p2 p3 p4 p5 q0 q1 q2 q3 q4 q5 hT2 hS2 HRd;go_upto_region 37 with fail;obtain ⟨wJ, hwJ⟩ : ∃ wJ, wJ = wI.alloc (.cells #[.int .i64 0, .bool false, .string ⟨#[]⟩, .slice none 0 0] 56) := ⟨_, rfl⟩;rw [<- hwJ];have hgJ : Grow wI wJ := by subst hwJ; exact (Grow.refl _).alloc _
       have hB24 : Blk wJ wI.heap.size 56 (rpC (oneR key (W.take 0))) := by
        show Blk _ _ _ [.int .i64 0, .bool false, .string (str []), .slice none 0 0];rw [str_nilS];subst hwJ;exact Blk.new wI _ [_, _, _, _]
       have HGJ := keep hgJ;have HB24 := keep hB24;clear hwJ hgJ hB24;go_wp2_with fail;go_loopw [25] (fun i wr => F4Rel W key wI i wr) (fun i _ => W.length - (intOf i).toNat)
       case atStart => exact show F4Rel _ _ _ _ _ from ⟨0, Nat.zero_le _, rfl, HB24, HGJ⟩
       case round =>
        obtain ⟨k, hk1, rfl, HB9, HG9⟩ := hrel
        by_cases hkk : k < W.length
        ·obtain ⟨c9, o9, cap9, x9, hc9⟩ := rw_at (own_rowO (owns_fits HOw.out (Grow.trans HGI.out HG9.out))) hkk;simp only [Value.slice.injEq] at x9;obtain ⟨rfl, _, rfl⟩ := x9;obtain ⟨p0, p1⟩ := hc9 wr (Grow.refl _);have HTk := keep (oneR_take (key := key) hkk);generalize W[k] = r9 at *;obtain ⟨r91, r92⟩ := r9;dsimp only at p0 p1 HTk;clear hc9
         by_cases he : r91 = key
         ·have hb3 : ((str r91).toList == (str key).toList) = true := by rw [he]; simp
          have hB9 := HB9.out;unfold rpC at hB9;obtain ⟨⟨b0, b1, b2, b3⟩, z⟩ := rp4 hB9;have z0 := z 0;have z1 := z 1;have z2 := z 2;have z3 := z 3;have HE9 := keep he;clear he z hB9;go_upto_region 39 with fail;clear b0 b1 b2 b3 z0 z1 z2 z3;obtain ⟨w9, hw9⟩ : ∃ w9, w9 = ((((wr.setCell ⟨wI.heap.size, 0, none⟩ (.int .i64 0)).setCell ⟨wI.heap.size, 1, none⟩ (.bool true)).setCell ⟨wI.heap.size, 2, none⟩ (.string (str r92))).setCell ⟨wI.heap.size, 3, none⟩ (.slice none 0 0)) := ⟨_, rfl⟩;rw [<- hw9];have hset : Blk w9 wI.heap.size 56 (rpC (oneR key (W.take (k + 1)))) := by
           rw [HTk.out, if_pos HE9.out, hw9];exact (((HB9.out.set 0 (.int .i64 0)).set 1 (.bool true)).set 2 (.string (str r92))).set 3 (.slice none 0 0)
          have hbut : But wI.heap.size wr w9 := by rw [hw9]; exact ((((But.refl _ wr).setCell 0 _).setCell 1 _).setCell 2 _).setCell 3 _
          have HS9 := keep hset;have HGn := keep (But.below HG9.out hbut (Nat.le_refl _) HG9.out.size);clear hw9 hset hbut;go_wp2_with fail;go_roundw
          case rel => exact show F4Rel _ _ _ _ _ from ⟨k + 1, hkk, by go_num, HS9, HGn⟩
          case measure => simp [intOf]; omega
         ·have hb3 : ((str r91).toList == (str key).toList) = false := by rw [str_list, str_list]; simpa using he
          have HS9 := keep (show Blk wr wI.heap.size 56 (rpC (oneR key (W.take (k + 1)))) by rw [HTk.out, if_neg he]; exact HB9.out);clear he;go_wp2_with fail;go_roundw
          case rel => exact show F4Rel _ _ _ _ _ from ⟨k + 1, hkk, by go_num, HS9, HG9⟩
          case measure => simp [intOf]; omega
        ·have hB9 := HB9.out;rw [List.take_of_length_le (by omega)] at hB9;obtain ⟨q1, q2, q3, hq4⟩ := oneR_rows key W;rw [hq4] at hB9;have hre := fun (u : World) (hu : Grow wr u) => plreply_any _ qb S2 u (HT2.out.fits (Grow.trans HG9.out hu)) HRrl2.out
         unfold RpPost rpV at hre;rw [HRep2.out, hq4] at hre;have hrr2 := fun (u : World) (rv : Value) (hq : RowS u 46 rv ([] : List Rw).length (rwCells [])) => reply19_any (q1, q2, q3, []) (q1, q2, q3, []) rv (.slice none 0 0) u hq (rows_nilS u) (Nat.zero_le _) (Nat.zero_le _)
         rw [show sameRp (q1, q2, q3, []) (q1, q2, q3, []) = true by unfold sameRp; simp] at hrr2;unfold rpV at hrr2;dsimp only at hre hrr2;have HRe2 := keep hre;have HRr2 := keep hrr2;unfold rpC at hB9;have HBo := keep hB9;have HGk := keep (Grow.trans HGr.out (Grow.trans HG.out (Grow.trans HGI.out HG9.out)));clear hB9 hq4 hre hrr2 HB9 HRep2;go_upto_region 42 with fail;refine rgv 8 (by kernel_rfl) (by kernel_rfl) rfl rfl ?_;intro a0 ha0;have hsz : a0.tmps.size = 217 := (size_at ha0).trans rfl;have s22 := slot_at ha0 22 rfl;have s24 := slot_at ha0 24 rfl;have HA0 := keep ha0;clear ha0;apply lxv hsz Grow.refl (by kernel_rfl) rfl
         ·intro xs w hw K hK;go_simp;exact hK
         refine lxs hsz (fun v u => ∃ rv, v = .agg #[.int .i64 q1, .bool q2, .string (str q3), rv] /\ RowS u 46 rv ([] : List Rw).length (rwCells [])) (fun _ _ _ g ⟨rv, h1, h2⟩ => ⟨rv, h1, RowS.fits h2 g⟩) [] (by kernel_rfl) rfl ?_ ?_
         ·intro xs w hw hp K hK;go_simp;refine (HRe2.out w hw.undrew).mono ?_;rintro e w' ⟨rv, h1, h2, h3⟩;exact ⟨_, h1, hK _ _ ⟨rv, rfl, h2⟩ h3⟩
         apply lxv hsz Grow.refl (by kernel_rfl) rfl
         ·intro xs w hw K hK;obtain ⟨⟨b0, b1, b2, b3⟩, -⟩ := rp4 (HBo.out.fits hw.undrew);go_simp;exact hK
         apply lxe hsz [(1, true)] (by kernel_rfl) rfl
         ·intro xs w hw hp K hK;simp only [hzv] at hp;obtain ⟨rv2, h2, h2b⟩ := hp;go_simp;exact (HRr2.out w _ h2b).mono fun e w' ⟨h1, h2⟩ => ⟨_, h1, hK _ h2⟩
         apply lxv hsz Grow.refl (by kernel_rfl) rfl
         ·intro xs w hw K hK;go_simp;exact hK
         apply lxe hsz [] (by kernel_rfl) rfl
         ·intro xs w hw hp K hK;go_simp;exact (awake19_any w).mono fun e w' ⟨h1, h2⟩ => ⟨_, h1, hK _ h2⟩
         iterate 2
          apply lxv hsz Grow.refl (by kernel_rfl) rfl
          ·intro xs w hw K hK;go_simp;exact hK
         refine rgd [] (by kernel_rfl) rfl ?_;intro xs w hw hp;have ha0 := HA0.out;clear HA0 hsz s22 s24;clear hp;subst ha0;simp only [putV];have HGz := keep (Grow.trans HGk.out hw.undrew);clear hw;simp only [List.drop_succ_cons, List.drop_zero];go_frame;go_wp2_with fail;go_ret;exact ⟨rfl, HGz.out⟩
end Go.Proofs.YtcdapdcablnhpaaGreat
namespace Go.Proofs.YtcdapdcablnhpaaGreat
open Go.ChangeShapes Go.WideShapes Go.ChangeAt Go.RowKit
theorem cellsTupO : Tryz.prog.cellsOf 44 = 5 := by kernel_rfl
theorem bytesTupO : Tryz.prog.bytesOf 44 = 56 := by kernel_rfl
theorem cellsSeenO : Tryz.prog.cellsOf 25 = 2 := by kernel_rfl
instance : Inhabited Tpl := ⟨⟨0, 0, false, [], []⟩⟩
section
variable {H : Type} {enc : TypeId × Value -> H} {w : World} {base : Nat} {spare : Nat -> Bool} {held : Bool} {r : Reach} {b0 : Nat}
set_option maxRecDepth 100000 in
theorem tup_shape (n : Nat) (cs : List Value) (y : DataW H × List MemPlace) (h : DataW.trod enc Tryz.prog w base spare held n 44 cs = some y) (hl : Light Tryz.prog 44 y.1) :
  ∃ t : Tpl, cs = tplC t /\ True := by
 obtain ⟨m, parts, hd, hc, hF⟩ := field_at Tryz.underlying44 h;rw [cellsTupO] at hc;obtain ⟨c0, c1, c2, c3, c4, rfl⟩ := len5o hc;obtain ⟨y0, h0, p0⟩ := hF 0 _ rfl;obtain ⟨y1, h1, p1⟩ := hF 1 _ rfl;obtain ⟨y2, h2, p2⟩ := hF 2 _ rfl;obtain ⟨y3, h3, p3⟩ := hF 3 _ rfl;obtain ⟨y4, h4, p4⟩ := hF 4 _ rfl;rw [hd] at hl;have hl3 := hl.part Tryz.underlying44 (i := 3) rfl p3;have hl4 := hl.part Tryz.underlying44 (i := 4) rfl p4;simp only [List.getElem_toArray, List.getElem_cons_zero, List.getElem_cons_succ] at h0 h1 h2 h3 h4 hl3 hl4;rw [cellsInt] at h0 h1;rw [cellsBoolO] at h2;rw [cellsString] at h3 h4;obtain ⟨x0, rfl⟩ := one_int h0;obtain ⟨x1, rfl⟩ := one_int h1;obtain ⟨x2, rfl⟩ := bool_shape h2;obtain ⟨s3, rfl, _⟩ := string_light h3 hl3;obtain ⟨s4, rfl, _⟩ := string_light h4 hl4;exact ⟨⟨x0, x1, x2, s3, s4⟩, rfl, trivial⟩
set_option maxRecDepth 100000 in
theorem tuples_of_trod {v : Value} {d : DataW H} {p : List MemPlace} (hval : Value.okWide Tryz.prog w r b0 22 v) (h : DataW.Trod enc Tryz.prog w base spare held 22 v d p) (hl : Light Tryz.prog 22 d) :
  ∃ l : List Tpl, Row w 44 v l.length (l.flatMap tplC) /\ (l.length : Int) <= 4398046511104 := by
 obtain ⟨a, len, cap, rfl⟩ := okWide_slice Tryz.underlying22 hval;obtain ⟨fuel, hf⟩ := h;obtain ⟨l, h1, _, h2⟩ := rows_of_light tplC (fun _ => True) 5 44 (by decide) Tryz.underlying22 cellsTupO tplC_length tup_shape hf hl;have hlen := light_len hl Tryz.underlying22 h2;rw [bytesTupO] at hlen;have := reach_num hlen;exact ⟨l, h1, by omega⟩
set_option maxRecDepth 100000 in
theorem seen_of_trod {v : Value} {d : DataW H} {p : List MemPlace} (hval : Value.okWide Tryz.prog w r b0 25 v) (h : DataW.Trod enc Tryz.prog w base spare held 25 v d p) (hl : Light Tryz.prog 25 d) :
  ∃ (dv : Value) (D : List Int) (nx : Int), v = .agg #[dv, .int .i64 nx] /\ Ints w dv D /\ (D.length : Int) <= 70368744177664 := by
 obtain ⟨cs, rfl, hsz⟩ := okWide_struct Tryz.underlying25 hval;obtain ⟨fuel, hf⟩ := h;obtain ⟨m, parts, hd, hc, hF⟩ := field_at Tryz.underlying25 hf;rw [cellsSeenO] at hsz hc;have hd' : d = .agg parts := hd;subst hd';simp only [Value.cells] at hf hF hc;obtain ⟨c0, c1, hcs⟩ := len2o hc;obtain ⟨l0⟩ := cs;simp only at hcs;subst hcs;obtain ⟨y0, h0, p0⟩ := hF 0 _ rfl;obtain ⟨y1, h1, p1⟩ := hF 1 _ rfl;have hl0 := hl.part Tryz.underlying25 (i := 0) rfl p0;simp only [List.getElem_toArray, List.getElem_cons_zero, List.getElem_cons_succ] at h0 h1 hl0;rw [cellsIntsO] at h0;rw [cellsInt] at h1;obtain ⟨D, k1, k2⟩ := ints_shape (v := c0) h0 hl0;obtain ⟨nx, e1⟩ := one_int (v := c1) h1;subst e1;exact ⟨c0, D, nx, rfl, k1, by omega⟩
end
theorem finds_top (lv : Value) (l : List Tpl) (dv : Value) (D : List Int) (nx : Int) (key : List UInt8) (w : World) (hl : Row w 44 lv l.length (l.flatMap tplC)) (hll : (l.length : Int) <= 4398046511104) (hd : Ints w dv D) (hdl : (D.length : Int) <= 70368744177664) (_ : (key.length : Int) <= 4611686018427387904) :
  Calls Tryz.prog 3 #[lv, .agg #[dv, .int .i64 nx], .string (str key)] w fun y w' => y = .returned (.bool true) /\ Below w.heap.size w w' :=
 finds_law l lv D dv nx key w hl hll hd hdl
end Go.Proofs.YtcdapdcablnhpaaGreat
