import Derived.Test.YtaninphcgeaepaaGreatKRs1
import Derived.Test.YtaninphcgeaepaaGreatKAp1
import Derived.Laws.OwnMore
import Derived.Test.YtaninphcgeaepaaGreatKCh2
namespace Go.Proofs.YtaninphcgeaepaaGreat
open Go.RowKit
theorem infoString : (Tryz.prog.info? 9).map (fun i => (i.zero, i.size, i.bytes)) = some (some (.string ⟨#[]⟩), 1, 16) := by kernel_rfl
def OwnS (N : Nat) (w : World) (v : Value) (l : List (List UInt8)) : Prop := w.ownsRow N 9 1 v l.length (sCells l)
theorem OwnS.fits {N : Nat} {w w' : World} {v : Value} {l : List (List UInt8)} (h : OwnS N w v l) (g : Grow w w') : OwnS N w' v l := owns_fits h g
theorem OwnS.form {N : Nat} {w : World} {v : Value} {l : List (List UInt8)} (h : OwnS N w v l) : ∃ a c, v = .slice a l.length c := own_form h
theorem OwnS.items {N : Nat} {w : World} {v : Value} {l : List (List UInt8)} (h : OwnS N w v l) : ItemsC w v l := items_owned h
theorem OwnS.low {N b : Nat} {w : World} {v : Value} {l : List (List UInt8)} (h : OwnS b w v l) (hB : N ≤ b) : OwnS N w v l := owns_low h hB
theorem OwnS.nil (N : Nat) (w : World) : OwnS N w (.slice none 0 0) [] := World.ownsRow_nil _ _ _ _
theorem OwnS.ne {N b t : Nat} {w : World} {v : Value} {l : List (List UInt8)} {cs : List Value} (h : OwnS N w v l) (hb : Blk w b t cs) (ht : t ≠ 9) : v.ownBlock ≠ some b := by
 rcases h.2 with ⟨rfl, _⟩ | ⟨g, cap, cur, rfl, _, hg, _⟩
 ·simp [Value.ownBlock]
 ·intro e
  simp [Value.ownBlock] at e
  subst e
  unfold Blk at hb
  rw [hb] at hg
  simp at hg
  exact ht hg.2
theorem OwnS.but {N b t : Nat} {w w' : World} {v : Value} {l : List (List UInt8)} {cs : List Value} (h : OwnS N w v l) (k : But b w w') (hb : Blk w b t cs) (ht : t ≠ 9) : OwnS N w' v l := owns_but h k (h.ne hb ht)
theorem OwnS.below {N B : Nat} {w w' : World} {v : Value} {l : List (List UInt8)} (h : OwnS N w v l) (g : w.grownBy w' v.ownBlock) (hB : B ≤ N) (hB2 : B ≤ w.heap.size) : Below B w w' :=
 ⟨g.os, g.tape, g.output, g.size, fun k hk => g.block k (by omega) fun e => by
  have := (h.lt _ e.symm).1
  omega⟩
theorem srow_news {w : World} {v : Value} {l : List (List UInt8)} (h : Items w v l) (hl : 0 < l.length) : ∃ ad c, v = .slice (some ad) l.length c ∧ ∀ j u, (sCells l)[j]? = some u → w.cell? (ad.add j) = some u := by
 rcases h with ⟨h1, _⟩ | ⟨c, off, cap, h1, h2⟩
 ·omega
 ·refine ⟨_, _, h1, fun j u hj => ?_⟩
  obtain ⟨hj2, rfl⟩ := List.getElem?_eq_some_iff.1 hj
  have := h2 j hj2
  unfold Addr.add
  split
  ·rename_i h0
   have h9 : j = 0 := by simpa using h0
   subst h9
   exact this
  ·exact this
theorem sapp_run (ty : TypeId) (B : Nat) (xs ys : List (List UInt8)) (v0 v : Value) (w : World) (h0 : OwnS B w v0 xs) (h : Items w v ys) (hb : xs.length + ys.length ≤ 8796093022208) (hB : B ≤ w.heap.size) :
  ∃ v' w', (Builtin.append_ #[22, 22] ty #[v0, v]).run Tryz.prog w = .ok v' w' ∧ OwnS B w' v' (xs ++ ys) ∧ Below B w w' := by
 obtain ⟨iE, hiE, hzE0, hzE1, hzE2⟩ := info_parts infoString
 have some_case : ∀ (ad : Addr) (c : Nat), v = .slice (some ad) ys.length c → (∀ j u, (sCells ys)[j]? = some u → w.cell? (ad.add j) = some u) →
   ∃ v' w', (Builtin.append_ #[22, 22] ty #[v0, v]).run Tryz.prog w = .ok v' w' ∧ OwnS B w' v' (xs ++ ys) ∧ Below B w w' := by
  rintro ad c rfl hn
  obtain ⟨v', w', hr, h1, h2, _⟩ := run_append_own_at (P := Tryz.prog) w B 22 ty 9 iE _ 1 16 Tryz.underlying22 hiE hzE0 hzE1 hzE2 rfl (by decide) v0 xs.length (sCells xs) h0 ad ys.length c (sCells ys) (by simp [sCells]) hn (fun u hu => sCells_one hu) (by unfold maxLen; omega) (by omega) hB
  refine ⟨v', w', hr, ?_, h0.below h2 (Nat.le_refl _) hB⟩
  unfold OwnS
  rw [sCells_append, List.length_append]
  exact h1
 by_cases hl : 0 < ys.length
 ·obtain ⟨ad, c, hv, hn⟩ := srow_news h hl
  exact some_case ad c hv hn
 ·have hy : ys = [] := List.eq_nil_of_length_eq_zero (by omega)
  subst hy
  obtain ⟨a, c, rfl⟩ := items_form h
  cases a with
  | some ad => exact some_case ad c rfl (by simp [sCells])
  | none =>
   refine ⟨v0, w, ?_, by rw [List.append_nil]; exact h0, Below.refl _ _⟩
   rcases h0.2 with ⟨rfl, _⟩ | ⟨g, cap, cur, rfl, _, _, hnc, _⟩
   ·simp [Builtin.append_, run_underlying Tryz.underlying22, sizeOf, typeInfo, hiE, Builtin.lenOf, Builtin.firstCells]
   ·simp [Builtin.append_, run_underlying Tryz.underlying22, sizeOf, typeInfo, hiE, Builtin.lenOf, Builtin.firstCells, hnc, storeCells]
theorem wpList_sapp {ops : Array Oper} {rest : List Oper} {o : Oper} {a : Act} {Q : Exit → Act → World → Prop} {w : World} (hgd : o.guard = none) (s x : Operand)
  (ho : o.op = .call { callee := .builtin .append, args := #[s, x], argTypes := #[22, 22] }) (B : Nat) (xs ys : List (List UInt8)) {l1 : List (List UInt8)} (hl1 : xs ++ ys = l1) (v0 v : Value) (hs : a.eval s = v0) (hx : a.eval x = v)
  (h0 : OwnS B w v0 xs) (h : Items w v ys) (hb : xs.length + ys.length ≤ 8796093022208) (hB : B ≤ w.heap.size)
  (hk : ∀ v' w', OwnS B w' v' l1 → Below B w w' → wpList Tryz.prog ops Q rest (a.put o.dst v') w') : wpList Tryz.prog ops Q (o :: rest) a w := by
 obtain ⟨v', w', hr, h1, h2⟩ := sapp_run o.type B xs ys v0 v w h0 h hb hB
 subst hl1
 exact wpList_upon_append hgd ho hs hx hr (hk v' w' h1 h2)
def changedN (P : Pg) (l : List (List UInt8)) (more : Bool) : Pg × Int := if more then turnedN P l else ({ P with items := l }, 0)
set_option maxRecDepth 100000 in
set_option maxHeartbeats 2000000 in
theorem changed_any (P : Pg) (iv hv mv tv : Value) (H M T : List (List UInt8)) (more : Bool) (w_ : World) (hI : ∃ a n c, iv = .slice a n c) (hH : Items w_ hv H) (hM : Items w_ mv M) (hT : Items w_ tv T)
  (hl : H.length + M.length + T.length ≤ 8796093022208) (hs : ∀ x ∈ H ++ M ++ T, (x.length : Int) ≤ 140737488355328) (hh : (P.high.length : Int) ≤ 140737488355328) :
  Calls Tryz.prog 120 #[pgV P iv, hv, mv, tv, .bool more] w_ (PgPost (changedN P (H ++ M ++ T) more).1 (changedN P (H ++ M ++ T) more).2 w_) := by
 obtain ⟨pa, pn, pc, rfl⟩ := hI
 obtain ⟨w0, hw0⟩ : ∃ w0, w0 = (w_.alloc (.cells (pgCells P (.slice pa pn pc)).toArray 24)).alloc (.cells #[.int .i64 0, .int .i64 0, .int .i64 0, .int .i64 0, .string ⟨#[]⟩, .slice none 0 0] 24) := ⟨_, rfl⟩
 have hg0 : Grow w_ w0 := by subst hw0; exact ((Grow.refl w_).alloc _).alloc _
 have hP0 : Blk w0 w_.heap.size 24 (pgCells P (.slice pa pn pc)) := by subst hw0; exact (Blk.new w_ _ _).alloc _
 have hR0 : Blk w0 (w_.heap.size + 1) 24 [.int .i64 0, .int .i64 0, .int .i64 0, .int .i64 0, .string ⟨#[]⟩, .slice none 0 0] := by
  have := Blk.new (w_.alloc (.cells (pgCells P (.slice pa pn pc)).toArray 24)) 24 [.int .i64 0, .int .i64 0, .int .i64 0, .int .i64 0, .string ⟨#[]⟩, .slice none 0 0]
  have e : (w_.alloc (.cells (pgCells P (.slice pa pn pc)).toArray 24)).heap.size = w_.heap.size + 1 := by simp
  rw [e] at this
  subst hw0; exact this
 have hz0 : w_.heap.size + 1 < w0.heap.size := hR0.lt
 obtain ⟨ha, hc, rfl⟩ := items_form hH
 obtain ⟨ma, mc, rfl⟩ := items_form hM
 obtain ⟨ta, tc, rfl⟩ := items_form hT
 have HH := keep hH
 have HM := keep hM
 have HT := keep hT
 have HS := keep hs
 have HP0 := keep hP0
 have HR0 := keep hR0
 have HG0 := keep hg0
 clear hH hM hT hs hR0 hg0
 unfold pgCells at hw0 hP0
 obtain ⟨p0, p1, p2, p3, p4, p5, _⟩ := pgres hP0
 unfold pgV
 obtain ⟨K, hK⟩ : ∃ K, H ++ M = K := ⟨_, rfl⟩
 rw [hK] at HS ⊢
 obtain ⟨L, hL⟩ : ∃ L, K ++ T = L := ⟨_, rfl⟩
 rw [hL] at HS ⊢
 have hKl : K.length + T.length ≤ 8796093022208 := by rw [← hK]; simp; omega
 have hLl : L.length ≤ 8796093022208 := by rw [← hL]; simp; omega
 have HKe := keep hK
 have HLe := keep hL
 clear hK hL
 go_enter Tryz.func120, Tryz.ntmps120
 go_upto_region 2 with fail
 rw [← hw0]
 clear hw0 hP0 p0 p1 p2 p3 p4 p5
 go_upto_region 3 with (at_builtin; go_must (refine wpList_sapp rfl _ _ rfl (w_.heap.size + 2) [] H (List.nil_append H) _ _ rfl rfl (OwnS.nil _ _) (Row.fits HH.out HG0.out) (by simp; omega) (by omega) ?_); intro v1 w1 ho1 hb1; obtain ⟨a1, c1, rfl⟩ := ho1.form)
 have HO1 := keep ho1
 have HB1 := keep (Below.trans HG0.out (hb1.mono (by omega)) : Below w_.heap.size w_ w1)
 have HX1 := keep hb1
 have hz1 := hb1.size
 clear ho1 hb1
 go_upto_region 4 with (at_builtin; go_must (refine wpList_sapp rfl _ _ rfl (w_.heap.size + 2) H M HKe.out _ _ rfl rfl HO1.out (Row.fits HM.out HB1.out) (by omega) (by omega) ?_); intro v2 w2 ho2 hb2; obtain ⟨a2, c2, rfl⟩ := ho2.form)
 have HO2 := keep ho2
 have HB2 := keep (Below.trans HB1.out (hb2.mono (by omega)) : Below w_.heap.size w_ w2)
 have HX2 := keep (Below.trans HX1.out hb2)
 have hz2 := hb2.size
 clear ho2 hb2
 go_upto_region 5 with (at_builtin; go_must (refine wpList_sapp rfl _ _ rfl (w_.heap.size + 2) K T HLe.out _ _ rfl rfl HO2.out (Row.fits HT.out HB2.out) (by omega) (by omega) ?_); intro v3 w3 ho3 hb3; obtain ⟨a3, c3, rfl⟩ := ho3.form)
 have hB3 : Below w_.heap.size w_ w3 := Below.trans HB2.out (hb3.mono (by omega))
 have hX3 : Below (w_.heap.size + 2) w0 w3 := Below.trans HX2.out hb3
 have hz3 := hb3.size
 have hP3 := HP0.out.below hX3 (by omega)
 have hR3 := HR0.out.below hX3 (by omega)
 have hit3 := ho3.items
 have hs3 := HS.out
 clear HH HM HT HS HP0 HR0 HG0 HO1 HO2 HB1 HB2 HX1 HX2 hb3 hX3 ho3
 have hP4 := hP3.set 5 (.slice a3 L.length c3)
 have hbut4 := (But.refl w_.heap.size w3).setCell 5 (.slice a3 L.length c3)
 have hR4 := hR3.but hbut4 (show w_.heap.size + 1 ≠ w_.heap.size by omega)
 have hit4 := itemsC_but hit3 hbut4 hP3 (by decide)
 have hg4 := But.below hB3 hbut4 (Nat.le_refl _) hB3.size
 have HP4 := keep hP4
 have HR4 := keep hR4
 have HI4 := keep hit4
 have HG4 := keep hg4
 have HS := keep hs3
 unfold pgCells at hP3
 obtain ⟨p0, p1, p2, p3, p4, p5, q0, q1, q2, q3, q4, q5⟩ := pgres hP3
 clear hP3 hR3 hit3 hP4 hbut4 hR4 hit4 hg4 hB3 hs3
 go_upto_region 6 with fail
 have hP4 := HP4.out
 have hR4 := HR4.out
 have hsz4 : (w3.setCell ⟨w_.heap.size, 5, none⟩ (.slice a3 L.length c3)).heap.size = w3.heap.size := by simp
 clear HP4 HR4 p0 p1 p2 p3 p4 p5 q0 q1 q2 q3 q4 q5
 generalize w3.setCell ⟨w_.heap.size, 5, none⟩ (.slice a3 L.length c3) = w4 at *
 unfold pgCells at hP4
 simp only [List.set_cons_succ, List.set_cons_zero] at hP4
 obtain ⟨p0, p1, p2, p3, p4, p5, _⟩ := pgres hP4
 have hcn : changedN P L more = if more then (if fitsP { P with items := L } then ({ P with items := L }, 0) else (zeroP, 3)) else ({ P with items := L }, 0) := rfl
 have HCn := keep hcn
 have HP4 := keep hP4
 have HR4 := keep hR4
 clear hcn hP4 hR4
 cases more with
 | false =>
  have hy : changedN P L false = ({ P with items := L }, 0) := HCn.out
  have HY := keep hy
  clear hy HCn
  have hR := HR4.out
  have Hset := keep (pgset hR (.int .i64 P.lsn) (.int .i64 P.kind) (.int .i64 P.level) (.int .i64 P.right) (.string (str P.high)) (.slice a3 L.length c3))
  have Hbut := keep (pgbut w4 (w_.heap.size + 1) (.int .i64 P.lsn) (.int .i64 P.kind) (.int .i64 P.level) (.int .i64 P.right) (.string (str P.high)) (.slice a3 L.length c3))
  have Hit := keep (itemsC_but HI4.out Hbut.out hR (by decide))
  have hlt2 := hR.lt
  obtain ⟨r0, r1, r2, r3, r4, r5, f0, f1, f2, f3, f4, f5⟩ := pgres hR
  clear hR
  go_wp2_with fail
  rw [HY.out]
  refine bodyPost_ret (v := .tuple #[pgV { P with items := L } (.slice a3 L.length c3), .int .i64 0]) ?_ rfl ⟨_, rfl, Hit.out, But.below HG4.out Hbut.out (by omega) (by omega)⟩
  obtain ⟨s0, s1, s2, s3, s4, s5, _⟩ := pgres Hset.out
  simp [results, Tryz.results120, go_sem, s0, s1, s2, s3, s4, s5, pgV]
 | true =>
  by_cases h255 : L.length ≤ 255
  ·have hsz := rsize_any { P with items := L } (.slice a3 L.length c3) w4 HI4.out.1.weak h255 HS.out hh
   unfold pgV at hsz
   have HSz := keep hsz
   have h255i : ¬ (255 : Int) < (L.length : Int) := by omega
   have hcn : changedN P L true = if fitsP { P with items := L } then ({ P with items := L }, 0) else (zeroP, 3) := HCn.out
   have hfd : fitsP { P with items := L } = decide (sizeP { P with items := L } ≤ 512) := by unfold fitsP; rw [decide_eq_true (show ({ P with items := L } : Pg).items.length ≤ 255 from h255), Bool.true_and]
   generalize sizeP { P with items := L } = Z at *
   have HCn := keep hcn
   have HFd := keep hfd
   clear hcn hfd hsz h255
   go_wp2_with fail
   refine HSz.out.mono ?_
   rintro x w5 ⟨rfl, hb5⟩
   have HP5 := keep (HP4.out.fits hb5)
   have HR5 := keep (HR4.out.fits hb5)
   have HI5 := keep (HI4.out.fits hb5)
   have HG5 := keep (Below.trans HG4.out (hb5.mono (by omega)) : Below w_.heap.size w_ w5)
   have hz5 := hb5.size
   clear HP4 HR4 HI4 HG4 HSz hb5 p0 p1 p2 p3 p4 p5
   obtain ⟨p0, p1, p2, p3, p4, p5, _⟩ := pgres HP5.out
   by_cases h512 : Z ≤ 512
   ·have hy : changedN P L true = ({ P with items := L }, 0) := by rw [HCn.out, HFd.out, decide_eq_true h512]; rfl
    have HY := keep hy
    have h512i : ¬ (512 : Int) < (Z : Int) := by omega
    clear hy HCn HFd h512
    have hR := HR5.out
    have Hset := keep (pgset hR (.int .i64 P.lsn) (.int .i64 P.kind) (.int .i64 P.level) (.int .i64 P.right) (.string (str P.high)) (.slice a3 L.length c3))
    have Hbut := keep (pgbut w5 (w_.heap.size + 1) (.int .i64 P.lsn) (.int .i64 P.kind) (.int .i64 P.level) (.int .i64 P.right) (.string (str P.high)) (.slice a3 L.length c3))
    have Hit := keep (itemsC_but HI5.out Hbut.out hR (by decide))
    have hlt2 := hR.lt
    obtain ⟨r0, r1, r2, r3, r4, r5, f0, f1, f2, f3, f4, f5⟩ := pgres hR
    clear hR
    go_wp2_with fail
    rw [HY.out]
    refine bodyPost_ret (v := .tuple #[pgV { P with items := L } (.slice a3 L.length c3), .int .i64 0]) ?_ rfl ⟨_, rfl, Hit.out, But.below HG5.out Hbut.out (by omega) (by omega)⟩
    obtain ⟨s0, s1, s2, s3, s4, s5, _⟩ := pgres Hset.out
    simp [results, Tryz.results120, go_sem, s0, s1, s2, s3, s4, s5, pgV]
   ·have hy : changedN P L true = (zeroP, 3) := by rw [HCn.out, HFd.out, decide_eq_false h512]; rfl
    have HY := keep hy
    have h512i : (512 : Int) < (Z : Int) := by omega
    clear hy HCn HFd h512
    have hR := HR5.out
    have Hset := keep (pgset hR (.int .i64 0) (.int .i64 0) (.int .i64 0) (.int .i64 0) (.string ⟨#[]⟩) (.slice none 0 0))
    have Hbut := keep (pgbut w5 (w_.heap.size + 1) (.int .i64 0) (.int .i64 0) (.int .i64 0) (.int .i64 0) (.string ⟨#[]⟩) (.slice none 0 0))
    have hlt2 := hR.lt
    obtain ⟨r0, r1, r2, r3, r4, r5, f0, f1, f2, f3, f4, f5⟩ := pgres hR
    clear hR
    go_wp2_with fail
    rw [HY.out]
    refine bodyPost_ret (v := .tuple #[pgV zeroP (.slice none 0 0), .int .i64 3]) ?_ rfl ⟨_, rfl, ItemsC.nil _, But.below HG5.out Hbut.out (by omega) (by omega)⟩
    obtain ⟨s0, s1, s2, s3, s4, s5, _⟩ := pgres Hset.out
    simp [results, Tryz.results120, go_sem, s0, s1, s2, s3, s4, s5, pgV, zeroP]
    try rfl
  ·have hy : changedN P L true = (zeroP, 3) := by
    rw [HCn.out, if_pos rfl, if_neg]
    unfold fitsP
    rw [decide_eq_false (show ¬ ({ P with items := L } : Pg).items.length ≤ 255 from h255)]
    simp
   have HY := keep hy
   have h255i : (255 : Int) < (L.length : Int) := by omega
   clear hy HCn h255
   have hR := HR4.out
   have Hset := keep (pgset hR (.int .i64 0) (.int .i64 0) (.int .i64 0) (.int .i64 0) (.string ⟨#[]⟩) (.slice none 0 0))
   have Hbut := keep (pgbut w4 (w_.heap.size + 1) (.int .i64 0) (.int .i64 0) (.int .i64 0) (.int .i64 0) (.string ⟨#[]⟩) (.slice none 0 0))
   have hlt2 := hR.lt
   obtain ⟨r0, r1, r2, r3, r4, r5, f0, f1, f2, f3, f4, f5⟩ := pgres hR
   clear hR
   go_wp2_with fail
   rw [HY.out]
   refine bodyPost_ret (v := .tuple #[pgV zeroP (.slice none 0 0), .int .i64 3]) ?_ rfl ⟨_, rfl, ItemsC.nil _, But.below HG4.out Hbut.out (by omega) (by omega)⟩
   obtain ⟨s0, s1, s2, s3, s4, s5, _⟩ := pgres Hset.out
   simp [results, Tryz.results120, go_sem, s0, s1, s2, s3, s4, s5, pgV, zeroP]
   try rfl
end Go.Proofs.YtaninphcgeaepaaGreat
namespace Go.Proofs.YtaninphcgeaepaaGreat
open Go.RowKit
attribute [local go_sem] givesF_none givesF_some evalF_tmp evalF_const evalF_global evalF_func lookL isB_bool isB_undef givesUpon_value givesUpon_skip givesUpon_enter
theorem sub_lo2 {w : World} {a : Option Addr} {n c k : Nat} {l : List (List UInt8)} (h : Items w (.slice a n c) l) (hk : k ≤ l.length) (_hc : l.length ≤ c) : Items w (.slice a k c) (l.take k) := by
 have hl : (l.take k).length = k := by rw [List.length_take]; omega
 by_cases h0 : k = 0
 ·subst h0
  exact .inl ⟨by simp, by simp [sCells], _, _, rfl⟩
 ·rcases h with ⟨h1, _⟩ | ⟨c', off', cap', h1, h3⟩
  ·omega
  ·simp only [Value.slice.injEq] at h1
   obtain ⟨rfl, _, rfl⟩ := h1
   refine .inr ⟨c', off', c, ?_, fun j hj => ?_⟩
   ·rw [hl]
   ·rw [sCells_length, hl] at hj
    rw [h3 j (by rw [sCells_length]; omega)]
    simp [sCells]
theorem sub_hi2 {w : World} {a : Option Addr} {n c k : Nat} {l : List (List UInt8)} (h : Items w (.slice a n c) l) (hk : k ≤ l.length) (hc : l.length ≤ c) : Items w (.slice (if c = k then a else a.map fun x => x.add k) (l.length - k) (c - k)) (l.drop k) := by
 have hl : (l.drop k).length = l.length - k := List.length_drop
 by_cases h0 : k = l.length
 ·subst h0
  exact .inl ⟨by simp, by simp [sCells], _, _, by rw [Nat.sub_self]⟩
 ·rcases h with ⟨h1, _⟩ | ⟨c', off', cap', h1, h3⟩
  ·omega
  ·simp only [Value.slice.injEq] at h1
   obtain ⟨rfl, _, rfl⟩ := h1
   refine .inr ⟨c', off' + k, c - k, ?_, fun j hj => ?_⟩
   ·rw [if_neg (show ¬ c = k by omega), hl]
    simp only [Option.map_some, Addr.add]
    split
    ·rename_i h9
     have : k = 0 := by simpa using h9
     subst this
     rfl
    ·simp
   ·rw [sCells_length, hl] at hj
    rw [Nat.add_assoc, h3 (k + j) (by rw [sCells_length]; omega)]
    simp [sCells]
theorem one_item (w : World) (x : List UInt8) : Items (w.alloc (.cells #[.string (str x)] 9)) (.slice (some ⟨w.heap.size, 0, none⟩) 1 1) [x] :=
 Row.blk (Blk.new w 9 [.string (str x)]) 1 1 _ 0 (by intro j hj; rw [Nat.zero_add]; rfl)
set_option maxRecDepth 100000 in
set_option maxHeartbeats 4000000 in
theorem rput_any (P : Pg) (iv : Value) (i : Nat) (x : List UInt8) (w_ : World) (hi : Items w_ iv P.items) (hcap : Capd iv) (hi2 : i ≤ P.items.length) (hs : ∀ y ∈ P.items, (y.length : Int) ≤ 140737488355328) (hx : (x.length : Int) ≤ 140737488355328) (hh : (P.high.length : Int) ≤ 140737488355328) (hl : P.items.length ≤ 1759218604440) :
  Calls Tryz.prog 107 #[pgV P iv, .int .i64 i, .string (str x)] w_ (PgPost (putN P i x).1 (putN P i x).2 w_) := by
 obtain ⟨w0, hw0⟩ : ∃ w0, w0 = (w_.alloc (.cells (pgCells P iv).toArray 24)).alloc (.cells #[.int .i64 0, .int .i64 0, .int .i64 0, .int .i64 0, .string ⟨#[]⟩, .slice none 0 0] 24) := ⟨_, rfl⟩
 have hg0 : Grow w_ w0 := by subst hw0; exact ((Grow.refl w_).alloc _).alloc _
 have hP0 : Blk w0 w_.heap.size 24 (pgCells P iv) := by subst hw0; exact (Blk.new w_ _ _).alloc _
 have hR0 : Blk w0 (w_.heap.size + 1) 24 [.int .i64 0, .int .i64 0, .int .i64 0, .int .i64 0, .string ⟨#[]⟩, .slice none 0 0] := by
  have := Blk.new (w_.alloc (.cells (pgCells P iv).toArray 24)) 24 [.int .i64 0, .int .i64 0, .int .i64 0, .int .i64 0, .string ⟨#[]⟩, .slice none 0 0]
  have e : (w_.alloc (.cells (pgCells P iv).toArray 24)).heap.size = w_.heap.size + 1 := by simp
  rw [e] at this
  subst hw0; exact this
 have hlt := hR0.lt
 have hiv := items_form hi
 obtain ⟨ia, ic, hive⟩ := hiv
 subst hive
 have hsl : ∀ y ∈ P.items.take i ++ [x] ++ P.items.drop i, (y.length : Int) ≤ 140737488355328 := by
  intro y hy
  rcases List.mem_append.1 hy with h | h
  ·rcases List.mem_append.1 h with h | h
   ·exact hs y (List.mem_of_mem_take h)
   ·rw [List.mem_singleton.1 h]; exact hx
  ·exact hs y (List.mem_of_mem_drop h)
 have ht := fun (u : World) (hv mv tv : Value) (h1 : Items u hv (P.items.take i)) (h2 : Items u mv [x]) (h3 : Items u tv (P.items.drop i)) => changed_any P (.slice ia P.items.length ic) hv mv tv (P.items.take i) [x] (P.items.drop i) true u ⟨_, _, _, rfl⟩ h1 h2 h3 (by simp; omega) hsl hh
 have hd : putN P i x = changedN P (P.items.take i ++ [x] ++ P.items.drop i) true := by
  unfold putN changedN
  rw [if_pos rfl, List.append_assoc]
  rfl
 rw [hd]
 clear hd
 generalize changedN P (P.items.take i ++ [x] ++ P.items.drop i) true = R at *
 obtain ⟨Q, cd⟩ := R
 dsimp only at ht
 unfold PgPost pgV at ht
 have HT := keep ht
 have HLe := keep hi2
 have hle : ¬ ((P.items.length : Int) < (i : Int)) := by omega
 clear ht hsl hs
 have HP0 := keep (fun (u : World) (hu : Grow w0.drew u) => Blk.fits (Blk.drew hP0) hu)
 have HR0 := keep hR0
 have HI0 := keep (fun (u : World) (hu : Grow w0 u) => (Row.fits (Row.fits hi hg0) hu : Items u _ P.items))
 have HG0 := keep hg0
 have HP := keep hP0
 have HCap := keep (show P.items.length ≤ ic from hcap)
 have hcap2 : P.items.length ≤ ic := hcap
 have hcap3 : (i : Int) ≤ (ic : Int) := by omega
 clear hi hR0 hg0 hcap
 unfold pgCells at hw0 hP0
 obtain ⟨p0, p1, p2, p3, p4, p5, _⟩ := pgres hP0
 unfold pgV
 go_enter Tryz.func107, Tryz.ntmps107
 go_upto_region 1 with fail
 rw [← hw0]
 clear hw0
 go_upto_region 3 with fail
 clear p0 p1 p2 p3 p4 p5 hP0
 refine wp_region_grow_named (by kernel_rfl) 14 (by kernel_rfl) [(18, 0), (19, 1), (20, 2), (21, 3), (22, 4), (23, 5), (24, 6), (25, 7), (26, 8), (27, 9), (28, 10), (29, 11), (30, 12), (31, 13)] (by kernel_rfl) [(0, true), (1, true), (2, true), (3, true), (4, true), (5, true), (6, true), (7, true), (8, true), (9, true), (10, true), (11, true), (12, true), (13, true)] (by kernel_rfl) rfl rfl ?_
 intro a0 ha0
 have hsz : a0.tmps.size = 32 := (size_at ha0).trans rfl
 have s1 := slot_at ha0 1 rfl
 have s2 := slot_at ha0 2 rfl
 have s3 := slot_at ha0 3 rfl
 have HA0 := keep ha0
 clear ha0
 apply lq hsz [] [(19, 1), (20, 2), (21, 3), (22, 4), (23, 5), (24, 6), (25, 7), (26, 8), (27, 9), (28, 10), (30, 12), (31, 13)] none (by kernel_rfl) rfl
 ·intro xs w hw hp K hK
  obtain ⟨p0, p1, p2, p3, p4, p5, _⟩ := pgres (HP0.out w hw)
  go_simp
  exact hK _ (Grow.refl _)
 apply lq hsz [] [(18, 0), (21, 3), (22, 4), (23, 5), (24, 6), (25, 7), (26, 8), (27, 9), (28, 10), (29, 11), (30, 12), (31, 13)] none (by kernel_rfl) rfl
 ·intro xs w hw hp K hK
  go_simp
  exact hK _ (Grow.refl _)
 apply lq hsz [(1, true)] [(18, 0), (19, 1), (21, 3), (23, 5), (24, 6), (25, 7), (26, 8), (27, 9), (28, 10), (29, 11), (30, 12), (31, 13)] none (by kernel_rfl) rfl
 ·intro xs w hw hp K hK
  simp only [holdsL, List.nil_append, List.cons_append, List.getD_cons_succ, List.getD_cons_zero, if_true, and_true] at hp
  obtain ⟨p0, p1, p2, p3, p4, p5, _⟩ := pgres (HP0.out w hw)
  go_simp
  exact hK _ (Grow.refl _)
 apply lq hsz [] [(18, 0), (19, 1), (20, 2), (23, 5), (24, 6), (25, 7), (26, 8), (27, 9), (28, 10), (29, 11), (30, 12), (31, 13)] none (by kernel_rfl) rfl
 ·intro xs w hw hp K hK
  go_simp
  exact hK _ (Grow.refl _)
 refine lexf_says hsz (fun v u => Items u v (P.items.take i)) (fun _ _ _ g h => Row.fits h g) [(2, true), (3, true)] [(18, 0), (19, 1), (20, 2), (21, 3), (23, 5), (24, 6), (25, 7), (26, 8), (27, 9), (28, 10), (30, 12), (31, 13)] none (by kernel_rfl) (by kernel_rfl) (by kernel_rfl) (by kernel_rfl) rfl ?_ ?_
 ·intro xs w hw hp K hK
  simp only [holdsL, List.nil_append, List.cons_append, List.getD_cons_succ, List.getD_cons_zero, if_true, and_true] at hp
  go_simp
  exact hK _ _ (sub_lo2 (HI0.out w (Grow.undrew hw)) HLe.out HCap.out) (Grow.refl _)
 apply lq hsz [] [(18, 0), (19, 1), (20, 2), (21, 3), (22, 4), (25, 7), (26, 8), (27, 9), (28, 10), (29, 11), (30, 12), (31, 13)] none (by kernel_rfl) rfl
 ·intro xs w hw hp K hK
  go_simp
  exact hK _ (Grow.refl _)
 refine lexf_says hsz (fun v u => Items u v [x]) (fun _ _ _ g h => Row.fits h g) [(5, true)] [(18, 0), (19, 1), (20, 2), (21, 3), (22, 4), (23, 5), (25, 7), (26, 8), (27, 9), (28, 10), (30, 12), (31, 13)] none (by kernel_rfl) (by kernel_rfl) (by kernel_rfl) (by kernel_rfl) rfl ?_ ?_
 ·intro xs w hw hp K hK
  simp only [holdsL, List.nil_append, List.cons_append, List.getD_cons_succ, List.getD_cons_zero, if_true, and_true] at hp
  go_simp
  exact hK _ _ (one_item w x) ((Grow.refl _).alloc _)
 apply lq hsz [] [(18, 0), (19, 1), (20, 2), (21, 3), (22, 4), (23, 5), (24, 6), (27, 9), (28, 10), (29, 11), (30, 12), (31, 13)] none (by kernel_rfl) rfl
 ·intro xs w hw hp K hK
  go_simp
  exact hK _ (Grow.refl _)
 apply lq hsz [(7, true)] [(18, 0), (19, 1), (20, 2), (21, 3), (22, 4), (23, 5), (24, 6), (25, 7), (27, 9), (29, 11), (30, 12), (31, 13)] none (by kernel_rfl) rfl
 ·intro xs w hw hp K hK
  simp only [holdsL, List.nil_append, List.cons_append, List.getD_cons_succ, List.getD_cons_zero, if_true, and_true] at hp
  obtain ⟨p0, p1, p2, p3, p4, p5, _⟩ := pgres (HP0.out w hw)
  go_simp
  exact hK _ (Grow.refl _)
 apply lq hsz [] [(18, 0), (19, 1), (20, 2), (21, 3), (22, 4), (23, 5), (24, 6), (25, 7), (26, 8), (29, 11), (30, 12), (31, 13)] none (by kernel_rfl) rfl
 ·intro xs w hw hp K hK
  go_simp
  exact hK _ (Grow.refl _)
 refine lexf_says hsz (fun v u => Items u v (P.items.drop i)) (fun _ _ _ g h => Row.fits h g) [(8, true), (9, true)] [(18, 0), (19, 1), (20, 2), (21, 3), (22, 4), (23, 5), (24, 6), (25, 7), (26, 8), (27, 9), (30, 12), (31, 13)] none (by kernel_rfl) (by kernel_rfl) (by kernel_rfl) (by kernel_rfl) rfl ?_ ?_
 ·intro xs w hw hp K hK
  simp only [holdsL, List.nil_append, List.cons_append, List.getD_cons_succ, List.getD_cons_zero, if_true, and_true] at hp
  go_simp
  exact hK _ _ (sub_hi2 (HI0.out w (Grow.undrew hw)) HLe.out HCap.out) (Grow.refl _)
 refine lexf_says hsz (fun v u => ∃ iv, v = .tuple #[pgV Q iv, .int .i64 cd] ∧ ItemsC u iv Q.items) (fun _ _ _ g h => h.elim fun iv h => ⟨iv, h.1, h.2.fits g⟩) [(0, true), (4, true), (6, true), (10, true)] [(18, 0), (19, 1), (20, 2), (21, 3), (22, 4), (23, 5), (24, 6), (25, 7), (26, 8), (27, 9), (28, 10)] none (by kernel_rfl) (by kernel_rfl) (by kernel_rfl) (by kernel_rfl) rfl ?_ ?_
 ·intro xs w hw hp K hK
  simp only [holdsL, List.nil_append, List.cons_append, List.getD_cons_succ, List.getD_cons_zero, if_true, and_true] at hp
  obtain ⟨h0, h4, h6, h10⟩ := hp
  go_simp
  exact (HT.out w (xs 4) (xs 6) (xs 10) h4 h6 h10).mono fun e w' ⟨iv, h1, h2, h3⟩ => ⟨_, h1, hK _ _ ⟨iv, rfl, h2⟩ h3⟩
 refine lexf_says hsz (fun v u => ∃ iv, v = pgV Q iv ∧ ItemsC u iv Q.items) (fun _ _ _ g h => h.elim fun iv h => ⟨iv, h.1, h.2.fits g⟩) [(11, true)] [(18, 0), (19, 1), (20, 2), (21, 3), (22, 4), (23, 5), (24, 6), (25, 7), (26, 8), (27, 9), (28, 10), (29, 11), (31, 13)] none (by kernel_rfl) (by kernel_rfl) (by kernel_rfl) (by kernel_rfl) rfl ?_ ?_
 ·intro xs w hw hp K hK
  simp only [holdsL, List.nil_append, List.cons_append, List.getD_cons_succ, List.getD_cons_zero, if_true, and_true] at hp
  obtain ⟨iv8, h8, hit⟩ := hp
  go_simp
  exact hK _ _ ⟨iv8, rfl, hit⟩ (Grow.refl _)
 refine lexf_says hsz (fun v _ => v = .int .i64 cd) (fun _ _ _ _ h => h) [(11, true)] [(18, 0), (19, 1), (20, 2), (21, 3), (22, 4), (23, 5), (24, 6), (25, 7), (26, 8), (27, 9), (28, 10), (29, 11), (30, 12)] none (by kernel_rfl) (by kernel_rfl) (by kernel_rfl) (by kernel_rfl) rfl ?_ ?_
 ·intro xs w hw hp K hK
  simp only [holdsL, List.nil_append, List.cons_append, List.getD_cons_succ, List.getD_cons_zero, if_true, and_true] at hp
  obtain ⟨iv8, h8, hit⟩ := hp
  go_simp
  exact hK _ _ rfl (Grow.refl _)
 intro xs w hw hp
 have ha0 := HA0.out
 clear HA0 hsz s1 s2 s3
 simp only [holdsL, List.nil_append, List.cons_append, List.getD_cons_succ, List.getD_cons_zero, if_true, and_true] at hp
 have h9 := hp.2.2.2.2.2.2.2.2.2.2.2.2.1
 have h10 := hp.2.2.2.2.2.2.2.2.2.2.2.2.2
 clear hp
 subst ha0
 simp only [putAll, h10]
 obtain ⟨iv9, h9, hit⟩ := h9
 simp only [h9]
 obtain ⟨qa, qc, rfl⟩ := itemsS_form hit.1
 have hgw := hw.undrew
 have hR := HR0.out.fits hgw
 have hbb : Below w_.heap.size w_ w := Grow.trans HG0.out hgw
 obtain ⟨r0, r1, r2, r3, r4, r5, f0, f1, f2, f3, f4, f5⟩ := pgres hR
 have Hset := keep (pgset hR (.int .i64 Q.lsn) (.int .i64 Q.kind) (.int .i64 Q.level) (.int .i64 Q.right) (.string (str Q.high)) (.slice qa Q.items.length qc))
 have Hbut := keep (pgbut w (w_.heap.size + 1) (.int .i64 Q.lsn) (.int .i64 Q.kind) (.int .i64 Q.level) (.int .i64 Q.right) (.string (str Q.high)) (.slice qa Q.items.length qc))
 have Hit := keep hit
 have HR := keep hR
 have Hbb := keep hbb
 have hlt2 := hR.lt
 clear hw h9 h10 hit hR hbb hgw
 unfold pgV
 go_wp2_with fail
 refine bodyPost_ret (v := .tuple #[pgV Q (.slice qa Q.items.length qc), .int .i64 cd]) ?_ rfl ⟨_, rfl, itemsC_but Hit.out Hbut.out HR.out (by decide), But.below Hbb.out Hbut.out (by omega) (by omega)⟩
 obtain ⟨s0, s1, s2, s3, s4, s5, _⟩ := pgres Hset.out
 simp [results, Tryz.results107, go_sem, s0, s1, s2, s3, s4, s5, pgV]
set_option maxRecDepth 100000 in
set_option maxHeartbeats 4000000 in
theorem rput14_any (P : Pg) (iv : Value) (i : Nat) (x : List UInt8) (w_ : World) (hi : Items w_ iv P.items) (hcap : Capd iv) (hi2 : i ≤ P.items.length) (hs : ∀ y ∈ P.items, (y.length : Int) ≤ 140737488355328) (hx : (x.length : Int) ≤ 140737488355328) (hh : (P.high.length : Int) ≤ 140737488355328) (hl : P.items.length ≤ 1759218604440) :
  Calls Tryz.prog 85 #[pgV P iv, .int .i64 i, .string (str x)] w_ (PgPost (putN P i x).1 (putN P i x).2 w_) := by
 obtain ⟨w0, hw0⟩ : ∃ w0, w0 = (w_.alloc (.cells (pgCells P iv).toArray 24)).alloc (.cells #[.int .i64 0, .int .i64 0, .int .i64 0, .int .i64 0, .string ⟨#[]⟩, .slice none 0 0] 24) := ⟨_, rfl⟩
 have hg0 : Grow w_ w0 := by subst hw0; exact ((Grow.refl w_).alloc _).alloc _
 have hP0 : Blk w0 w_.heap.size 24 (pgCells P iv) := by subst hw0; exact (Blk.new w_ _ _).alloc _
 have hR0 : Blk w0 (w_.heap.size + 1) 24 [.int .i64 0, .int .i64 0, .int .i64 0, .int .i64 0, .string ⟨#[]⟩, .slice none 0 0] := by
  have := Blk.new (w_.alloc (.cells (pgCells P iv).toArray 24)) 24 [.int .i64 0, .int .i64 0, .int .i64 0, .int .i64 0, .string ⟨#[]⟩, .slice none 0 0]
  have e : (w_.alloc (.cells (pgCells P iv).toArray 24)).heap.size = w_.heap.size + 1 := by simp
  rw [e] at this
  subst hw0; exact this
 have hlt := hR0.lt
 have hiv := items_form hi
 obtain ⟨ia, ic, hive⟩ := hiv
 subst hive
 have ht := rput_any P (.slice ia P.items.length ic) i x w0 (Row.fits hi hg0) hcap hi2 hs hx hh hl
 generalize putN P i x = R at *
 obtain ⟨Q, cd⟩ := R
 dsimp only at ht
 unfold PgPost pgV at ht
 have HT := keep ht
 have HR0 := keep hR0
 have HG0 := keep hg0
 clear ht hs hi hR0 hg0 hcap
 unfold pgCells at hw0 hP0
 obtain ⟨p0, p1, p2, p3, p4, p5, _⟩ := pgres hP0
 unfold pgV
 go_enter Tryz.func85, Tryz.ntmps85
 go_upto_region 1 with fail
 rw [← hw0]
 clear hw0
 go_wp2_with fail
 refine HT.out.mono ?_
 rintro e w ⟨iv9, rfl, hit, hgw⟩
 obtain ⟨qa, qc, rfl⟩ := itemsS_form hit.1
 clear p0 p1 p2 p3 p4 p5 hP0
 have hR := HR0.out.fits hgw
 have hbb : Below w_.heap.size w_ w := Grow.trans HG0.out hgw
 obtain ⟨r0, r1, r2, r3, r4, r5, f0, f1, f2, f3, f4, f5⟩ := pgres hR
 have Hset := keep (pgset hR (.int .i64 Q.lsn) (.int .i64 Q.kind) (.int .i64 Q.level) (.int .i64 Q.right) (.string (str Q.high)) (.slice qa Q.items.length qc))
 have Hbut := keep (pgbut w (w_.heap.size + 1) (.int .i64 Q.lsn) (.int .i64 Q.kind) (.int .i64 Q.level) (.int .i64 Q.right) (.string (str Q.high)) (.slice qa Q.items.length qc))
 have Hit := keep hit
 have HR := keep hR
 have Hbb := keep hbb
 have hlt2 := hR.lt
 clear hit hR hbb hgw
 go_wp2_with fail
 refine bodyPost_ret (v := .tuple #[pgV Q (.slice qa Q.items.length qc), .int .i64 cd]) ?_ rfl ⟨_, rfl, itemsC_but Hit.out Hbut.out HR.out (by decide), But.below Hbb.out Hbut.out (by omega) (by omega)⟩
 obtain ⟨s0, s1, s2, s3, s4, s5, _⟩ := pgres Hset.out
 simp [results, Tryz.results85, go_sem, s0, s1, s2, s3, s4, s5, pgV]
end Go.Proofs.YtaninphcgeaepaaGreat
