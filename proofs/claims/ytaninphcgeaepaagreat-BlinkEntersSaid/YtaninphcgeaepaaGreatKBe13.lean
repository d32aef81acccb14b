import Derived.Test.YtaninphcgeaepaaGreatKBe12
import Derived.Test.YtaninphcgeaepaaGreatKBl11
import Derived.Test.YtaninphcgeaepaaGreatKCg2
import Derived.Deep.CutRange
namespace Go.Proofs.YtaninphcgeaepaaGreat
open Go.RowKit
attribute [local go_sem] givesF_none givesF_some evalF_tmp evalF_const evalF_global evalF_func lookL isB_bool isB_undef givesUpon_value givesUpon_skip givesUpon_enter
attribute [local simp] eql_entry sameE_self
attribute [local go_sem] guard_entry
theorem infoInt15 : (Tryz.prog.info? 3).map (fun i => (i.zero, i.size, i.bytes)) = some (some (.int .i64 0), 1, 8) := by kernel_rfl
def OwnI (N : Nat) (w : World) (v : Value) (l : List Int) : Prop := w.ownsRow N 3 1 v l.length (iCells l)
theorem irow_news {w : World} {v : Value} {l : List Int} (h : Ints w v l) (hl : 0 < l.length) : ∃ ad c, v = .slice (some ad) l.length c ∧ ∀ j u, (iCells l)[j]? = some u → w.cell? (ad.add j) = some u := by
 rcases h with ⟨h1, _⟩ | ⟨c, off, cap, h1, h2⟩
 ·omega
 ·refine ⟨_, _, h1, fun j u hj => ?_⟩
  obtain ⟨hj2, rfl⟩ := List.getElem?_eq_some_iff.1 hj
  have := h2 j hj2
  unfold Addr.add
  split
  ·rename_i h0
   have h9 : j = 0 := by simpa using h0
   subst h9
   exact this
  ·exact this
theorem iapp_run (ty : TypeId) (B : Nat) (xs ys : List Int) (v0 v : Value) (w : World) (h0 : OwnI B w v0 xs) (h : Ints w v ys) (hb : xs.length + ys.length ≤ 17592186044416) (hB : B ≤ w.heap.size) :
  ∃ v' w', (Builtin.append_ #[25, 25] ty #[v0, v]).run Tryz.prog w = .ok v' w' ∧ OwnI B w' v' (xs ++ ys) ∧ Below B w w' := by
 obtain ⟨iE, hiE, hzE0, hzE1, hzE2⟩ := info_parts infoInt15
 have below : ∀ {w' : World}, w.grownBy w' v0.ownBlock → Below B w w' := fun g => ⟨g.os, g.tape, g.output, g.size, fun k hk => g.block k (by omega) fun e => by
  have := (h0.lt _ e.symm).1
  omega⟩
 have some_case : ∀ (ad : Addr) (c : Nat), v = .slice (some ad) ys.length c → (∀ j u, (iCells ys)[j]? = some u → w.cell? (ad.add j) = some u) →
   ∃ v' w', (Builtin.append_ #[25, 25] ty #[v0, v]).run Tryz.prog w = .ok v' w' ∧ OwnI B w' v' (xs ++ ys) ∧ Below B w w' := by
  rintro ad c rfl hn
  obtain ⟨v', w', hr, h1, h2, _⟩ := run_append_own_at (P := Tryz.prog) w B 25 ty 3 iE _ 1 8 Tryz.underlying25 hiE hzE0 hzE1 hzE2 rfl (by decide) v0 xs.length (iCells xs) h0 ad ys.length c (iCells ys) (by simp [iCells]) hn (fun u hu => by obtain ⟨y, _, rfl⟩ := List.mem_map.1 hu; rfl) (by unfold maxLen; omega) (by omega) hB
  refine ⟨v', w', hr, ?_, below h2⟩
  unfold OwnI
  have e : iCells (xs ++ ys) = iCells xs ++ iCells ys := by simp [iCells]
  rw [e, List.length_append]
  exact h1
 by_cases hl : 0 < ys.length
 ·obtain ⟨ad, c, hv, hn⟩ := irow_news h hl
  exact some_case ad c hv hn
 ·have hy : ys = [] := List.eq_nil_of_length_eq_zero (by omega)
  subst hy
  obtain ⟨a, c, rfl⟩ := row_slice h
  cases a with
  | some ad => exact some_case ad c rfl (by simp [iCells])
  | none =>
   refine ⟨v0, w, ?_, by rw [List.append_nil]; exact h0, Below.refl _ _⟩
   rcases h0.2 with ⟨rfl, _⟩ | ⟨g, cap, cur, rfl, _, _, hnc, _⟩
   ·simp [Builtin.append_, run_underlying Tryz.underlying25, sizeOf, typeInfo, hiE, Builtin.lenOf, Builtin.firstCells]
   ·simp [Builtin.append_, run_underlying Tryz.underlying25, sizeOf, typeInfo, hiE, Builtin.lenOf, Builtin.firstCells, hnc, storeCells]
theorem wpList_iapp {ops : Array Oper} {rest : List Oper} {o : Oper} {a : Act} {Q : Exit → Act → World → Prop} {w : World} (hgd : o.guard = none) (s x : Operand)
  (ho : o.op = .call { callee := .builtin .append, args := #[s, x], argTypes := #[25, 25] }) (B : Nat) (xs ys : List Int) (v0 v : Value) (hs : a.eval s = v0) (hx : a.eval x = v)
  (h0 : OwnI B w v0 xs) (h : Ints w v ys) (hb : xs.length + ys.length ≤ 17592186044416) (hB : B ≤ w.heap.size)
  (hk : ∀ b c w', OwnI B w' (.slice b (xs ++ ys).length c) (xs ++ ys) → Below B w w' → wpList Tryz.prog ops Q rest (a.put o.dst (.slice b (xs ++ ys).length c)) w') : wpList Tryz.prog ops Q (o :: rest) a w := by
 obtain ⟨v', w', hr, h1, h2⟩ := iapp_run o.type B xs ys v0 v w h0 h hb hB
 obtain ⟨b, c, rfl⟩ := own_form h1
 exact wpList_upon_append hgd ho hs hx hr (hk b c w' h1 h2)
theorem ownI_empty (w : World) : OwnI w.heap.size (w.alloc (.cells #[] 3)) (.slice (some ⟨w.heap.size, 0, none⟩) 0 0) [] := World.ownsRow_made w #[] 0 (Nat.le_refl _) (Nat.zero_le _) rfl
theorem underRec : Tryz.prog.underlying 36 = some (Tryz.prog.underlying 36).get! := by kernel_rfl
theorem wpList_load_rec {ops : Array Oper} {rest : List Oper} {o : Oper} {a : Act} {Q : Exit → Act → World → Prop} {w : World} (hgd : o.guard = none) (x : Operand) (ho : o.op = .load 36 x) (b : Nat)
  (hx : a.eval x = .pointer (some ⟨b, 0, none⟩)) {cs : List Value} (hb : Blk w b 36 cs) (hl : cs.length = 16)
  (h : wpList Tryz.prog ops Q rest (a.put o.dst (.agg cs.toArray)) w) : wpList Tryz.prog ops Q (o :: rest) a w := by
 refine wpList_load_mid hgd _ x ho b 0 hx cs _ ?_ underRec (by kernel_rfl) (by rw [sizeRecord, hl]) h
 intro j v hv
 obtain ⟨hj, rfl⟩ := List.getElem?_eq_some_iff.1 hv
 rw [Nat.zero_add, hb.cell j hj]
theorem above_same {k : Int} {T1 T2 : List Im} (h : T1.map dropV = T2.map dropV) : aboveN k T1 = aboveN k T2 := by
 have hlen : T1.length = T2.length := by have := congrArg List.length h; simpa using this
 have hat : ∀ (i : Nat) (h1 : i < T1.length) (h2 : i < T2.length), T1[i].1 = T2[i].1 ∧ T1[i].2.1 = T2[i].2.1 := by
  intro i h1 h2
  have e := congrArg (fun l => l[i]?) h
  simp only [List.getElem?_map, List.getElem?_eq_getElem h1, List.getElem?_eq_getElem h2, Option.map_some, Option.some.injEq, dropV, Prod.mk.injEq] at e
  exact e
 unfold aboveN
 by_cases hc : k = 5 ∧ T1.length = 2
 ·rw [dif_pos hc, dif_pos (⟨hc.1, by omega⟩ : k = 5 ∧ T2.length = 2), (hat 0 (by omega) (by omega)).2, (hat 1 (by omega) (by omega)).1]
 ·rw [dif_neg hc, dif_neg (fun h2 => hc ⟨h2.1, by omega⟩)]
theorem grow_few (n k f0 r : Int) (sp : Bool) (A B : Pg) (out : Bool) (HA HB : Pg × En × Int) (RT : Pg × Int) : (growC n k f0 r sp A B out HA HB RT).1.2.2.2.length ≤ 3 := by
 unfold growC rc0
 repeat' split
 all_goals simp
theorem enter_few (P : Pg) (n : Int) (item : List UInt8) (fr : List Int) : (enterN P n item fr).1.2.2.2.length ≤ 3 := by
 unfold enterN growN
 split
 ·simp [rc0]
 ·split
  ·simp [rc0]
  ·split
   ·simp
   ·exact grow_few _ _ _ _ _ _ _ _ _ _ _
theorem pin_new (P : Pg) (ia : Option Addr) (ic : Nat) (item : List UInt8) (fv : Value) (w_ w0 : World) (h : w0 = (w_.alloc (.cells (pgCells P (.slice ia P.items.length ic)).toArray 24)).alloc (.cells #[.string (str item), fv] 27)) :
  Grow w_ w0 ∧ Blk w0 w_.heap.size 24 (pgCells P (.slice ia P.items.length ic)) ∧ Blk w0 (w_.heap.size + 1) 27 [.string (str item), fv] := by
 refine ⟨?_, ?_, ?_⟩
 ·subst h; exact ((Grow.refl w_).alloc _).alloc _
 ·have := (Blk.new w_ 24 (pgCells P (.slice ia P.items.length ic))).alloc (.cells #[.string (str item), fv] 27)
  subst h; exact this
 ·have := Blk.new (w_.alloc (.cells (pgCells P (.slice ia P.items.length ic)).toArray 24)) 27 [.string (str item), fv]
  have e : (w_.alloc (.cells (pgCells P (.slice ia P.items.length ic)).toArray 24)).heap.size = w_.heap.size + 1 := by simp
  rw [e] at this
  subst h; exact this
set_option maxRecDepth 100000 in
set_option maxHeartbeats 4000000 in
theorem enters_any (P : Pg) (iv : Value) (n : Int) (item : List UInt8) (fv : Value) (fr : List Int) (w_ : World) (hin : PgIn w_ iv P) (hcap : Capd iv) (hs : (item.length : Int) ≤ 140737488355328) (hf : Ints w_ fv fr) (hfl : (fr.length : Int) ≤ 17592186043904) :
  Calls Tryz.prog 3 #[pgV P iv, .int .i64 n, .agg #[.string (str item), fv]] w_ fun x w' => x = .returned (.bool true) ∧ Below w_.heap.size w_ w' := by
 obtain ⟨ia, ic, rfl⟩ := items_form hin.1
 obtain ⟨fa, fc, rfl⟩ := row_slice hf
 have h1 := fun (u : World) (hu : Grow w_ u) => need_any P _ n item u (hin.fits hu) hs
 have h2 := fun (u : World) (hu : Grow w_ u) => rneed_any P _ n item u (hin.fits hu) hcap hs
 have h3 := fun (u : World) (v : Value) (hu : Grow w_ u) (hv : Ints u v fr) => enter_any P _ n item fr v u (hin.fits hu) hcap hs hv (by omega)
 have h4 := fun (u : World) (hu : Grow w_ u) => renter_any P _ n item fr _ u (hin.fits hu) hcap hs (hf.fits hu) (by omega)
 have hfew := enter_few P n item fr
 unfold NeedPost at h1 h2
 unfold RecPost at h3 h4
 generalize enterN P n item fr = R at *
 generalize needN P n item = D at *
 obtain ⟨⟨rk, rp, rd, RL⟩, rc⟩ := R
 obtain ⟨dn, dc⟩ := D
 unfold pgV at h1 h2 h3 h4
 dsimp only at h1 h2 h3 h4 hfew
 obtain ⟨w0, hw0⟩ : ∃ w0, w0 = (w_.alloc (.cells (pgCells P (.slice ia P.items.length ic)).toArray 24)).alloc (.cells #[.string (str item), .slice fa fr.length fc] 27) := ⟨_, rfl⟩
 obtain ⟨hg0, hP0, hK0⟩ := pin_new P ia ic item _ w_ w0 hw0
 have k0 := hK0.cell 0 (by simp)
 have k1 := hK0.cell 1 (by simp)
 simp only [List.getElem_cons_zero, List.getElem_cons_succ] at k0 k1
 have H1 := keep h1
 have H2 := keep h2
 have H3 := keep h3
 have H4 := keep h4
 have HFew := keep hfew
 have HFl := keep hfl
 have HF := keep hf
 have HP0 := keep hP0
 have HG0 := keep hg0
 clear h1 h2 h3 h4 hin hcap hf hg0 hP0 hK0 hfew hfl
 unfold pgCells at hw0
 unfold pgV
 go_enter Tryz.func3, Tryz.ntmps3
 go_upto_region 1 with fail
 rw [← hw0]
 clear hw0
 have hPx := HP0.out.fits (Grow.refl w0)
 unfold pgCells at hPx
 obtain ⟨p0, p1, p2, p3, p4, p5, _⟩ := pgres hPx
 clear hPx
 go_wp2_with fail
 refine (H1.out w0 HG0.out).mono ?_
 rintro x u1 ⟨rfl, hb⟩
 have HG1 := keep (show Grow w0 u1 from hb)
 clear p0 p1 p2 p3 p4 p5 k0 k1 hb H1
 have hPx := HP0.out.fits HG1.out
 unfold pgCells at hPx
 obtain ⟨p0, p1, p2, p3, p4, p5, _⟩ := pgres hPx
 clear hPx
 go_wp2_with fail
 refine (H2.out u1 (Grow.trans HG0.out HG1.out)).mono ?_
 rintro x u2 ⟨rfl, hb⟩
 have HG2 := keep (Grow.trans HG1.out hb)
 clear p0 p1 p2 p3 p4 p5 hb H2
 go_upto_region 6 with (at_builtin; go_must (refine wpList_iapp rfl _ _ rfl u2.heap.size [] fr _ _ rfl rfl (ownI_empty u2) (HF.out.fits (Grow.alloc (Grow.trans HG0.out HG2.out) _)) (by have := HFl.out; simp; omega) (by simp) ?_); intro oa oc u3 ho3 hb3; have HG3 := keep (Grow.trans HG2.out (below_mk hb3)); have HO3 := keep (own_rowO ho3 : RowS u3 _ _ _ _); clear ho3 hb3)
 go_cut [14, 15] from 24 to 52 (fun s14 s15 wx => ∃ (b : Nat) (T1 : List Im) (ta : Option Addr) (tc : Nat), s14 = .pointer (some ⟨b, 0, none⟩) ∧ s15 = .int .i64 rc ∧ Kept (Blk wx b 36 (recGC rk rp (str rd) (.slice ta T1.length tc))) ∧ Kept (T1.map dropV = RL) ∧ Kept (ImgsW wx (.slice ta T1.length tc) T1) ∧ Kept (Grow u3 wx))
 case first =>
  have hPx := HP0.out.fits HG3.out
  unfold pgCells at hPx
  obtain ⟨p0, p1, p2, p3, p4, p5, _⟩ := pgres hPx
  clear hPx
  go_wp2_with fail
  refine (H3.out u3 _ (Grow.trans HG0.out HG3.out) HO3.out.weak).mono ?_
  rintro x u4 ⟨iv1, T1, rfl, hT1, hI1, hb⟩
  obtain ⟨ta, tc, rfl⟩ := imgs_form hI1
  have HI1 := keep hI1
  have HT1 := keep hT1
  have HB := keep hb
  clear p0 p1 p2 p3 p4 p5 hb H3 hI1 hT1
  unfold recG
  go_wp2_with ((refine wpList_store_rec rfl _ _ rfl u4.heap.size _ rfl rfl (Blk.new u4 _ [.int .i64 0, .int .i64 0, .int .i64 0, .int .u8 0, .int .i64 0, .int .i64 0, .int .i64 0, .int .i64 0, .int .i64 0, .int .i64 0, .string ⟨#[]⟩, .slice none 0 0, .slice none 0 0, .slice none 0 0, .slice none 0 0, .slice none 0 0]) rfl rfl rfl ?_); intro wz hset hbz; have Hset := keep hset; have HGz := keep (But.below ((Grow.refl u4).alloc _) hbz (Nat.le_refl _) (by simp) : Grow u4 wz); clear hset hbz)
  go_meet
  case rel => exact ⟨u4.heap.size, T1, ta, tc, rfl, rfl, Hset, HT1, keep (HI1.out.fits HGz.out), keep (Grow.trans HB.out HGz.out)⟩
 case rest =>
 obtain ⟨b1, T1, ta, tc, rfl, rfl, HC4, HT1, HI1, hg⟩ := hcut
 generalize wc = v4 at *
 have HV4 := keep (Grow.trans HG3.out hg.out)
 clear hg H3
 go_upto_region 7 with fail
 go_cut [16, 17] from 16 to 60 (fun s16 s17 wx => ∃ (b : Nat) (T2 : List Im) (sa : Option Addr) (sc : Nat), s16 = .pointer (some ⟨b, 0, none⟩) ∧ s17 = .int .i64 rc ∧ Kept (Blk wx b 36 (recGC rk rp (str rd) (.slice sa T2.length sc))) ∧ Kept (T2.map dropV = RL) ∧ Kept (ImgsW wx (.slice sa T2.length sc) T2) ∧ Kept (Grow v4 wx))
 case first =>
  have hPx := HP0.out.fits HV4.out
  unfold pgCells at hPx
  obtain ⟨p0, p1, p2, p3, p4, p5, _⟩ := pgres hPx
  clear hPx
  go_wp2_with fail
  refine (H4.out v4 (Grow.trans HG0.out HV4.out)).mono ?_
  rintro x u5 ⟨iv2, T2, rfl, hT2, hI2, hb⟩
  obtain ⟨sa, sc, rfl⟩ := imgs_form hI2
  have HI2 := keep hI2
  have HT2 := keep hT2
  have HB := keep hb
  clear p0 p1 p2 p3 p4 p5 hb H4 hI2 hT2
  unfold recG
  go_wp2_with ((refine wpList_store_rec rfl _ _ rfl u5.heap.size _ rfl rfl (Blk.new u5 _ [.int .i64 0, .int .i64 0, .int .i64 0, .int .u8 0, .int .i64 0, .int .i64 0, .int .i64 0, .int .i64 0, .int .i64 0, .int .i64 0, .string ⟨#[]⟩, .slice none 0 0, .slice none 0 0, .slice none 0 0, .slice none 0 0, .slice none 0 0]) rfl rfl rfl ?_); intro wz hset hbz; have Hset := keep hset; have HGz := keep (But.below ((Grow.refl u5).alloc _) hbz (Nat.le_refl _) (by simp) : Grow u5 wz); clear hset hbz)
  go_meet
  case rel => exact ⟨u5.heap.size, T2, sa, sc, rfl, rfl, Hset, HT2, keep (HI2.out.fits HGz.out), keep (Grow.trans HB.out HGz.out)⟩
 case rest =>
 obtain ⟨b2, T2, sa, sc, rfl, rfl, HC5, HT2, HI2, hg⟩ := hcut
 generalize wc = v5 at *
 have HV5 := keep (Grow.trans HV4.out hg.out)
 have HD5 := keep (HC4.out.fits hg.out)
 have HJ1 := keep (HI1.out.fits hg.out)
 have HJ2 := keep HI2.out
 have hTT : T1.map dropV = T2.map dropV := HT1.out.trans HT2.out.symm
 have hTl : (T1.length : Int) ≤ 4398046510976 := by
  have h9 := congrArg List.length HT1.out
  have h8 := HFew.out
  simp only [List.length_map] at h9
  omega
 have HTT := keep hTT
 have HTl := keep hTl
 have HAb := keep (above_same (k := rk) hTT)
 clear hg H4 hTT hTl HI1 HI2 HC4
 have h5 := above_any rk rp (str rd) _ T1 v5 HJ1.out
 unfold AbovePost at h5
 rw [HAb.out] at h5
 have h6 := fun (u : World) (hu : Grow v5 u) => rabove_any rk rp (str rd) _ T2 u (HJ2.out.fits hu)
 unfold AbovePost at h6
 generalize aboveN rk T2 = Y at *
 obtain ⟨⟨ek, ep, es⟩, kid, is⟩ := Y
 unfold recG enV at h5 h6
 dsimp only at h5 h6
 have H5 := keep h5
 have H6 := keep h6
 clear h5 h6 HAb
 go_upto_region 8 with fail
 go_cut [18, 19, 20] from 18 to 66 (fun s18 s19 s20 wx => ∃ (b : Nat), s18 = .pointer (some ⟨b, 0, none⟩) ∧ s19 = .int .i64 kid ∧ s20 = .bool is ∧ Kept (Blk wx b 41 [.string (str ek), .int .i64 ep, .int .i64 es]) ∧ Kept (Grow v5 wx))
 case first =>
  have hA := HD5.out
  unfold recGC at hA
  have HA := keep hA
  clear hA
  go_wp2_with (refine wpList_load_rec rfl _ rfl b1 rfl HA.out rfl ?_)
  refine H5.out.mono ?_
  rintro x u6 ⟨rfl, hb⟩
  have HB := keep hb
  clear hb H5 H6
  go_wp2_with fail
  go_meet
  case rel => exact ⟨u6.heap.size, rfl, rfl, rfl, keep (Blk.new u6 41 [.string (str ek), .int .i64 ep, .int .i64 es]), keep (Grow.alloc HB.out _)⟩
 case rest =>
 obtain ⟨b3, rfl, rfl, rfl, HE6, HK7⟩ := hcut
 generalize wc = v6 at *
 clear H5
 go_upto_region 9 with fail
 go_cut [21, 22, 23] from 21 to 72 (fun s18 s19 s20 wx => ∃ (b : Nat), s18 = .pointer (some ⟨b, 0, none⟩) ∧ s19 = .int .i64 kid ∧ s20 = .bool is ∧ Kept (Blk wx b 41 [.string (str ek), .int .i64 ep, .int .i64 es]) ∧ Kept (Grow v6 wx))
 case first =>
  have hB := HC5.out.fits HK7.out
  unfold recGC at hB
  have HA := keep hB
  clear hB
  go_wp2_with (refine wpList_load_rec rfl _ rfl b2 rfl HA.out rfl ?_)
  refine (H6.out v6 HK7.out).mono ?_
  rintro x u7 ⟨rfl, hb⟩
  have HB := keep hb
  clear hb H6
  go_wp2_with fail
  go_meet
  case rel => exact ⟨u7.heap.size, rfl, rfl, rfl, keep (Blk.new u7 41 [.string (str ek), .int .i64 ep, .int .i64 es]), keep (Grow.alloc HB.out _)⟩
 case rest =>
 obtain ⟨b4, rfl, rfl, rfl, HF7, HK8⟩ := hcut
 generalize wc = v7 at *
 have HE7 := keep (HE6.out.fits HK8.out)
 have HK9 := keep (Grow.trans HK7.out HK8.out)
 have HV7 := keep (Grow.trans HV5.out HK9.out)
 have hA := HD5.out.fits HK9.out
 have hB := HC5.out.fits HK9.out
 unfold recGC at hA hB
 obtain ⟨⟨p0, p1, p2, p3, p4, p5, p6, p7, p8, p9, p10, p11, p12, p13, p14, p15⟩, _⟩ := recres hA
 obtain ⟨⟨q0, q1, q2, q3, q4, q5, q6, q7, q8, q9, q10, q11, q12, q13, q14, q15⟩, _⟩ := recres hB
 have hsm := rsame_any rk rp (str rd) _ _ T1 T2 v7 (HJ1.out.fits HK9.out) (HJ2.out.fits HK9.out) HTT.out HTl.out
 unfold recG at hsm
 have HSm := keep hsm
 clear hA hB hsm H6
 go_wp2_with fail
 refine HSm.out.mono ?_
 rintro x z1 ⟨rfl, hb⟩
 have HZ1 := keep (Grow.trans HV7.out hb)
 clear p0 p1 p2 p3 p4 p5 p6 p7 p8 p9 p10 p11 p12 p13 p14 p15 q0 q1 q2 q3 q4 q5 q6 q7 q8 q9 q10 q11 q12 q13 q14 q15 HSm
 obtain ⟨e0, e1, e2, _⟩ := enres (HE7.out.fits hb)
 obtain ⟨f0, f1, f2, _⟩ := enres (HF7.out.fits hb)
 clear hb
 go_wp2_with fail
 refine (awake15_any z1).mono ?_
 rintro x z3 ⟨rfl, hb⟩
 go_wp2_with fail
 go_ret
 exact ⟨rfl, Grow.trans HG0.out (Grow.trans HZ1.out hb)⟩
end Go.Proofs.YtaninphcgeaepaaGreat
