import Derived.Test.YtcdapdcablnhpaaGreatKSo7l
namespace Go.Proofs.YtcdapdcablnhpaaGreat
open Go.RowKit
attribute [local go_sem] hgs
attribute [local go_sem] want_f0 want_f3 rep_f1 rep_f2 guard_want
theorem rep_f3 (e : Int) (f : Bool) (v : ByteArray) (a : Option Addr) (n c : Nat) (u : World) : (Instr.field 56 (.agg #[.int .i64 e, .bool f, .string v, .slice a n c]) 3).run Tryz.prog u = .ok (.slice a n c) u := by kernel_rfl
attribute [local go_sem] rep_f3
def ReRel (pb n9 : Nat) (num : Int) (w0 : World) (i : Value) (wr : World) : Prop := ∃ n : Nat, n <= n9 /\ i = .int .i64 n /\ Kept (RdI w0.heap.size pb num wr) /\ Kept (Grow w0 wr)
set_option maxRecDepth 100000 in
set_option maxHeartbeats 16000000 in
theorem reads_law (call : Int) (key upk val : List UInt8) (num : Int) (lv : Value) (l : List ShD) (w_ : World) (hnum : num <= 9223372036854775807)
  (hl : Row w_ 65 lv l.length (l.flatMap ShD.cells)) (hls : ∀ d ∈ l, ShIn w_ d) (hln : (l.length : Int) <= 1000000000000) :
  Calls Tryz.prog 4 #[askV call key upk val num, lv] w_ fun y w' => y = .returned (.bool true) /\ Below w_.heap.size w_ w' := by
 obtain ⟨la, lc, rfl, -⟩ := row22_slice hl;obtain ⟨w0, hw0⟩ : ∃ w0, w0 = w_.alloc (.cells (askC call key upk val num).toArray 52) := ⟨_, rfl⟩;have hg0 : Grow w_ w0 := by subst hw0; exact (Grow.refl w_).alloc _
 have hA0 : Blk w0 w_.heap.size 52 (askC call key upk val num) := by subst hw0; exact Blk.new w_ _ _
 have HL := keep (Row.fits hl hg0);have HLs := keep (fun d hd => (hls d hd).fits hg0);have HLn := keep hln;have HG0 := keep hg0;have HA := keep hA0;have hn := plnew_any call key upk val num 0 w0;unfold NewPost askV at hn;have HN := keep hn;obtain ⟨a0, a1, a2, a3, a4⟩ := (show w0.cell? ⟨w_.heap.size, 0, none⟩ = some (.int .u8 call) /\ w0.cell? ⟨w_.heap.size, 1, none⟩ = some (.string (str key)) /\ w0.cell? ⟨w_.heap.size, 2, none⟩ = some (.string (str upk)) /\ w0.cell? ⟨w_.heap.size, 3, none⟩ = some (.string (str val)) /\ w0.cell? ⟨w_.heap.size, 4, none⟩ = some (.int .i64 num) from ⟨hA0.cell 0 (by simp [askC]), hA0.cell 1 (by simp [askC]), hA0.cell 2 (by simp [askC]), hA0.cell 3 (by simp [askC]), hA0.cell 4 (by simp [askC])⟩);unfold askC at hw0;have HNum := keep hnum;clear hl hls hln hg0 hA0 hn hnum;unfold askV
 by_cases hc : call = 2 \/ call = 5
 case neg =>
  have e3 : (call != 2) = true := by simp; omega
  have e4 : (call != 5) = true := by simp; omega
  clear HN hc;go_enter Tryz.func4, Tryz.ntmps4;go_upto_region 1 with fail;rw [<- hw0];clear hw0;go_wp2_with fail;refine (awake19_any w0).mono ?_;rintro y w2 ⟨rfl, hb2⟩;have HG2 := keep (Grow.trans HG0.out hb2);clear hb2 a0 a1 a2 a3 a4;go_wp2_with fail;go_ret;exact ⟨rfl, HG2.out⟩
 have hq : (call != 2) = false \/ ((call != 2) = true /\ (call != 5) = false) := by rcases hc with rfl | rfl <;> simp
 have HCall := keep hc;go_enter Tryz.func4, Tryz.ntmps4;go_upto_region 1 with fail;rw [<- hw0];clear hw0 hc;go_cut [18] from 11 to 18 (fun s18 wx => s18 = .bool false /\ wx = w0)
 case first =>
  rcases hq with h3 | ⟨h3, h4⟩
  ·go_wp2_with fail;go_meet
   case rel => exact ⟨rfl, rfl⟩
  ·go_wp2_with fail;go_meet
   case rel => exact ⟨rfl, rfl⟩
 case rest =>
 obtain ⟨rfl, rfl⟩ := hcut;generalize wc = w0 at *;clear hq;go_wp2_with fail;refine HN.out.mono ?_;clear a0 a1 a2 a3 a4;rintro y w1 (⟨-, rfl, hb1⟩ | ⟨hr, pb, rfl, hpb, hT, hb1⟩)
 ·have HG1 := keep (Grow.trans HG0.out hb1);clear hb1 HN;go_wp2_with fail;refine (awake19_any w1).mono ?_;rintro y w2 ⟨rfl, hb2⟩;have HG2 := keep (Grow.trans HG1.out hb2);clear hb2;go_wp2_with fail;go_ret;exact ⟨rfl, HG2.out⟩
 have HT1 := keep (show RdI w0.heap.size pb num w1 from ⟨_, RdOk.start HCall.out, PlOk.start hr, hT⟩);have HG1 := keep (show Grow w0 w1 from hb1);have HPb := keep hpb;have hLn := HLn.out;have HRe := keep (fun (u : World) (hu : RdI w0.heap.size pb num u) => rd_reply hu);have hwt := fun (u : World) (hu : RdI w0.heap.size pb num u) => rd_want hu
 unfold wtV at hwt;have HWt := keep hwt;clear hr hpb hT hb1 HN hwt;go_wp2_with fail;go_loopw [7] (fun i wr => ReRel pb l.length num w0 i wr) (fun i _ => l.length - (intOf i).toNat)
 case atStart => exact show ReRel _ _ _ _ _ _ from ⟨0, Nat.zero_le _, rfl, HT1, HG1⟩
 case round =>
  obtain ⟨n, hn1, rfl, HTn, HGn⟩ := hrel
  by_cases h1 : n < l.length
  ·obtain ⟨c, off, cap, e1⟩ := shows_get HL.out h1;simp only [Value.slice.injEq] at e1;obtain ⟨rfl, -, rfl⟩ := e1;have hc := fun (u : World) (hu : Grow w0 u) => shows_at (Row.fits HL.out hu) h1
   have hx := HLs.out l[n] (List.getElem_mem h1);have hpg := fun (u : World) (hg : Grow w0 u) (hu : RdI w0.heap.size pb num u) => rd_page hu hx rfl HPb.out hg (.slice none 0 0) rfl
   have hnd := fun (u : World) (hg : Grow w0 u) (hu : RdI w0.heap.size pb num u) => rd_need hu (hx.pg.fits hg)
   obtain ⟨ba_, bn_, bc_, aa_, an_, ac_, ra_, rn_, rc_, ia_, iN_, ic_, fa_, fn_, fc_, e1, e2, e3, e4, e5⟩ := hx.forms;clear hx;generalize l[n] = d at *;obtain ⟨x, bv, av, rv, iv, fv⟩ := d;dsimp only at *;subst e1 e2 e3 e4 e5;unfold vwV pgV rdV at hpg;dsimp only [noRd] at hpg;rw [str_nilS] at hpg;unfold pgV at hnd;have HPg := keep hpg;have HC := keep hc;have HNd := keep hnd;clear hpg hc hnd;go_wp2_with fail;refine (HWt.out wr HTn.out).mono ?_;rintro y w2 ⟨⟨wk, wkey, wsz, wpg, hwk, rfl⟩, hb2⟩;have HT2 := keep (RdI.fits _ _ hb2 HTn.out);have HG2 := keep (Grow.trans HGn.out hb2);clear hb2;go_upto_region 10 with fail;obtain ⟨w3, hw3⟩ : ∃ w3, w3 = w2.alloc (.cells #[.int .i64 wk, .string (str wkey), .int .i64 wsz, .int .i64 wpg] 61) := ⟨_, rfl⟩;rw [<- hw3];have hg3 : Grow w2 w3 := by subst hw3; exact (Grow.refl _).alloc _
   have hB3 : Blk w3 w2.heap.size 61 [.int .i64 wk, .string (str wkey), .int .i64 wsz, .int .i64 wpg] := by subst hw3; exact Blk.new w2 _ [_, _, _, _]
   obtain ⟨⟨b0, b1, b2, b3⟩, -⟩ := rp4 hB3;have HT3 := keep (RdI.fits _ _ hg3 HT2.out);have HG3 := keep (Grow.trans HG2.out hg3);clear hw3 hg3 hB3;obtain ⟨c0, c1, c2, c3, c4, c5, c6, c7, c8, c9, c10, c11, c12, c13, c14, c15, c16, c17, c18, c19, c20, c21⟩ := HC.out w3 HG3.out;go_cut [61] from 36 to 77 (fun s61 wx => s61 = .bool false /\ Kept (RdI w0.heap.size pb num wx) /\ Kept (Grow w0 wx))
   case first =>
    rcases hwk with rfl | rfl
    ·go_wp2_with fail;refine (HNd.out w3 HG3.out HT3.out).mono ?_;rintro y w4 ⟨rfl, hb4⟩;have HT4 := keep (RdI.fits _ _ hb4 HT3.out);have HG4 := keep (Grow.trans HG3.out hb4);clear hb4;go_wp2_with fail;go_meet
     case rel => exact ⟨rfl, HT4, HG4⟩
    ·go_wp2_with fail;refine (HNd.out w3 HG3.out HT3.out).mono ?_;rintro y w4 ⟨rfl, hb4⟩;have HT4 := keep (RdI.fits _ _ hb4 HT3.out);have HG4 := keep (Grow.trans HG3.out hb4);clear hb4;go_wp2_with fail;go_meet
     case rel => exact ⟨rfl, HT4, HG4⟩
   case rest =>
   obtain ⟨rfl, HT5, HG5⟩ := hcut;clear hwk b0 b1 b2 b3 c0 c1 c2 c3 c4 c5 c6 c7 c8 c9 c10 c11 c12 c13 c14 c15 c16 c17 c18 c19 c20 c21 HT3 HG3 HT2 HG2;generalize wc = w5 at *;go_upto_region 12 with fail;refine wp_region_ext_named (by kernel_rfl) 17 (ExtR w0.heap.size (RdI w0.heap.size pb num)) (ExtR.refl _ _ _) (fun _ _ _ => ExtR.trans) (by kernel_rfl) [(63, 0), (64, 1), (65, 2), (66, 3), (67, 4), (68, 5), (69, 6), (70, 7), (71, 8), (72, 9), (73, 10), (74, 11), (62, 12), (75, 13), (76, 14), (9, 15)] (by kernel_rfl) [(0, true), (1, true), (2, true), (3, true), (4, true), (5, true), (6, true), (7, true), (8, true), (9, true), (10, true), (11, true), (12, true), (13, true), (14, true), (15, true), (16, false)] (by kernel_rfl) rfl rfl ?_;intro a0 ha0;have hsz : a0.tmps.size = 89 := (size_at ha0).trans rfl;have s1 := slot_at ha0 1 rfl;have s5 := slot_at ha0 5 rfl;have s7 := slot_at ha0 7 rfl;have HA0 := keep ha0;clear ha0;apply lq hsz [] [(64, 1), (65, 2), (66, 3), (67, 4), (68, 5), (69, 6), (70, 7), (71, 8), (72, 9), (73, 10), (62, 12), (75, 13), (76, 14), (9, 15)] none (by kernel_rfl) rfl
   ·intro xs w hw hp K hK;go_simp;exact hK _ (ExtR.refl _ _ _)
   apply lq hsz [] [(63, 0), (65, 2), (67, 4), (68, 5), (69, 6), (70, 7), (71, 8), (72, 9), (73, 10), (74, 11), (62, 12), (75, 13), (76, 14), (9, 15)] none (by kernel_rfl) rfl
   ·intro xs w hw hp K hK;go_simp;exact hK _ (ExtR.refl _ _ _)
   apply lq hsz [] [(63, 0), (64, 1), (67, 4), (68, 5), (69, 6), (70, 7), (71, 8), (72, 9), (73, 10), (74, 11), (62, 12), (75, 13), (76, 14), (9, 15)] none (by kernel_rfl) rfl
   ·intro xs w hw hp K hK;go_simp;exact hK _ (ExtR.refl _ _ _)
   apply lq hsz [(1, true), (2, true)] [(63, 0), (64, 1), (65, 2), (68, 5), (69, 6), (70, 7), (71, 8), (72, 9), (73, 10), (74, 11), (62, 12), (75, 13), (76, 14), (9, 15)] none (by kernel_rfl) rfl
   ·intro xs w hw hp K hK;simp only [hz] at hp;go_simp;exact hK _ (ExtR.refl _ _ _)
   apply lq hsz [(3, true)] [(63, 0), (64, 1), (65, 2), (66, 3), (69, 6), (70, 7), (71, 8), (72, 9), (73, 10), (74, 11), (62, 12), (75, 13), (76, 14), (9, 15)] none (by kernel_rfl) rfl
   ·intro xs w hw hp K hK;simp only [hz] at hp;go_simp;exact hK _ (ExtR.refl _ _ _)
   apply lq hsz [(4, true)] [(63, 0), (64, 1), (65, 2), (66, 3), (67, 4), (69, 6), (70, 7), (71, 8), (72, 9), (73, 10), (62, 12), (75, 13), (76, 14), (9, 15)] none (by kernel_rfl) rfl
   ·intro xs w hw hp K hK;simp only [hz] at hp;obtain ⟨c0, c1, c2, c3, c4, c5, c6, c7, c8, c9, c10, c11, c12, c13, c14, c15, c16, c17, c18, c19, c20, c21⟩ := HC.out w (Below.trans HG5.out (ExtR.low hw HG5.out.size));go_simp;exact hK _ (ExtR.refl _ _ _)
   apply lq hsz [] [(63, 0), (64, 1), (65, 2), (66, 3), (67, 4), (68, 5), (70, 7), (72, 9), (73, 10), (74, 11), (62, 12), (75, 13), (76, 14), (9, 15)] none (by kernel_rfl) rfl
   ·intro xs w hw hp K hK;go_simp;exact hK _ (ExtR.refl _ _ _)
   apply lq hsz [] [(63, 0), (64, 1), (65, 2), (66, 3), (67, 4), (68, 5), (69, 6), (72, 9), (73, 10), (74, 11), (62, 12), (75, 13), (76, 14), (9, 15)] none (by kernel_rfl) rfl
   ·intro xs w hw hp K hK;go_simp;exact hK _ (ExtR.refl _ _ _)
   apply lq hsz [(6, true), (7, true)] [(63, 0), (64, 1), (65, 2), (66, 3), (67, 4), (68, 5), (69, 6), (70, 7), (73, 10), (74, 11), (62, 12), (75, 13), (76, 14), (9, 15)] none (by kernel_rfl) rfl
   ·intro xs w hw hp K hK;simp only [hz] at hp;go_simp;exact hK _ (ExtR.refl _ _ _)
   apply lq hsz [(8, true)] [(63, 0), (64, 1), (65, 2), (66, 3), (67, 4), (68, 5), (69, 6), (70, 7), (71, 8), (74, 11), (62, 12), (75, 13), (76, 14), (9, 15)] none (by kernel_rfl) rfl
   ·intro xs w hw hp K hK;simp only [hz] at hp;go_simp;exact hK _ (ExtR.refl _ _ _)
   apply lq hsz [(9, true)] [(63, 0), (64, 1), (65, 2), (66, 3), (67, 4), (68, 5), (69, 6), (70, 7), (71, 8), (72, 9), (62, 12), (75, 13), (76, 14), (9, 15)] none (by kernel_rfl) rfl
   ·intro xs w hw hp K hK;simp only [hz] at hp;obtain ⟨c0, c1, c2, c3, c4, c5, c6, c7, c8, c9, c10, c11, c12, c13, c14, c15, c16, c17, c18, c19, c20, c21⟩ := HC.out w (Below.trans HG5.out (ExtR.low hw HG5.out.size));go_simp;exact hK _ (ExtR.refl _ _ _)
   apply lq hsz [(0, true), (5, true), (10, true)] [(63, 0), (64, 1), (65, 2), (66, 3), (67, 4), (68, 5), (69, 6), (70, 7), (71, 8), (72, 9), (73, 10), (75, 13), (76, 14), (9, 15)] none (by kernel_rfl) rfl
   ·intro xs w hw hp K hK;simp only [hz] at hp;go_simp;exact (HPg.out w (Below.trans HG5.out (ExtR.low hw HG5.out.size)) (ExtR.inv RdI.fits hw HG5.out.size HT5.out)).mono fun e w' ⟨h1, h2, h3⟩ => ⟨_, h1, hK _ (ExtR.sel h3 HPb.out (fun _ => h2))⟩
   apply lq hsz [(11, true)] [(63, 0), (64, 1), (65, 2), (66, 3), (67, 4), (68, 5), (69, 6), (70, 7), (71, 8), (72, 9), (73, 10), (74, 11), (9, 15)] none (by kernel_rfl) rfl
   ·intro xs w hw hp K hK;simp only [hz] at hp;go_simp;exact hK _ (ExtR.refl _ _ _)
   apply lq hsz [(12, true)] [(63, 0), (64, 1), (65, 2), (66, 3), (67, 4), (68, 5), (69, 6), (70, 7), (71, 8), (72, 9), (73, 10), (74, 11), (62, 12), (76, 14), (9, 15)] none (by kernel_rfl) rfl
   ·intro xs w hw hp K hK;simp only [hz] at hp;go_simp;exact hK _ (ExtR.refl _ _ _)
   apply lq hsz [(12, true)] [(63, 0), (64, 1), (65, 2), (66, 3), (67, 4), (68, 5), (69, 6), (70, 7), (71, 8), (72, 9), (73, 10), (74, 11), (62, 12), (75, 13), (9, 15)] none (by kernel_rfl) rfl
   ·intro xs w hw hp K hK;simp only [hz] at hp;go_simp;exact hK _ (ExtR.refl _ _ _)
   refine lexf_says hsz (RecB w0.heap.size) (fun _ _ _ g h => RecB.lasts g h) [] [(63, 0), (64, 1), (65, 2), (66, 3), (67, 4), (68, 5), (69, 6), (70, 7), (71, 8), (72, 9), (73, 10), (74, 11), (62, 12), (75, 13), (76, 14)] none (by kernel_rfl) (by kernel_rfl) (by kernel_rfl) (by kernel_rfl) rfl ?_ ?_
   ·intro xs w hw hp K hK;go_simp;exact hK _ _ ⟨_, rfl, Nat.le_trans HG5.out.size hw.1, Nat.le_trans (Nat.le_trans HG5.out.size hw.1) (by simp), _, rfl, Blk.new w _ [.int .i64 0, .int .i64 0, .int .i64 0, .int .u8 0, .int .i64 0, .int .i64 0, .int .i64 0, .int .i64 0, .int .i64 0, .int .i64 0, .string ⟨#[]⟩, .slice none 0 0, .slice none 0 0, .slice none 0 0, .slice none 0 0, .slice none 0 0]⟩ (ExtR.grow RdI.fits ((Grow.refl w).alloc _))
   refine lexf_none hsz (fun _ => True) (fun _ _ _ h => h) [(13, true), (15, true)] [(63, 0), (64, 1), (65, 2), (66, 3), (67, 4), (68, 5), (69, 6), (70, 7), (71, 8), (72, 9), (73, 10), (74, 11), (62, 12), (75, 13), (76, 14), (9, 15)] none (by kernel_rfl) (by kernel_rfl) (by kernel_rfl) (by kernel_rfl) rfl ?_ ?_
   ·intro xs w hw hp K hK;simp only [hz] at hp;obtain ⟨h17, b, h19, hbN, hbS, cs, hl, hB⟩ := hp;obtain ⟨a0_, a1_, a2_, a3_, a4_, a5_, a6_, a7_, a8_, a9_, a10_, a11_, a12_, a13_, a14_, a15_, rfl⟩ := len16 hl;obtain ⟨⟨r0_, r1_, r2_, r3_, r4_, r5_, r6_, r7_, r8_, r9_, r10_, r11_, r12_, r13_, r14_, r15_⟩, hz_⟩ := recres hB;have z0_ := hz_ 0;have z1_ := hz_ 1;have z2_ := hz_ 2;have z3_ := hz_ 3;have z4_ := hz_ 4;have z5_ := hz_ 5;have z6_ := hz_ 6;have z7_ := hz_ 7;have z8_ := hz_ 8;have z9_ := hz_ 9;have z10_ := hz_ 10;have z11_ := hz_ 11;have z12_ := hz_ 12;have z13_ := hz_ 13;have z14_ := hz_ 14;have z15_ := hz_ 15;have Hset := keep (recset hB (.int .i64 0) (.int .i64 0) (.int .i64 0) (.int .u8 0) (.int .i64 0) (.int .i64 0) (.int .i64 0) (.int .i64 0) (.int .i64 0) (.int .i64 0) (.string ⟨#[]⟩) (.slice none 0 0) (.slice none 0 0) (.slice none 0 0) (.slice none 0 0) (.slice none 0 0));have Hbut := keep (recbut w b (.int .i64 0) (.int .i64 0) (.int .i64 0) (.int .u8 0) (.int .i64 0) (.int .i64 0) (.int .i64 0) (.int .i64 0) (.int .i64 0) (.int .i64 0) (.string ⟨#[]⟩) (.slice none 0 0) (.slice none 0 0) (.slice none 0 0) (.slice none 0 0) (.slice none 0 0));have HB := keep hB;clear hB hl hz_;go_simp;exact hK _ _ trivial (ExtR.store Hbut.out HB.out Hset.out rfl hbN (fun ⟨S, h1, h2, h3⟩ => ⟨S, h1, h2, PlT.other h3 Hbut.out HB.out (by decide) (by decide) (by decide)⟩))
   intro xs w hw hp;have ha0 := HA0.out;clear HA0 hsz s1 s5 s7;simp only [hz] at hp;have h76 := hp.2.2.2.2.2.2.2.2.2.2.2.2.2.2.1;clear hp;subst ha0;simp only [putAll, h76];have HTw := keep (ExtR.inv RdI.fits hw HG5.out.size HT5.out);have HGw := keep (show Grow w0 w from Below.trans HG5.out (ExtR.low hw HG5.out.size));generalize w = w6 at *;clear hw h76 HPg;simp only [List.drop_succ_cons, List.drop_zero];go_frame;go_wp2_with fail;go_roundw
   case rel => exact show ReRel _ _ _ _ _ _ from ⟨n + 1, h1, by go_num, HTw, HGw⟩
   case measure => simp [intOf]; omega
  ·go_upto_region 15 with fail;refine wp_region_grow_named (by kernel_rfl) 9 (by kernel_rfl) [(78, 0), (79, 1), (80, 2), (81, 3), (82, 4), (83, 5), (84, 6), (85, 7), (86, 8)] (by kernel_rfl) [(0, true), (1, true), (2, true), (3, true), (4, true), (5, true), (6, true), (7, true), (8, true)] (by kernel_rfl) rfl rfl ?_;intro a0 ha0;have hsz : a0.tmps.size = 89 := (size_at ha0).trans rfl;have s2 := slot_at ha0 2 rfl;have s5 := slot_at ha0 5 rfl;have HA0 := keep ha0;clear ha0;apply lq hsz [] [(80, 2), (81, 3), (82, 4), (83, 5), (84, 6), (85, 7), (86, 8), (87, 9), (88, 10)] none (by kernel_rfl) rfl
   ·intro xs w hw hp K hK;go_simp;exact hK _ (Grow.refl _)
   refine lexf_says hsz (fun v _ => ∃ e f s ra n rc, v = .agg #[.int .i64 e, .bool f, .string s, .slice ra n rc] /\ ((n : Int) <= max num 0 /\ (n : Int) <= 1000)) (fun _ _ _ _ h => h) [(0, true)] [(78, 0), (81, 3), (82, 4), (83, 5), (84, 6), (85, 7), (87, 9), (88, 10)] none (by kernel_rfl) (by kernel_rfl) (by kernel_rfl) (by kernel_rfl) rfl ?_ ?_
   ·intro xs w hw hp K hK;simp only [hz] at hp;go_simp;exact (HRe.out w (RdI.fits _ _ hw.undrew HTn.out)).mono fun e w' ⟨⟨a1, a2, a3, a4, a5, a6, h1, h2⟩, h3⟩ => ⟨_, h1, hK _ _ ⟨a1, a2, a3, a4, a5, a6, rfl, h2⟩ h3⟩
   refine lexf_says hsz (fun v _ => ∃ ra n rc, v = .slice ra n rc /\ ((n : Int) <= max num 0 /\ (n : Int) <= 1000)) (fun _ _ _ _ h => h) [(1, true)] [(78, 0), (79, 1), (82, 4), (83, 5), (84, 6), (85, 7), (86, 8), (87, 9), (88, 10)] none (by kernel_rfl) (by kernel_rfl) (by kernel_rfl) (by kernel_rfl) rfl ?_ ?_
   ·intro xs w hw hp K hK;simp only [hz] at hp;obtain ⟨z1, z2, z3, z4, z5, z6, h8, h9⟩ := hp;go_simp;exact hK _ _ ⟨_, _, _, rfl, h9⟩ (Grow.refl _)
   refine lexf_says hsz (fun v _ => ∃ n : Nat, v = .int .i64 n /\ ((n : Int) <= max num 0 /\ (n : Int) <= 1000)) (fun _ _ _ _ h => h) [(2, true)] [(78, 0), (79, 1), (80, 2), (82, 4), (83, 5), (84, 6), (86, 8), (87, 9), (88, 10)] none (by kernel_rfl) (by kernel_rfl) (by kernel_rfl) (by kernel_rfl) rfl ?_ ?_
   ·intro xs w hw hp K hK;simp only [hz] at hp;obtain ⟨z1, z2, z3, h8, h9⟩ := hp;go_simp;exact hK _ _ ⟨_, rfl, h9⟩ (Grow.refl _)
   apply lq hsz [] [(78, 0), (79, 1), (80, 2), (81, 3), (84, 6), (85, 7), (86, 8), (87, 9), (88, 10)] none (by kernel_rfl) rfl
   ·intro xs w hw hp K hK;go_simp;exact hK _ (Grow.refl _)
   apply lq hsz [(4, true)] [(78, 0), (79, 1), (80, 2), (81, 3), (82, 4), (85, 7), (86, 8), (87, 9), (88, 10)] none (by kernel_rfl) rfl
   ·intro xs w hw hp K hK;simp only [hz] at hp;have a4 := (HA.out.fits (Grow.trans HGn.out hw.undrew)).cell 4 (by simp [askC]);simp only [askC, List.getElem_cons_zero, List.getElem_cons_succ] at a4;go_simp;exact hK _ (Grow.refl _)
   apply lq hsz [(5, true)] [(78, 0), (79, 1), (80, 2), (81, 3), (82, 4), (83, 5), (86, 8), (87, 9), (88, 10)] none (by kernel_rfl) rfl
   ·intro xs w hw hp K hK;simp only [hz] at hp;go_simp;exact hK _ (Grow.refl _)
   apply lq hsz [(3, true), (6, true)] [(78, 0), (79, 1), (80, 2), (81, 3), (82, 4), (83, 5), (84, 6), (87, 9), (88, 10)] none (by kernel_rfl) rfl
   ·intro xs w hw hp K hK;simp only [hz] at hp;obtain ⟨⟨z1, h8, h9⟩, hp6⟩ := hp;have hle : decide ((z1 : Int) <= max num 0) = true := decide_eq_true h9.1;go_simp;exact hK _ (Grow.refl _)
   apply lq hsz [(7, true)] [(78, 0), (79, 1), (80, 2), (81, 3), (82, 4), (83, 5), (84, 6), (85, 7)] none (by kernel_rfl) rfl
   ·intro xs w hw hp K hK;simp only [hz] at hp;go_simp;exact hK _ (Grow.refl _)
   intro xs w hw hp;have ha0 := HA0.out;clear HA0 hsz s2 s5;simp only [hz] at hp;have h86 := hp.2.2.2.2.2.2.2.2;clear hp;subst ha0;simp only [putAll, h86];have HGw := keep (Grow.trans HGn.out hw.undrew);generalize w = w6 at *;clear hw h86;simp only [List.drop_succ_cons, List.drop_zero];go_frame;go_wp2_with fail;refine (awake19_any w6).mono ?_;rintro y w7 ⟨rfl, hb7⟩;have HG7 := keep (Grow.trans HG0.out (Grow.trans HGw.out hb7));clear hb7;go_wp2_with fail;go_ret;exact ⟨rfl, HG7.out⟩
end Go.Proofs.YtcdapdcablnhpaaGreat
namespace Go.Proofs.YtcdapdcablnhpaaGreat
open Go.ChangeShapes Go.WideShapes Go.ChangeAt Go.RowKit
theorem reads_top (call : Int) (key upk val : List UInt8) (num : Int) (lv : Value) (l : List ShD) (w : World) (_ : 0 <= call) (_ : call <= 255) (_ : (key.length : Int) <= 140737488355328) (_ : (upk.length : Int) <= 140737488355328) (_ : (val.length : Int) <= 140737488355328) (hn : num <= 9223372036854775807)
  (hl : Row w 65 lv l.length (l.flatMap ShD.cells)) (hls : ∀ d ∈ l, ShIn w d) (hln : (l.length : Int) <= 1000000000000) :
  Calls Tryz.prog 4 #[askV call key upk val num, lv] w fun y w' => y = .returned (.bool true) /\ Below w.heap.size w w' :=
 reads_law call key upk val num lv l w hn hl hls hln
end Go.Proofs.YtcdapdcablnhpaaGreat
