import Derived.Test.YtcdapdcablnhpaaGreatKSem
import Derived.Test.YtcdapdcablnhpaaGreatKBe9
import Derived.Deep.CutRange
import Derived.Test.YtcdapdcablnhpaaGreatKLexn
namespace Go.Proofs.YtcdapdcablnhpaaGreat
open Go.RowKit
def encTI (xmin xmax : Int) (fz : Bool) (key val : List UInt8) : List UInt8 × Int := if tupOk xmin xmax (str key) (str val) then (tupS xmin.toNat xmax.toNat fz key val, 0) else ([], 110)
theorem tencode_any (xmin xmax : Int) (fz : Bool) (key val : List UInt8) (w : World) : Calls Tryz.prog 41 #[.agg #[.int .i64 xmin, .int .i64 xmax, .bool fz, .string (str key), .string (str val)]] w fun e w' => e = .returned (.tuple #[.string (str (encTI xmin xmax fz key val).1), .int .i64 (encTI xmin xmax fz key val).2]) /\ Below w.heap.size w w' := by
 unfold encTI;cases h : tupOk xmin xmax (str key) (str val) with
 | false => exact enc_bad xmin xmax fz (str key) (str val) w h
 | true =>
  have hn : xmin = ((xmin.toNat : Nat) : Int) /\ xmax = ((xmax.toNat : Nat) : Int) := by
   unfold tupOk at h;simp at h;omega
  obtain ⟨a, rfl⟩ : ∃ a : Nat, xmin = a := ⟨_, hn.1⟩;obtain ⟨b, rfl⟩ : ∃ b : Nat, xmax = b := ⟨_, hn.2⟩;rw [if_pos rfl, Int.toNat_natCast, Int.toNat_natCast];cases fz with
  | true => exact enc_yes a b (str key) (str val) w h
  | false => exact enc_no a b (str key) (str val) w h
theorem encTI_len (xmin xmax : Int) (fz : Bool) (key val : List UInt8) : ((encTI xmin xmax fz key val).1.length : Int) <= 1000 := by
 unfold encTI
 split
 ·rename_i h
  have h3 : key.length <= 24 /\ val.length <= 64 := by
   unfold tupOk fitsB at h;rw [str_size, str_size] at h;simp only [Bool.and_eq_true, decide_eq_true_eq] at h;exact ⟨h.1.2.2, h.2⟩
  have h1 := sev_length key.length;have h2 := sev_length val.length;unfold tupS txt;simp [bigS];omega
 ·simp
def insT (P : Pg) (n xmin xmax : Int) (fz : Bool) (key val : List UInt8) : Rcd × Int :=
 if P.kind ≠ 2 then (noRd, 120)
 else if tupOk xmin xmax (str key) (str val) = false then (noRd, 110)
 else if layB P (slotS P) (tupS xmin.toNat xmax.toNat fz key val) = false then (noRd, 121)
 else (⟨1, xmin, n, slotS P, 0, 0, tupS xmin.toNat xmax.toNat fz key val, []⟩, 0)
theorem insH_insT (P : Pg) (n own : Int) (key val : List UInt8) : insH P n own key val = insT P n own 0 false key val := rfl
theorem underRdR : Tryz.prog.underlying 71 = some (Tryz.prog.underlying 71).get! := by kernel_rfl
theorem wpList_load_rd {ops : Array Oper} {rest : List Oper} {o : Oper} {a : Act} {Q : Exit -> Act -> World -> Prop} {w : World} (hgd : o.guard = none) (x : Operand) (ho : o.op = .load 71 x) (b : Nat)
  (hx : a.eval x = .pointer (some ⟨b, 0, none⟩)) {cs : List Value} (hb : Blk w b 71 cs) (hl : cs.length = 16)
  (h : wpList Tryz.prog ops Q rest (a.put o.dst (.agg cs.toArray)) w) : wpList Tryz.prog ops Q (o :: rest) a w := by
 refine wpList_load_mid hgd _ x ho b 0 hx cs _ ?_ underRdR (by kernel_rfl) (by rw [sizeRecord, hl]) h;intro j v hv;obtain ⟨hj, rfl⟩ := List.getElem?_eq_some_iff.1 hv;rw [Nat.zero_add, hb.cell j hj]
def RdPost (R : Rcd) (c : Int) (w : World) (x : Ending) (w' : World) : Prop := x = .returned (.tuple #[rdV R (.slice none 0 0), .int .i64 c]) /\ Below w.heap.size w w'
theorem hinsert_res (tm : Array Value) (w : World) (b : Nat) (g : Int) (R : Rcd) (iv : Value) (h8 : tm.getD 6 undef = .pointer (some ⟨b, 0, none⟩)) (h9 : tm.getD 7 undef = .int .i64 g) (hB : Blk w b 71 (rdC R iv)) :
  (results Tryz.f97 tm).run Tryz.prog w = .ok (.tuple #[rdV R iv, .int .i64 g]) w := by
 unfold rdC at hB;obtain ⟨⟨s0_, s1_, s2_, s3_, s4_, s5_, s6_, s7_, s8_, s9_, s10_, s11_, s12_, s13_, s14_, s15_⟩, _⟩ := recres hB;simp only [Array.getD_eq_getD_getElem?] at h8 h9;simp [results, Tryz.results97, go_sem, h8, h9, s0_, s1_, s2_, s3_, s4_, s5_, s6_, s7_, s8_, s9_, s10_, s11_, s12_, s13_, s14_, s15_, rdV]
theorem ptr_new (P : Pg) (jv : Value) (a b c d e : Value) (w_ w0 : World) (h : w0 = ((w_.alloc (.cells (pgCells P jv).toArray 28)).alloc (.cells #[a, b, c, d, e] 44)).alloc (.cells zC.toArray 71)) :
  Grow w_ w0 /\ Blk w0 w_.heap.size 28 (pgCells P jv) /\ Blk w0 (w_.heap.size + 1) 44 [a, b, c, d, e] /\ Blk w0 (w_.heap.size + 2) 71 zC := by
 refine ⟨?_, ?_, ?_, ?_⟩
 ·subst h; exact (((Grow.refl w_).alloc _).alloc _).alloc _
 ·have := ((Blk.new w_ 28 (pgCells P jv)).alloc (.cells #[a, b, c, d, e] 44)).alloc (.cells zC.toArray 71);subst h; exact this
 ·have := (Blk.new (w_.alloc (.cells (pgCells P jv).toArray 28)) 44 [a, b, c, d, e]).alloc (.cells zC.toArray 71);have e9 : (w_.alloc (.cells (pgCells P jv).toArray 28)).heap.size = w_.heap.size + 1 := by simp
  rw [e9] at this;subst h; exact this
 ·have := Blk.new ((w_.alloc (.cells (pgCells P jv).toArray 28)).alloc (.cells #[a, b, c, d, e] 44)) 71 zC;have e9 : ((w_.alloc (.cells (pgCells P jv).toArray 28)).alloc (.cells #[a, b, c, d, e] 44)).heap.size = w_.heap.size + 2 := by simp
  rw [e9] at this;subst h; exact this
set_option maxRecDepth 100000 in
set_option maxHeartbeats 4000000 in
theorem hinsert_any (P : Pg) (iv : Value) (n xmin xmax : Int) (fz : Bool) (key val : List UInt8) (w_ : World) (hin : PgIn w_ iv P) (hl : P.items.length <= 8796093021980) :
  Calls Tryz.prog 97 #[pgV P iv, .int .i64 n, .agg #[.int .i64 xmin, .int .i64 xmax, .bool fz, .string (str key), .string (str val)]] w_ (RdPost (insT P n xmin xmax fz key val).1 (insT P n xmin xmax fz key val).2 w_) := by
 obtain ⟨w0, hw0⟩ : ∃ w0, w0 = ((w_.alloc (.cells (pgCells P iv).toArray 28)).alloc (.cells #[.int .i64 xmin, .int .i64 xmax, .bool fz, .string (str key), .string (str val)] 44)).alloc (.cells zC.toArray 71) := ⟨_, rfl⟩;obtain ⟨hg0, hP0, hT0, hR0⟩ := ptr_new P iv _ _ _ _ _ w_ w0 hw0;obtain ⟨R, hR⟩ : ∃ R, insT P n xmin xmax fz key val = R := ⟨_, rfl⟩;have hr : R = if P.kind ≠ 2 then (noRd, 120) else if tupOk xmin xmax (str key) (str val) = false then (noRd, 110) else if layB P (slotS P) (tupS xmin.toNat xmax.toNat fz key val) = false then (noRd, 121)
   else (⟨1, xmin, n, slotS P, 0, 0, tupS xmin.toNat xmax.toNat fz key val, []⟩, 0) := by rw [<- hR]; rfl
 rw [hR];have hen := fun (u : World) => tencode_any xmin xmax fz key val u
 have hel := encTI_len xmin xmax fz key val;have hed : encTI xmin xmax fz key val = if tupOk xmin xmax (str key) (str val) then (tupS xmin.toNat xmax.toNat fz key val, 0) else ([], 110) := rfl
 generalize tupOk xmin xmax (str key) (str val) = ok at *;generalize tupS xmin.toNat xmax.toNat fz key val = bs at *;have hsl := fun (u : World) (hu : Grow w_ u) => tslot_any P iv u (hin.fits hu)
 have hla := fun (u : World) (hu : Grow w_ u) (hx : (bs.length : Int) <= 140737488355328) => hlay_any P iv (slotS P) bs u (hin.fits hu) hx hl
 have hlc := hlay_code P (slotS P) bs;generalize slotS P = Z at *;generalize layB P Z bs = B at *;generalize hlayN P Z bs = Y at *;obtain ⟨Y1, Y2⟩ := Y;dsimp only at hlc hla;obtain ⟨ia, ic, rfl⟩ := items_form hin.1;unfold PgPost pgV at hla;unfold pgV at hsl;have HEn := keep hen;have HSl := keep hsl;have HLa := keep hla;have HR := keep hr;have HG0 := keep hg0;have HR0 := keep hR0;have HP0 := keep (fun (u : World) (hu : Grow w0 u) => pgres (hP0.fits hu));have HT0 := keep (fun (u : World) (hu : Grow w0 u) => tures (hT0.fits hu));clear hR hr hen hsl hla hg0 hP0 hT0 hR0 hin hl;obtain ⟨p0, p1, p2, p3, p4, p5, _⟩ := HP0.out w0 (Grow.refl _);obtain ⟨t0, t1, t2, t3, t4⟩ := HT0.out w0 (Grow.refl _);unfold pgCells zC at hw0;unfold pgV RdPost;go_enter Tryz.func97, Tryz.ntmps97;go_upto_region 1 with fail;rw [<- hw0];clear hw0
 by_cases hk : P.kind = 2
 ·have e1 : (P.kind != 2) = false := by simp [hk]
  have HK := keep hk;clear hk;cases ok with
  | false =>
   have HRR := keep (show R = (noRd, 110) by rw [HR.out, if_neg (fun h => h HK.out), if_pos rfl]);rw [hed] at HEn;clear hel hed hlc;go_wp2_with fail;refine (HEn.out w0).mono ?_;rintro x w1 ⟨rfl, hb1⟩;have HG1 := keep hb1;clear p0 p1 p2 p3 p4 p5 t0 t1 t2 t3 t4 hb1 HEn;simp only [Bool.false_eq_true, if_false];have HRx := keep (HR0.out.fits HG1.out);unfold zC at HRx;go_wp2_with ((refine wpList_store_rec rfl _ _ rfl (w_.heap.size + 2) _ rfl rfl HRx.out rfl rfl rfl ?_); intro wz hset hbz; have Hset := keep hset; have Hbut := keep hbz; clear hset hbz);refine bodyPost_ret (v := .tuple #[rdV noRd (.slice none 0 0), .int .i64 110]) ?_ rfl ⟨by rw [HRR.out], But.below (Grow.trans HG0.out HG1.out) Hbut.out (by omega) (Grow.trans HG0.out HG1.out).size⟩;exact hinsert_res _ _ _ _ noRd _ rfl rfl Hset.out
  | true =>
   rw [hed, if_pos rfl] at HEn hel;have HLa2 := keep (fun (u : World) (hu : Grow w_ u) => HLa.out u hu (by dsimp only at hel; omega));have hbc : (Y2 = 0 /\ B = true) \/ (Y2 ≠ 0 /\ B = false) := by
    by_cases h : Y2 = 0
    ·exact .inl ⟨h, hlc.1 h⟩
    ·refine .inr ⟨h, ?_⟩;cases B with
     | false => rfl
     | true => exact absurd (hlc.2 rfl) h
   clear hel hed hlc HLa;go_wp2_with fail;refine (HEn.out w0).mono ?_;rintro x w1 ⟨rfl, hb1⟩;have HG1 := keep hb1;clear p0 p1 p2 p3 p4 p5 t0 t1 t2 t3 t4 hb1 HEn;obtain ⟨p0, p1, p2, p3, p4, p5, _⟩ := HP0.out w1 HG1.out;dsimp only;go_wp2_with fail;refine (HSl.out w1 (Grow.trans HG0.out HG1.out)).mono ?_;rintro x w2 ⟨rfl, hb2⟩;have HG2 := keep (Grow.trans HG1.out hb2);clear p0 p1 p2 p3 p4 p5 hb2 HSl;obtain ⟨p0, p1, p2, p3, p4, p5, _⟩ := HP0.out w2 HG2.out;go_wp2_with fail;refine (HLa2.out w2 (Grow.trans HG0.out HG2.out)).mono ?_;rintro x w3 ⟨jv, rfl, hj, hb3⟩;obtain ⟨ja, jc, rfl⟩ := itemsS_form hj.1;have HG3 := keep (Grow.trans HG2.out hb3);clear p0 p1 p2 p3 p4 p5 hb3 hj HLa2;go_upto_region 8 with fail;obtain ⟨w4, hw4⟩ : ∃ w4, w4 = w3.alloc (.cells #[.int .i64 Y1.lsn, .int .i64 Y1.kind, .int .i64 Y1.level, .int .i64 Y1.right, .string (str Y1.high), .slice ja Y1.items.length jc] 28) := ⟨_, rfl⟩;rw [<- hw4];have HG4 := keep (show Grow w0 w4 by subst hw4; exact Grow.trans HG3.out ((Grow.refl _).alloc _));clear hw4;rcases hbc with ⟨rfl, rfl⟩ | ⟨h2, rfl⟩
   ·have HRR := keep (show R = (⟨1, xmin, n, Z, 0, 0, bs, []⟩, 0) by rw [HR.out, if_neg (fun h => h HK.out), if_neg (by simp), if_neg (by simp)]);obtain ⟨t0, t1, t2, t3, t4⟩ := HT0.out w4 HG4.out;have HRx := keep (HR0.out.fits HG4.out);unfold zC at HRx;go_wp2_with ((refine wpList_store_rec rfl _ _ rfl (w_.heap.size + 2) _ rfl rfl HRx.out rfl rfl rfl ?_); intro wz hset hbz; have Hset := keep hset; have Hbut := keep hbz; clear hset hbz);refine bodyPost_ret (v := .tuple #[rdV ⟨1, xmin, n, Z, 0, 0, bs, []⟩ (.slice none 0 0), .int .i64 0]) ?_ rfl ⟨by rw [HRR.out], But.below (Grow.trans HG0.out HG4.out) Hbut.out (by omega) (Grow.trans HG0.out HG4.out).size⟩;exact hinsert_res _ _ _ _ ⟨1, xmin, n, Z, 0, 0, bs, []⟩ _ rfl rfl Hset.out
   ·have HRR := keep (show R = (noRd, 121) by rw [HR.out, if_neg (fun h => h HK.out), if_neg (by simp), if_pos rfl]);have e2 : (Y2 != 0) = true := by simpa using h2
    clear h2;have HRx := keep (HR0.out.fits HG4.out);unfold zC at HRx;go_wp2_with ((refine wpList_store_rec rfl _ _ rfl (w_.heap.size + 2) _ rfl rfl HRx.out rfl rfl rfl ?_); intro wz hset hbz; have Hset := keep hset; have Hbut := keep hbz; clear hset hbz);refine bodyPost_ret (v := .tuple #[rdV noRd (.slice none 0 0), .int .i64 121]) ?_ rfl ⟨by rw [HRR.out], But.below (Grow.trans HG0.out HG4.out) Hbut.out (by omega) (Grow.trans HG0.out HG4.out).size⟩;exact hinsert_res _ _ _ _ noRd _ rfl rfl Hset.out
 ·have e1 : (P.kind != 2) = true := by simpa using hk
  have HRR := keep (show R = (noRd, 120) by rw [HR.out, if_pos hk]);clear hk hel hed hlc;have HRx := keep (HR0.out.fits (Grow.refl w0));unfold zC at HRx;go_wp2_with ((refine wpList_store_rec rfl _ _ rfl (w_.heap.size + 2) _ rfl rfl HRx.out rfl rfl rfl ?_); intro wz hset hbz; have Hset := keep hset; have Hbut := keep hbz; clear hset hbz);refine bodyPost_ret (v := .tuple #[rdV noRd (.slice none 0 0), .int .i64 120]) ?_ rfl ⟨by rw [HRR.out], But.below (Grow.trans HG0.out (Grow.refl w0)) Hbut.out (by omega) (Grow.trans HG0.out (Grow.refl w0)).size⟩;exact hinsert_res _ _ _ _ noRd _ rfl rfl Hset.out
theorem hmark_res (tm : Array Value) (w : World) (b : Nat) (g : Int) (R : Rcd) (iv : Value) (h8 : tm.getD 8 undef = .pointer (some ⟨b, 0, none⟩)) (h9 : tm.getD 9 undef = .int .i64 g) (hB : Blk w b 71 (rdC R iv)) :
  (results Tryz.f236 tm).run Tryz.prog w = .ok (.tuple #[rdV R iv, .int .i64 g]) w := by
 unfold rdC at hB;obtain ⟨⟨s0_, s1_, s2_, s3_, s4_, s5_, s6_, s7_, s8_, s9_, s10_, s11_, s12_, s13_, s14_, s15_⟩, _⟩ := recres hB;simp only [Array.getD_eq_getD_getElem?] at h8 h9;simp [results, Tryz.results236, go_sem, h8, h9, s0_, s1_, s2_, s3_, s4_, s5_, s6_, s7_, s8_, s9_, s10_, s11_, s12_, s13_, s14_, s15_, rdV]
theorem prr_new (P : Pg) (jv : Value) (w_ w0 : World) (h : w0 = (w_.alloc (.cells (pgCells P jv).toArray 28)).alloc (.cells zC.toArray 71)) :
  Grow w_ w0 /\ Blk w0 w_.heap.size 28 (pgCells P jv) /\ Blk w0 (w_.heap.size + 1) 71 zC := by
 refine ⟨?_, ?_, ?_⟩
 ·subst h; exact ((Grow.refl w_).alloc _).alloc _
 ·subst h; exact (Blk.new w_ _ _).alloc _
 ·have := Blk.new (w_.alloc (.cells (pgCells P jv).toArray 28)) 71 zC;have e9 : (w_.alloc (.cells (pgCells P jv).toArray 28)).heap.size = w_.heap.size + 1 := by simp
  rw [e9] at this;subst h; exact this
set_option maxRecDepth 100000 in
set_option maxHeartbeats 8000000 in
theorem hmark_any (P : Pg) (iv : Value) (n slot own : Int) (w_ : World) (hin : PgIn w_ iv P) (hl : P.items.length <= 8796093021980) :
  Calls Tryz.prog 236 #[pgV P iv, .int .i64 n, .int .i64 slot, .int .i64 own] w_ (RdPost (markH P n slot own).1 (markH P n slot own).2 w_) := by
 obtain ⟨w0, hw0⟩ : ∃ w0, w0 = (w_.alloc (.cells (pgCells P iv).toArray 28)).alloc (.cells zC.toArray 71) := ⟨_, rfl⟩;obtain ⟨hg0, hP0, hR0⟩ := prr_new P iv w_ w0 hw0;obtain ⟨R, hR⟩ : ∃ R, markH P n slot own = R := ⟨_, rfl⟩;have hr : R = if (atS P slot).2 = false then (noRd, 120) else if own < 1 \/ own = (atS P slot).1.xmax then (noRd, 1) else if tupOk (atS P slot).1.xmin own (str (atS P slot).1.key) (str (atS P slot).1.val) = false then (noRd, 1)
   else if layB P slot (tupS (atS P slot).1.xmin own.toNat (atS P slot).1.frozen (atS P slot).1.key (atS P slot).1.val) = false then (noRd, 121) else (⟨2, own, n, slot, (atS P slot).1.xmax, own, [], []⟩, 0) := by rw [<- hR]; rfl
 rw [hR];have hat := at_any P iv slot w0 (hin.fits hg0);generalize atS P slot = X at *;obtain ⟨T, ok⟩ := X;dsimp only at hr hat;have hen := fun (u : World) => tencode_any T.xmin own T.frozen T.key T.val u
 have hel := encTI_len T.xmin own T.frozen T.key T.val;have hed : encTI T.xmin own T.frozen T.key T.val = if tupOk T.xmin own (str T.key) (str T.val) then (tupS T.xmin own.toNat T.frozen T.key T.val, 0) else ([], 110) := by unfold encTI; rw [Int.toNat_natCast]
 generalize tupOk T.xmin own (str T.key) (str T.val) = eo at *;generalize tupS T.xmin own.toNat T.frozen T.key T.val = bs at *;have hla := fun (u : World) (hu : Grow w_ u) (hx : (bs.length : Int) <= 140737488355328) => hlay_any P iv slot bs u (hin.fits hu) hx hl
 have hlc := hlay_code P slot bs;generalize layB P slot bs = B at *;generalize hlayN P slot bs = Y at *;obtain ⟨Y1, Y2⟩ := Y;dsimp only at hlc hla;obtain ⟨ia, ic, rfl⟩ := items_form hin.1;unfold PgPost pgV at hla;unfold pgV tupV at hat;have HAt := keep hat;have HEn := keep hen;have HLa := keep hla;have HR := keep hr;have HG0 := keep hg0;have HR0 := keep hR0;have HP0 := keep (fun (u : World) (hu : Grow w0 u) => pgres (hP0.fits hu));clear hR hr hen hla hg0 hP0 hR0 hin hl hat;obtain ⟨p0, p1, p2, p3, p4, p5, _⟩ := HP0.out w0 (Grow.refl _);unfold pgCells zC at hw0;unfold pgV RdPost;go_enter Tryz.func236, Tryz.ntmps236;go_upto_region 1 with fail;rw [<- hw0];clear hw0;go_wp2_with fail;refine HAt.out.mono ?_;rintro x w1 ⟨rfl, hb1⟩;have HG1 := keep (show Grow w0 w1 from hb1);clear p0 p1 p2 p3 p4 p5 hb1 HAt;go_upto_region 2 with fail;obtain ⟨w2, hw2⟩ : ∃ w2, w2 = w1.alloc (.cells #[.int .i64 T.xmin, .int .i64 T.xmax, .bool T.frozen, .string (str T.key), .string (str T.val)] 44) := ⟨_, rfl⟩;rw [<- hw2];obtain ⟨hB2, hg2⟩ := tu_new w1 w2 [.int .i64 T.xmin, .int .i64 T.xmax, .bool T.frozen, .string (str T.key), .string (str T.val)] hw2;have HG2 := keep (Grow.trans HG1.out hg2);have HB2 := keep hB2;have hbt : w0.heap.size <= w1.heap.size := HG1.out.size;have hbl := hB2.lt;obtain ⟨t0, t1, t2, t3, t4⟩ := tures hB2;generalize w1.heap.size = bt at *;clear hw2 hB2 hg2;cases ok with
 | false =>
  have HRR := keep (show R = (noRd, 120) by rw [HR.out, if_pos rfl]);clear hel hed hlc t0 t1 t2 t3 t4;have HRx := keep (HR0.out.fits HG2.out);unfold zC at HRx;go_wp2_with ((refine wpList_store_rec rfl _ _ rfl (w_.heap.size + 1) _ rfl rfl HRx.out rfl rfl rfl ?_); intro wz hset hbz; have Hset := keep hset; have Hbut := keep hbz; clear hset hbz);refine bodyPost_ret (v := .tuple #[rdV noRd (.slice none 0 0), .int .i64 120]) ?_ rfl ⟨by rw [HRR.out], But.below (Grow.trans HG0.out HG2.out) Hbut.out (by omega) (Grow.trans HG0.out HG2.out).size⟩;exact hmark_res _ _ _ _ noRd _ rfl rfl Hset.out
 | true =>
  by_cases hc : own < 1 \/ own = T.xmax
  ·have HRR := keep (show R = (noRd, 1) by rw [HR.out, if_neg (by simp), if_pos hc]);have hcc : decide (own < 1) = true \/ (decide (own < 1) = false /\ (own == (T.xmax : Int)) = true) := by
    by_cases h : own < 1
    ·exact .inl (decide_eq_true h)
    ·exact .inr ⟨decide_eq_false h, by simpa using hc.resolve_left h⟩
   clear hc hel hed hlc;rcases hcc with e1 | ⟨e1, e2⟩
   ·clear t0 t2 t3 t4;have HRx := keep (HR0.out.fits HG2.out);unfold zC at HRx;go_wp2_with ((refine wpList_store_rec rfl _ _ rfl (w_.heap.size + 1) _ rfl rfl HRx.out rfl rfl rfl ?_); intro wz hset hbz; have Hset := keep hset; have Hbut := keep hbz; clear hset hbz);refine bodyPost_ret (v := .tuple #[rdV noRd (.slice none 0 0), .int .i64 1]) ?_ rfl ⟨by rw [HRR.out], But.below (Grow.trans HG0.out HG2.out) Hbut.out (by omega) (Grow.trans HG0.out HG2.out).size⟩;exact hmark_res _ _ _ _ noRd _ rfl rfl Hset.out
   ·clear t0 t2 t3 t4;have HRx := keep (HR0.out.fits HG2.out);unfold zC at HRx;go_wp2_with ((refine wpList_store_rec rfl _ _ rfl (w_.heap.size + 1) _ rfl rfl HRx.out rfl rfl rfl ?_); intro wz hset hbz; have Hset := keep hset; have Hbut := keep hbz; clear hset hbz);refine bodyPost_ret (v := .tuple #[rdV noRd (.slice none 0 0), .int .i64 1]) ?_ rfl ⟨by rw [HRR.out], But.below (Grow.trans HG0.out HG2.out) Hbut.out (by omega) (Grow.trans HG0.out HG2.out).size⟩;exact hmark_res _ _ _ _ noRd _ rfl rfl Hset.out
  ·have hc1 : ¬ own < 1 := fun h => hc (.inl h)
   have e1 : decide (own < 1) = false := decide_eq_false hc1;have e2 : (own == (T.xmax : Int)) = false := by simpa using fun h => hc (.inr h)
   have HC := keep hc;clear hc hc1;go_upto_region 7 with fail;obtain ⟨w3, hw3⟩ : ∃ w3, w3 = w2.alloc (.cells (rdC ⟨2, own, n, slot, T.xmax, own, [], []⟩ (.slice none 0 0)).toArray 71) := ⟨_, rfl⟩;have hg3 : Grow w2 w3 := by subst hw3; exact (Grow.refl _).alloc _
   have hRr3 : Blk w3 w2.heap.size 71 (rdC ⟨2, own, n, slot, T.xmax, own, [], []⟩ (.slice none 0 0)) := by subst hw3; exact Blk.new _ _ _
   unfold rdC at hw3;rw [show str [] = ⟨#[]⟩ from rfl] at hw3;rw [<- hw3];have hB3 := HB2.out.fits hg3;have hne : bt ≠ w2.heap.size := by omega
   have HB3 := keep hB3;have HRr3 := keep hRr3;have HG3 := keep (Grow.trans HG2.out hg3);clear t0 t1 t2 t3 t4;obtain ⟨t0, t1, t2, t3, t4⟩ := tures hB3;have z1 := hB3.free 1;generalize w2.heap.size = br at *;clear hw3 hg3 hRr3 hB3;go_upto_region 8 with fail;obtain ⟨w4, hw4⟩ : ∃ w4, w4 = w3.setCell ⟨bt, 1, none⟩ (.int .i64 own) := ⟨_, rfl⟩;rw [<- hw4];have hk4 := (But.refl bt w3).setCell 1 (.int .i64 own);have hB4 := HB3.out.set 1 (.int .i64 own);rw [<- hw4] at hk4 hB4;have HRr4 := keep (HRr3.out.but hk4 (fun h => hne h.symm));have HG4 := keep (show Grow w0 w4 from But.below HG3.out hk4 hbt HG3.out.size);simp only [List.set_cons_succ, List.set_cons_zero] at hB4;clear t0 t1 t2 t3 t4 z1;obtain ⟨t0, t1, t2, t3, t4⟩ := tures hB4;clear hw4 hk4 hB4 hne;cases eo with
   | false =>
    rw [hed] at HEn;have HRR := keep (show R = (noRd, 1) by rw [HR.out, if_neg (by simp), if_neg HC.out, if_pos rfl]);clear hel hed hlc;go_wp2_with fail;refine (HEn.out w4).mono ?_;rintro x w5 ⟨rfl, hb5⟩;have HG5 := keep (Grow.trans HG4.out hb5);clear t0 t1 t2 t3 t4 hb5 HEn;simp only [Bool.false_eq_true, if_false];have HRx := keep (HR0.out.fits HG5.out);unfold zC at HRx;go_wp2_with ((refine wpList_store_rec rfl _ _ rfl (w_.heap.size + 1) _ rfl rfl HRx.out rfl rfl rfl ?_); intro wz hset hbz; have Hset := keep hset; have Hbut := keep hbz; clear hset hbz);refine bodyPost_ret (v := .tuple #[rdV noRd (.slice none 0 0), .int .i64 1]) ?_ rfl ⟨by rw [HRR.out], But.below (Grow.trans HG0.out HG5.out) Hbut.out (by omega) (Grow.trans HG0.out HG5.out).size⟩;exact hmark_res _ _ _ _ noRd _ rfl rfl Hset.out
   | true =>
    rw [hed, if_pos rfl] at HEn hel;have HLa2 := keep (fun (u : World) (hu : Grow w_ u) => HLa.out u hu (by dsimp only at hel; omega));have hbc : (Y2 = 0 /\ B = true) \/ (Y2 ≠ 0 /\ B = false) := by
     by_cases h : Y2 = 0
     ·exact .inl ⟨h, hlc.1 h⟩
     ·refine .inr ⟨h, ?_⟩;cases B with
      | false => rfl
      | true => exact absurd (hlc.2 rfl) h
    clear hel hed hlc HLa;go_wp2_with fail;refine (HEn.out w4).mono ?_;rintro x w5 ⟨rfl, hb5⟩;have HG5 := keep (Grow.trans HG4.out hb5);have HRr5 := keep (HRr4.out.fits hb5);clear t0 t1 t2 t3 t4 hb5 HEn;obtain ⟨p0, p1, p2, p3, p4, p5, _⟩ := HP0.out w5 HG5.out;dsimp only;go_wp2_with fail;refine (HLa2.out w5 (Grow.trans HG0.out HG5.out)).mono ?_;rintro x w6 ⟨jv, rfl, hj, hb6⟩;obtain ⟨ja, jc, rfl⟩ := itemsS_form hj.1;have HG6 := keep (Grow.trans HG5.out hb6);have HRr6 := keep (HRr5.out.fits hb6);clear p0 p1 p2 p3 p4 p5 hb6 hj HLa2;go_upto_region 12 with fail;obtain ⟨w7, hw7⟩ : ∃ w7, w7 = w6.alloc (.cells #[.int .i64 Y1.lsn, .int .i64 Y1.kind, .int .i64 Y1.level, .int .i64 Y1.right, .string (str Y1.high), .slice ja Y1.items.length jc] 28) := ⟨_, rfl⟩;rw [<- hw7];have HG7 := keep (show Grow w0 w7 by subst hw7; exact Grow.trans HG6.out ((Grow.refl _).alloc _));have HRr7 := keep (show Blk w7 br 71 (rdC ⟨2, own, n, slot, T.xmax, own, [], []⟩ (.slice none 0 0)) by subst hw7; exact HRr6.out.alloc _);clear hw7;rcases hbc with ⟨rfl, rfl⟩ | ⟨h2, rfl⟩
    ·have HRR := keep (show R = (⟨2, own, n, slot, T.xmax, own, [], []⟩, 0) by rw [HR.out, if_neg (by simp), if_neg HC.out, if_neg (by simp), if_neg (by simp)]);have HRx := keep (HR0.out.fits HG7.out);unfold zC at HRx;go_wp2_with (first | (refine wpList_load_rd rfl _ rfl br rfl HRr7.out rfl ?_) | (refine wpList_store_rec rfl _ _ rfl (w_.heap.size + 1) _ rfl rfl HRx.out rfl rfl rfl ?_; intro wz hset hbz; have Hset := keep hset; have Hbut := keep hbz; clear hset hbz))
     refine bodyPost_ret (v := .tuple #[rdV ⟨2, own, n, slot, T.xmax, own, [], []⟩ (.slice none 0 0), .int .i64 0]) ?_ rfl ⟨by rw [HRR.out], But.below (Grow.trans HG0.out HG7.out) Hbut.out (by omega) (Grow.trans HG0.out HG7.out).size⟩;exact hmark_res _ _ _ _ ⟨2, own, n, slot, T.xmax, own, [], []⟩ _ rfl rfl Hset.out
    ·have HRR := keep (show R = (noRd, 121) by rw [HR.out, if_neg (by simp), if_neg HC.out, if_neg (by simp), if_pos rfl]);have e3 : (Y2 != 0) = true := by simpa using h2
     clear h2;have HRx := keep (HR0.out.fits HG7.out);unfold zC at HRx;go_wp2_with ((refine wpList_store_rec rfl _ _ rfl (w_.heap.size + 1) _ rfl rfl HRx.out rfl rfl rfl ?_); intro wz hset hbz; have Hset := keep hset; have Hbut := keep hbz; clear hset hbz);refine bodyPost_ret (v := .tuple #[rdV noRd (.slice none 0 0), .int .i64 121]) ?_ rfl ⟨by rw [HRR.out], But.below (Grow.trans HG0.out HG7.out) Hbut.out (by omega) (Grow.trans HG0.out HG7.out).size⟩;exact hmark_res _ _ _ _ noRd _ rfl rfl Hset.out
attribute [local go_sem] hgs
theorem finish_res (tm : Array Value) (w : World) (b : Nat) (g : Bool) (R : Rcd) (iv : Value) (h8 : tm.getD 8 undef = .pointer (some ⟨b, 0, none⟩)) (h9 : tm.getD 9 undef = .bool g) (hB : Blk w b 71 (rdC R iv)) :
  (results Tryz.f223 tm).run Tryz.prog w = .ok (.tuple #[rdV R iv, .bool g]) w := by
 unfold rdC at hB;obtain ⟨⟨s0_, s1_, s2_, s3_, s4_, s5_, s6_, s7_, s8_, s9_, s10_, s11_, s12_, s13_, s14_, s15_⟩, _⟩ := recres hB;simp only [Array.getD_eq_getD_getElem?] at h8 h9;simp [results, Tryz.results223, go_sem, h8, h9, s0_, s1_, s2_, s3_, s4_, s5_, s6_, s7_, s8_, s9_, s10_, s11_, s12_, s13_, s14_, s15_, rdV]
def lk20 (j : Nat) : Nat := if j = 20 then 19 else j
theorem st_rec {bs pb b : Nat} {S : Pl} {R : Rcd} {w w3 w4 : World} {cs : List Value} (hT : PlT bs pb w3 S) (hS : Sel bs pb w w3) (k : But b w3 w4) (hb : w.heap.size <= b) (hB : Blk w3 b 71 cs) (hl : bs <= w.heap.size) (hR : R.imgs = []) :
  StPost bs pb S R true w (.returned (.tuple #[rdV R (.slice none 0 0), .bool true])) w4 :=
 ⟨_, [], rfl, hR.symm, ImgsC.nil _, fun _ => rfl, hT.other k hB (by decide) (by decide) (by decide), hS.other k hb hl⟩
theorem mark_imgs (P : Pg) (n slot own : Int) : (markH P n slot own).1.imgs = [] := by
 unfold markH
 split
 ·rfl
 ·split
  ·rfl
  ·split
   ·rfl
   ·split <;> rfl
set_option maxRecDepth 100000 in
set_option maxHeartbeats 8000000 in
theorem finish_any (bs pb : Nat) (S : Pl) (v : Vw) (av rv iv : Value) (P : Pg) (jv fv : Value) (w_ : World) (h : PlT bs pb w_ S) (hv : VwIn w_ v av rv iv) (hin : PgIn w_ jv P) (hil : P.items.length <= 8796093021980) :
  Calls Tryz.prog 223 #[.pointer (some ⟨pb, 0, none⟩), vwV v av rv iv, pgV P jv, fv] w_ (StPost bs pb (S.finish P).1 (S.finish P).2.1 (S.finish P).2.2 w_) := by
 obtain ⟨w0, hw0⟩ : ∃ w0, w0 = ((w_.alloc (.cells (vwCells v av rv iv).toArray 40)).alloc (.cells (pgCells P jv).toArray 28)).alloc (.cells zC.toArray 71) := ⟨_, rfl⟩;obtain ⟨hg0, hV0, hP0, hR0⟩ := vpr_new v av rv iv P jv w_ w0 hw0;obtain ⟨iva, ivc, rfl⟩ := items_form hv.items;obtain ⟨rva, rvc, rfl, _⟩ := ints_form hv.run;obtain ⟨ava, avc, rfl, _⟩ := ints_form hv.act;obtain ⟨jva, jvc, rfl⟩ := items_form hin.1;have HT := keep h;have HG0 := keep hg0;have HV0 := keep hV0;have HP0 := keep hP0;have HR0 := keep hR0;have HIn := keep hin;have HVw := keep hv;obtain ⟨R, hR⟩ : ∃ R, S.finish P = R := ⟨_, rfl⟩;have hr : R = if (markH P S.wpg S.one.2.2 S.own).2 ≠ 0 then (S.fin (markH P S.wpg S.one.2.2 S.own).2 false [] [], noRd, false) else (S.write, (markH P S.wpg S.one.2.2 S.own).1, true) := by rw [<- hR]; rfl
 rw [hR];have hmk := fun (u : World) (hu : Grow w0 u) => hmark_any P (.slice jva P.items.length jvc) S.wpg S.one.2.2 S.own u ((hin.fits hg0).fits hu) hil
 have him := mark_imgs P S.wpg S.one.2.2 S.own;generalize markH P S.wpg S.one.2.2 S.own = Y at *;obtain ⟨R1, R2⟩ := Y;obtain ⟨Q1, Q2, Q3⟩ := R;dsimp only at hr hmk him;unfold RdPost rdV pgV at hmk;have HMk := keep hmk;have HRR := keep hr;have HIm := keep him;obtain ⟨rv0, ov0, lv0, hB, -⟩ := (h.fits hg0).tab;have HPx := keep (fun (u : World) (hu : Grow w0 u) => pgres (hP0.fits hu))
 have HCx := keep (fun (u : World) (hu : Grow w0 u) => (show u.cell? ⟨pb, 9, none⟩ = some (.int .i64 S.wpg) /\ u.cell? ⟨pb, 22, none⟩ = some (.int .i64 S.one.2.2) /\ u.cell? ⟨pb, 5, none⟩ = some (.int .i64 S.own) from
  ⟨(hB.fits hu).cell 9 (by simp [plCells]), (hB.fits hu).cell 22 (by simp [plCells]), (hB.fits hu).cell 5 (by simp [plCells])⟩))
 clear hR hr hmk him h hg0 hV0 hP0 hR0 hB hv hin hil;unfold vwCells pgCells zC at hw0;unfold vwV pgV;go_enter Tryz.func223, Tryz.ntmps223;go_upto_region 1 with fail;rw [<- hw0];clear hw0;refine wp_region_link_named (by kernel_rfl) 21 lk20 (Fill w0.heap.size 71 (IsC [.int .i64 0, .int .i64 0, .int .i64 0, .int .u8 R1.kind, .int .i64 R1.xid, .int .i64 R1.page, .int .i64 R1.slot, .int .i64 R1.old, .int .i64 R1.new, .int .i64 0, .string (str R1.data), .slice none 0 0, .slice none 0 0, .slice none 0 0, .slice none 0 0, .slice none 0 0])) (Fill.refl _) (fun _ _ _ => Fill.trans (isC_lasts _ _)) (by kernel_rfl) (by kernel_rfl) [(13, 0), (14, 1), (15, 2), (16, 3), (17, 4), (18, 5), (19, 6), (20, 7), (21, 8), (22, 9), (23, 10), (24, 11), (25, 12), (26, 13), (27, 14), (28, 15), (12, 16), (29, 17), (30, 18), (10, 19)] (by kernel_rfl) [(0, true), (1, true), (2, true), (3, true), (4, true), (5, true), (6, true), (7, true), (8, true), (9, true), (10, true), (11, true), (12, true), (13, true), (14, true), (15, true), (16, true), (17, true), (18, true), (19, true), (20, true)] (by kernel_rfl) rfl rfl ?_;intro a0 ha0;have hsz : a0.tmps.size = 41 := (size_at ha0).trans rfl;have s0 := slot_at ha0 0 rfl;have s6 := slot_at ha0 6 rfl;have HA0 := keep ha0;clear ha0
 apply lexkf_eq hsz [] [(14, 1), (15, 2), (16, 3), (17, 4), (18, 5), (19, 6), (20, 7), (21, 8), (22, 9), (23, 10), (24, 11), (25, 12), (26, 13), (27, 14), (12, 16), (29, 17), (30, 18), (10, 19)] none (by kernel_rfl) (by kernel_rfl) (by kernel_rfl) (by kernel_rfl) rfl rfl
 ·intro xs w hw hp K hK;obtain ⟨p0, p1, p2, p3, p4, p5, _⟩ := HPx.out w (Grow.undrew hw.below);go_simp;exact hK _ (Fill.refl _)
 apply lexkf_eq hsz [] [(13, 0), (16, 3), (17, 4), (18, 5), (19, 6), (20, 7), (21, 8), (22, 9), (23, 10), (24, 11), (25, 12), (26, 13), (27, 14), (28, 15), (12, 16), (29, 17), (30, 18), (10, 19)] none (by kernel_rfl) (by kernel_rfl) (by kernel_rfl) (by kernel_rfl) rfl rfl
 ·intro xs w hw hp K hK;go_simp;exact hK _ (Fill.refl _)
 apply lexkf_eq hsz [(1, true)] [(13, 0), (14, 1), (17, 4), (18, 5), (19, 6), (20, 7), (21, 8), (22, 9), (23, 10), (24, 11), (25, 12), (26, 13), (27, 14), (28, 15), (12, 16), (29, 17), (30, 18), (10, 19)] none (by kernel_rfl) (by kernel_rfl) (by kernel_rfl) (by kernel_rfl) rfl rfl
 ·intro xs w hw hp K hK;simp only [hzk, lk20, reduceIte, Nat.reduceEqDiff] at hp;go_simp;exact hK _ (Fill.refl _)
 apply lexkf_eq hsz [(2, true)] [(13, 0), (14, 1), (15, 2), (18, 5), (19, 6), (20, 7), (21, 8), (22, 9), (23, 10), (24, 11), (25, 12), (26, 13), (27, 14), (28, 15), (12, 16), (29, 17), (30, 18), (10, 19)] none (by kernel_rfl) (by kernel_rfl) (by kernel_rfl) (by kernel_rfl) rfl rfl
 ·intro xs w hw hp K hK;simp only [hzk, lk20, reduceIte, Nat.reduceEqDiff] at hp;go_simp;exact hK _ (Fill.refl _)
 apply lexkf_eq hsz [(3, true)] [(13, 0), (14, 1), (15, 2), (16, 3), (19, 6), (20, 7), (21, 8), (22, 9), (23, 10), (24, 11), (25, 12), (26, 13), (27, 14), (28, 15), (12, 16), (29, 17), (30, 18), (10, 19)] none (by kernel_rfl) (by kernel_rfl) (by kernel_rfl) (by kernel_rfl) rfl rfl
 ·intro xs w hw hp K hK;simp only [hzk, lk20, reduceIte, Nat.reduceEqDiff] at hp;go_simp;exact hK _ (Fill.refl _)
 apply lexkf_eq hsz [(4, true)] [(13, 0), (14, 1), (15, 2), (16, 3), (17, 4), (19, 6), (20, 7), (21, 8), (22, 9), (23, 10), (24, 11), (25, 12), (26, 13), (27, 14), (12, 16), (29, 17), (30, 18), (10, 19)] none (by kernel_rfl) (by kernel_rfl) (by kernel_rfl) (by kernel_rfl) rfl rfl
 ·intro xs w hw hp K hK;simp only [hzk, lk20, reduceIte, Nat.reduceEqDiff] at hp;obtain ⟨c9, c22, c5⟩ := HCx.out w (Grow.undrew hw.below);go_simp;exact hK _ (Fill.refl _)
 apply lexkf_eq hsz [] [(13, 0), (14, 1), (15, 2), (16, 3), (17, 4), (18, 5), (21, 8), (22, 9), (23, 10), (24, 11), (25, 12), (26, 13), (27, 14), (28, 15), (12, 16), (29, 17), (30, 18), (10, 19)] none (by kernel_rfl) (by kernel_rfl) (by kernel_rfl) (by kernel_rfl) rfl rfl
 ·intro xs w hw hp K hK;go_simp;exact hK _ (Fill.refl _)
 apply lexkf_eq hsz [(6, true)] [(13, 0), (14, 1), (15, 2), (16, 3), (17, 4), (18, 5), (19, 6), (22, 9), (23, 10), (24, 11), (25, 12), (26, 13), (27, 14), (28, 15), (12, 16), (29, 17), (30, 18), (10, 19)] none (by kernel_rfl) (by kernel_rfl) (by kernel_rfl) (by kernel_rfl) rfl rfl
 ·intro xs w hw hp K hK;simp only [hzk, lk20, reduceIte, Nat.reduceEqDiff] at hp;go_simp;exact hK _ (Fill.refl _)
 apply lexkf_eq hsz [(7, true)] [(13, 0), (14, 1), (15, 2), (16, 3), (17, 4), (18, 5), (19, 6), (20, 7), (23, 10), (24, 11), (25, 12), (26, 13), (27, 14), (28, 15), (12, 16), (29, 17), (30, 18), (10, 19)] none (by kernel_rfl) (by kernel_rfl) (by kernel_rfl) (by kernel_rfl) rfl rfl
 ·intro xs w hw hp K hK;simp only [hzk, lk20, reduceIte, Nat.reduceEqDiff] at hp;go_simp;exact hK _ (Fill.refl _)
 apply lexkf_eq hsz [(8, true)] [(13, 0), (14, 1), (15, 2), (16, 3), (17, 4), (18, 5), (19, 6), (20, 7), (21, 8), (24, 11), (25, 12), (26, 13), (27, 14), (28, 15), (12, 16), (29, 17), (30, 18), (10, 19)] none (by kernel_rfl) (by kernel_rfl) (by kernel_rfl) (by kernel_rfl) rfl rfl
 ·intro xs w hw hp K hK;simp only [hzk, lk20, reduceIte, Nat.reduceEqDiff] at hp;go_simp;exact hK _ (Fill.refl _)
 apply lexkf_eq hsz [(9, true)] [(13, 0), (14, 1), (15, 2), (16, 3), (17, 4), (18, 5), (19, 6), (20, 7), (21, 8), (22, 9), (24, 11), (25, 12), (26, 13), (27, 14), (12, 16), (29, 17), (30, 18), (10, 19)] none (by kernel_rfl) (by kernel_rfl) (by kernel_rfl) (by kernel_rfl) rfl rfl
 ·intro xs w hw hp K hK;simp only [hzk, lk20, reduceIte, Nat.reduceEqDiff] at hp;obtain ⟨c9, c22, c5⟩ := HCx.out w (Grow.undrew hw.below);go_simp;exact hK _ (Fill.refl _)
 apply lexkf_eq hsz [] [(13, 0), (14, 1), (15, 2), (16, 3), (17, 4), (18, 5), (19, 6), (20, 7), (21, 8), (22, 9), (23, 10), (26, 13), (27, 14), (28, 15), (12, 16), (29, 17), (30, 18), (10, 19)] none (by kernel_rfl) (by kernel_rfl) (by kernel_rfl) (by kernel_rfl) rfl rfl
 ·intro xs w hw hp K hK;go_simp;exact hK _ (Fill.refl _)
 apply lexkf_eq hsz [(11, true)] [(13, 0), (14, 1), (15, 2), (16, 3), (17, 4), (18, 5), (19, 6), (20, 7), (21, 8), (22, 9), (23, 10), (24, 11), (27, 14), (28, 15), (12, 16), (29, 17), (30, 18), (10, 19)] none (by kernel_rfl) (by kernel_rfl) (by kernel_rfl) (by kernel_rfl) rfl rfl
 ·intro xs w hw hp K hK;simp only [hzk, lk20, reduceIte, Nat.reduceEqDiff] at hp;go_simp;exact hK _ (Fill.refl _)
 apply lexkf_eq hsz [(12, true)] [(13, 0), (14, 1), (15, 2), (16, 3), (17, 4), (18, 5), (19, 6), (20, 7), (21, 8), (22, 9), (23, 10), (24, 11), (25, 12), (28, 15), (12, 16), (29, 17), (30, 18), (10, 19)] none (by kernel_rfl) (by kernel_rfl) (by kernel_rfl) (by kernel_rfl) rfl rfl
 ·intro xs w hw hp K hK;simp only [hzk, lk20, reduceIte, Nat.reduceEqDiff] at hp;go_simp;exact hK _ (Fill.refl _)
 apply lexkf_eq hsz [(13, true)] [(13, 0), (14, 1), (15, 2), (16, 3), (17, 4), (18, 5), (19, 6), (20, 7), (21, 8), (22, 9), (23, 10), (24, 11), (25, 12), (26, 13), (12, 16), (29, 17), (30, 18), (10, 19)] none (by kernel_rfl) (by kernel_rfl) (by kernel_rfl) (by kernel_rfl) rfl rfl
 ·intro xs w hw hp K hK;simp only [hzk, lk20, reduceIte, Nat.reduceEqDiff] at hp;obtain ⟨c9, c22, c5⟩ := HCx.out w (Grow.undrew hw.below);go_simp;exact hK _ (Fill.refl _)
 apply lexkf_eq hsz [(0, true), (5, true), (10, true), (14, true)] [(13, 0), (14, 1), (15, 2), (16, 3), (17, 4), (18, 5), (19, 6), (20, 7), (21, 8), (22, 9), (23, 10), (24, 11), (25, 12), (26, 13), (27, 14), (29, 17), (30, 18), (10, 19)] none (by kernel_rfl) (by kernel_rfl) (by kernel_rfl) (by kernel_rfl) rfl rfl
 ·intro xs w hw hp K hK;simp only [hzk, lk20, reduceIte, Nat.reduceEqDiff] at hp;go_simp;exact (HMk.out w (Grow.undrew hw.below)).mono fun e w' h => ⟨_, h.1, hK _ (Fill.of_grow h.2 hw.below.size)⟩
 apply lexkf_eq hsz [(15, true)] [(13, 0), (14, 1), (15, 2), (16, 3), (17, 4), (18, 5), (19, 6), (20, 7), (21, 8), (22, 9), (23, 10), (24, 11), (25, 12), (26, 13), (27, 14), (28, 15), (10, 19)] none (by kernel_rfl) (by kernel_rfl) (by kernel_rfl) (by kernel_rfl) rfl rfl
 ·intro xs w hw hp K hK;simp only [hzk, lk20, reduceIte, Nat.reduceEqDiff] at hp;go_simp;exact hK _ (Fill.refl _)
 apply lexkf_eq hsz [(16, true)] [(13, 0), (14, 1), (15, 2), (16, 3), (17, 4), (18, 5), (19, 6), (20, 7), (21, 8), (22, 9), (23, 10), (24, 11), (25, 12), (26, 13), (27, 14), (28, 15), (12, 16), (30, 18), (10, 19)] none (by kernel_rfl) (by kernel_rfl) (by kernel_rfl) (by kernel_rfl) rfl rfl
 ·intro xs w hw hp K hK;simp only [hzk, lk20, reduceIte, Nat.reduceEqDiff] at hp;go_simp;exact hK _ (Fill.refl _)
 apply lexkf_eq hsz [(16, true)] [(13, 0), (14, 1), (15, 2), (16, 3), (17, 4), (18, 5), (19, 6), (20, 7), (21, 8), (22, 9), (23, 10), (24, 11), (25, 12), (26, 13), (27, 14), (28, 15), (12, 16), (29, 17), (10, 19)] none (by kernel_rfl) (by kernel_rfl) (by kernel_rfl) (by kernel_rfl) rfl rfl
 ·intro xs w hw hp K hK;simp only [hzk, lk20, reduceIte, Nat.reduceEqDiff] at hp;go_simp;exact hK _ (Fill.refl _)
 refine lexkf_says hsz (fun v u => ∃ b, v = .pointer (some ⟨b, 0, none⟩) /\ w0.heap.size <= b /\ ∃ cs : List Value, cs.length = 16 /\ Blk u b 71 cs) (fun _ _ _ g ⟨b, h1, h2, h3⟩ => ⟨b, h1, h2, fill_sixteen g h3⟩) [] [(13, 0), (14, 1), (15, 2), (16, 3), (17, 4), (18, 5), (19, 6), (20, 7), (21, 8), (22, 9), (23, 10), (24, 11), (25, 12), (26, 13), (27, 14), (28, 15), (12, 16), (29, 17), (30, 18)] none (by kernel_rfl) (by kernel_rfl) (by kernel_rfl) (by kernel_rfl) rfl rfl ?_ ?_
 ·intro xs w hw hp K hK;go_simp;exact hK _ _ ⟨_, rfl, hw.below.size, _, rfl, Blk.new w _ [.int .i64 0, .int .i64 0, .int .i64 0, .int .u8 0, .int .i64 0, .int .i64 0, .int .i64 0, .int .i64 0, .int .i64 0, .int .i64 0, .string ⟨#[]⟩, .slice none 0 0, .slice none 0 0, .slice none 0 0, .slice none 0 0, .slice none 0 0]⟩ (Fill.of_grow ((Grow.refl w).alloc _) hw.below.size)
 refine lexkf_link hsz (fun v u => ∃ b, v = .pointer (some ⟨b, 0, none⟩) /\ w0.heap.size <= b /\ Blk u b 71 [.int .i64 0, .int .i64 0, .int .i64 0, .int .u8 R1.kind, .int .i64 R1.xid, .int .i64 R1.page, .int .i64 R1.slot, .int .i64 R1.old, .int .i64 R1.new, .int .i64 0, .string (str R1.data), .slice none 0 0, .slice none 0 0, .slice none 0 0, .slice none 0 0, .slice none 0 0]) (fun _ _ _ hg ⟨b, h1, h2, h3⟩ => ⟨b, h1, h2, isC_stays hg h3⟩) [(17, true), (19, true)] [(13, 0), (14, 1), (15, 2), (16, 3), (17, 4), (18, 5), (19, 6), (20, 7), (21, 8), (22, 9), (23, 10), (24, 11), (25, 12), (26, 13), (27, 14), (28, 15), (12, 16), (29, 17), (30, 18), (10, 19)] none (by kernel_rfl) (by kernel_rfl) (by kernel_rfl) (by kernel_rfl) rfl (by decide) ?_ ?_
 ·intro xs w hw hp K hK;simp only [hzk, lk20, reduceIte, Nat.reduceEqDiff] at hp;obtain ⟨h17, b, h19, hbN, cs, hl, hB⟩ := hp;obtain ⟨a0_, a1_, a2_, a3_, a4_, a5_, a6_, a7_, a8_, a9_, a10_, a11_, a12_, a13_, a14_, a15_, rfl⟩ := len16 hl;obtain ⟨⟨r0_, r1_, r2_, r3_, r4_, r5_, r6_, r7_, r8_, r9_, r10_, r11_, r12_, r13_, r14_, r15_⟩, hz_⟩ := recres hB;have z0_ := hz_ 0;have z1_ := hz_ 1;have z2_ := hz_ 2;have z3_ := hz_ 3;have z4_ := hz_ 4;have z5_ := hz_ 5;have z6_ := hz_ 6;have z7_ := hz_ 7;have z8_ := hz_ 8;have z9_ := hz_ 9;have z10_ := hz_ 10;have z11_ := hz_ 11;have z12_ := hz_ 12;have z13_ := hz_ 13;have z14_ := hz_ 14;have z15_ := hz_ 15;have Hset := keep (recset hB (.int .i64 0) (.int .i64 0) (.int .i64 0) (.int .u8 R1.kind) (.int .i64 R1.xid) (.int .i64 R1.page) (.int .i64 R1.slot) (.int .i64 R1.old) (.int .i64 R1.new) (.int .i64 0) (.string (str R1.data)) (.slice none 0 0) (.slice none 0 0) (.slice none 0 0) (.slice none 0 0) (.slice none 0 0));have Hbut := keep (recbut w b (.int .i64 0) (.int .i64 0) (.int .i64 0) (.int .u8 R1.kind) (.int .i64 R1.xid) (.int .i64 R1.page) (.int .i64 R1.slot) (.int .i64 R1.old) (.int .i64 R1.new) (.int .i64 0) (.string (str R1.data)) (.slice none 0 0) (.slice none 0 0) (.slice none 0 0) (.slice none 0 0) (.slice none 0 0));have HB := keep hB;clear hB hl hz_;go_simp
  exact hK _ _ ⟨b, h19, hbN, Hset.out⟩ (Fill.but (cs' := [.int .i64 0, .int .i64 0, .int .i64 0, .int .u8 R1.kind, .int .i64 R1.xid, .int .i64 R1.page, .int .i64 R1.slot, .int .i64 R1.old, .int .i64 R1.new, .int .i64 0, .string (str R1.data), .slice none 0 0, .slice none 0 0, .slice none 0 0, .slice none 0 0, .slice none 0 0]) Hbut.out hbN hw.below.size HB.out rfl Hset.out rfl)
 intro xs w hw hp;have ha0 := HA0.out;clear HA0 hsz s0 s6;simp only [hzk, lk20, reduceIte, Nat.reduceEqDiff] at hp;have hM := hp.2.2.2.2.2.2.2.2.2.2.2.2.2.2.2.2.2.2.1;obtain ⟨b, h19, hbN, hQ⟩ := hp.2.2.2.2.2.2.2.2.2.2.2.2.2.2.2.2.2.2.2.2;clear hp;subst ha0;simp only [putAll, hM, h19];have HG := keep (show Grow w0 w from hw.undrew.below);have HT1 := keep (HT.out.fits (Grow.trans HG0.out HG.out));have HQ := keep hQ;generalize w = w1 at *;clear hw hM h19 hQ HPx HCx HMk
 by_cases h0 : R2 = 0
 ·subst h0;have hRR := HRR.out;rw [if_neg (fun h => h rfl)] at hRR;obtain ⟨rfl, rfl, rfl⟩ : Q1 = S.write /\ Q2 = R1 /\ Q3 = true := by cases hRR; exact ⟨rfl, rfl, rfl⟩
  have hwr := plwrite_any bs pb S w1 HT1.out;unfold PlPost at hwr;have HWr := keep hwr;clear hRR hwr;go_wp2_with fail;refine HWr.out.mono ?_;rintro x w2 ⟨rfl, h1, h2⟩;have HT2 := keep h1;have HS2 := keep ((Sel.of_grow (Nat.le_trans HT.out.low HG0.out.size) HG.out).trans h2);have HS1 := keep h2;have HS3 := keep ((Sel.of_grow HT.out.low (Grow.trans HG0.out HG.out)).trans h2);clear h1 h2 HWr;have HRx := keep (HR0.out.sel HS2.out (by decide) (by decide));have HRb := keep (HQ.out.sel HS1.out (by decide) (by decide));unfold zC at HRx;go_wp2_with (first | (refine wpList_load_rd rfl _ rfl b rfl HRb.out rfl ?_) | (refine wpList_store_rec rfl _ _ rfl (w_.heap.size + 2) _ rfl rfl HRx.out rfl rfl rfl ?_; intro wz hset hbz; have Hset := keep hset; have Hbut := keep hbz; clear hset hbz))
  refine bodyPost_ret (v := .tuple #[rdV Q2 (.slice none 0 0), .bool true]) ?_ rfl ?_
  ·exact finish_res _ _ _ _ Q2 _ rfl rfl Hset.out
  ·exact st_rec HT2.out HS3.out Hbut.out (by omega) HRx.out HT.out.low HIm.out
 ·have e1 : (R2 != 0) = true := by simpa using h0
  have hRR := HRR.out;rw [if_pos h0] at hRR;obtain ⟨rfl, rfl, rfl⟩ : Q1 = S.fin R2 false [] [] /\ Q2 = noRd /\ Q3 = false := by cases hRR; exact ⟨rfl, rfl, rfl⟩
  have hen := end_any bs pb S R2 false [] (.slice none 0 0) [] w1 HT1.out (rows_nilS _);unfold rpV PlPost at hen;rw [str_nilS] at hen;have HEn := keep hen;clear hRR hen h0;go_wp2_with fail;refine HEn.out.mono ?_;rintro x w2 ⟨rfl, h1, h2⟩;have HT2 := keep h1;have HS2 := keep ((Sel.of_grow (Nat.le_trans HT.out.low HG0.out.size) HG.out).trans h2);have HS3 := keep ((Sel.of_grow HT.out.low (Grow.trans HG0.out HG.out)).trans h2);clear h1 h2 HEn;have HRx := keep (HR0.out.sel HS2.out (by decide) (by decide));unfold zC at HRx;go_wp2_with ((refine wpList_store_rec rfl _ _ rfl (w_.heap.size + 2) _ rfl rfl HRx.out rfl rfl rfl ?_); intro wz hset hbz; have Hset := keep hset; have Hbut := keep hbz; clear hset hbz);refine bodyPost_ret (v := .tuple #[rdV noRd (.slice none 0 0), .bool false]) ?_ rfl ?_
  ·exact finish_res _ _ _ _ noRd _ rfl rfl Hset.out
  ·exact st_zero HT2.out HS3.out Hbut.out (by omega) HRx.out HT.out.low
theorem lay_res (tm : Array Value) (w : World) (b : Nat) (g : Bool) (R : Rcd) (iv : Value) (h8 : tm.getD 8 undef = .pointer (some ⟨b, 0, none⟩)) (h9 : tm.getD 9 undef = .bool g) (hB : Blk w b 71 (rdC R iv)) :
  (results Tryz.f53 tm).run Tryz.prog w = .ok (.tuple #[rdV R iv, .bool g]) w := by
 unfold rdC at hB;obtain ⟨⟨s0_, s1_, s2_, s3_, s4_, s5_, s6_, s7_, s8_, s9_, s10_, s11_, s12_, s13_, s14_, s15_⟩, _⟩ := recres hB;simp only [Array.getD_eq_getD_getElem?] at h8 h9;simp [results, Tryz.results53, go_sem, h8, h9, s0_, s1_, s2_, s3_, s4_, s5_, s6_, s7_, s8_, s9_, s10_, s11_, s12_, s13_, s14_, s15_, rdV]
def lk9 (j : Nat) : Nat := if j = 9 then 8 else j
theorem ins_imgs (P : Pg) (n own : Int) (key val : List UInt8) : (insH P n own key val).1.imgs = [] := by
 unfold insH
 split
 ·rfl
 ·split
  ·rfl
  ·split <;> rfl
set_option maxRecDepth 100000 in
set_option maxHeartbeats 16000000 in
theorem pllay_any (bs pb : Nat) (S : Pl) (v : Vw) (av rv iv : Value) (P : Pg) (jv fv : Value) (w_ : World) (h : PlT bs pb w_ S) (hv : VwIn w_ v av rv iv) (hin : PgIn w_ jv P) (hil : P.items.length <= 8796093021980) :
  Calls Tryz.prog 53 #[.pointer (some ⟨pb, 0, none⟩), vwV v av rv iv, pgV P jv, fv] w_ (StPost bs pb (S.lay P).1 (S.lay P).2.1 (S.lay P).2.2 w_) := by
 obtain ⟨w0, hw0⟩ : ∃ w0, w0 = ((w_.alloc (.cells (vwCells v av rv iv).toArray 40)).alloc (.cells (pgCells P jv).toArray 28)).alloc (.cells zC.toArray 71) := ⟨_, rfl⟩;obtain ⟨hg0, hV0, hP0, hR0⟩ := vpr_new v av rv iv P jv w_ w0 hw0;obtain ⟨iva, ivc, rfl⟩ := items_form hv.items;obtain ⟨rva, rvc, rfl, _⟩ := ints_form hv.run;obtain ⟨ava, avc, rfl, _⟩ := ints_form hv.act;obtain ⟨jva, jvc, rfl⟩ := items_form hin.1;have HT := keep h;have HG0 := keep hg0;have HV0 := keep hV0;have HP0 := keep hP0;have HR0 := keep hR0;have HIn := keep hin;have HVw := keep hv;obtain ⟨R, hR⟩ : ∃ R, S.lay P = R := ⟨_, rfl⟩;have hr : R = if (insH P S.wpg S.own S.key S.val).2 = 121 then (S.write, noRd, false) else if (insH P S.wpg S.own S.key S.val).2 ≠ 0 then (S.odd, noRd, false)
   else ({ S with level := 0, ent := (S.key, S.wpg, (insH P S.wpg S.own S.key S.val).1.slot), item := (encN (S.key, S.wpg, (insH P S.wpg S.own S.key S.val).1.slot)).1 }.down 6, (insH P S.wpg S.own S.key S.val).1, true) := by rw [<- hR]; rfl
 rw [hR];have hmk := fun (u : World) (hu : Grow w0 u) => hinsert_any P (.slice jva P.items.length jvc) S.wpg S.own 0 false S.key S.val u ((hin.fits hg0).fits hu) hil
 have hve := fun (u : World) (hu : Grow w0 u) => version_any bs pb S u ((h.fits hg0).fits hu)
 have him := ins_imgs P S.wpg S.own S.key S.val;simp only [<- insH_insT] at hmk;generalize insH P S.wpg S.own S.key S.val = Y at *;obtain ⟨R1, R2⟩ := Y;obtain ⟨Q1, Q2, Q3⟩ := R;dsimp only at hr hmk him;unfold RdPost rdV pgV at hmk;have HMk := keep hmk;have HVe := keep hve;have HRR := keep hr;have HIm := keep him;obtain ⟨rv0, ov0, lv0, hB, -⟩ := (h.fits hg0).tab;have HPx := keep (fun (u : World) (hu : Grow w0 u) => pgres (hP0.fits hu));have c9 := hB.cell 9 (by simp [plCells]);simp only [plCells, List.getElem_cons_zero, List.getElem_cons_succ] at c9;clear hR hr hmk hve him h hg0 hV0 hP0 hR0 hB hv hin hil;unfold vwCells pgCells zC at hw0;unfold vwV pgV;go_enter Tryz.func53, Tryz.ntmps53;go_upto_region 1 with fail;rw [<- hw0];clear hw0;go_upto_region 2 with fail;clear c9;refine wp_region_link_named (by kernel_rfl) 10 lk9 (Fill w0.heap.size 71 (IsC [.int .i64 0, .int .i64 0, .int .i64 0, .int .u8 R1.kind, .int .i64 R1.xid, .int .i64 R1.page, .int .i64 R1.slot, .int .i64 R1.old, .int .i64 R1.new, .int .i64 0, .string (str R1.data), .slice none 0 0, .slice none 0 0, .slice none 0 0, .slice none 0 0, .slice none 0 0])) (Fill.refl _) (fun _ _ _ => Fill.trans (isC_lasts _ _)) (by kernel_rfl) (by kernel_rfl) [(19, 0), (20, 1), (21, 2), (22, 3), (23, 4), (18, 5), (24, 6), (25, 7), (11, 8)] (by kernel_rfl) [(0, true), (1, true), (2, true), (3, true), (4, true), (5, true), (6, true), (7, true), (8, true), (9, true)] (by kernel_rfl) rfl rfl ?_;intro a0 ha0
 have hsz : a0.tmps.size = 68 := (size_at ha0).trans rfl;have s0 := slot_at ha0 0 rfl;have s6 := slot_at ha0 6 rfl;have s10 := slot_at ha0 10 rfl;have HA0 := keep ha0;clear ha0;apply lexkf_eq hsz [] [(20, 1), (21, 2), (22, 3), (18, 5), (24, 6), (25, 7), (11, 8)] none (by kernel_rfl) (by kernel_rfl) (by kernel_rfl) (by kernel_rfl) rfl rfl
 ·intro xs w hw hp K hK;obtain ⟨p0, p1, p2, p3, p4, p5, _⟩ := HPx.out w (Grow.undrew hw.below);go_simp;exact hK _ (Fill.refl _)
 apply lexkf_eq hsz [] [(19, 0), (21, 2), (22, 3), (18, 5), (24, 6), (25, 7), (11, 8)] none (by kernel_rfl) (by kernel_rfl) (by kernel_rfl) (by kernel_rfl) rfl rfl
 ·intro xs w hw hp K hK;go_simp;exact hK _ (Fill.refl _)
 apply lexkf_eq hsz [] [(19, 0), (20, 1), (23, 4), (18, 5), (24, 6), (25, 7), (11, 8)] none (by kernel_rfl) (by kernel_rfl) (by kernel_rfl) (by kernel_rfl) rfl rfl
 ·intro xs w hw hp K hK;go_simp;exact hK _ (Fill.refl _)
 apply lexkf_eq hsz [(2, true)] [(19, 0), (20, 1), (21, 2), (18, 5), (24, 6), (25, 7), (11, 8)] none (by kernel_rfl) (by kernel_rfl) (by kernel_rfl) (by kernel_rfl) rfl rfl
 ·intro xs w hw hp K hK;simp only [hzk, lk9, reduceIte, Nat.reduceEqDiff] at hp;go_simp;exact (HVe.out w (Grow.undrew hw.below)).mono fun e w' h => ⟨_, h.1, hK _ (Fill.of_grow h.2 hw.below.size)⟩
 apply lexkf_eq hsz [(0, true), (1, true), (3, true)] [(19, 0), (20, 1), (21, 2), (22, 3), (24, 6), (25, 7), (11, 8)] none (by kernel_rfl) (by kernel_rfl) (by kernel_rfl) (by kernel_rfl) rfl rfl
 ·intro xs w hw hp K hK;simp only [hzk, lk9, reduceIte, Nat.reduceEqDiff] at hp;go_simp;exact (HMk.out w (Grow.undrew hw.below)).mono fun e w' h => ⟨_, h.1, hK _ (Fill.of_grow h.2 hw.below.size)⟩
 apply lexkf_eq hsz [(4, true)] [(19, 0), (20, 1), (21, 2), (22, 3), (23, 4), (11, 8)] none (by kernel_rfl) (by kernel_rfl) (by kernel_rfl) (by kernel_rfl) rfl rfl
 ·intro xs w hw hp K hK;simp only [hzk, lk9, reduceIte, Nat.reduceEqDiff] at hp;go_simp;exact hK _ (Fill.refl _)
 apply lexkf_eq hsz [(5, true)] [(19, 0), (20, 1), (21, 2), (22, 3), (23, 4), (18, 5), (25, 7), (11, 8)] none (by kernel_rfl) (by kernel_rfl) (by kernel_rfl) (by kernel_rfl) rfl rfl
 ·intro xs w hw hp K hK;simp only [hzk, lk9, reduceIte, Nat.reduceEqDiff] at hp;go_simp;exact hK _ (Fill.refl _)
 apply lexkf_eq hsz [(5, true)] [(19, 0), (20, 1), (21, 2), (22, 3), (23, 4), (18, 5), (24, 6), (11, 8)] none (by kernel_rfl) (by kernel_rfl) (by kernel_rfl) (by kernel_rfl) rfl rfl
 ·intro xs w hw hp K hK;simp only [hzk, lk9, reduceIte, Nat.reduceEqDiff] at hp;go_simp;exact hK _ (Fill.refl _)
 refine lexkf_says hsz (fun v u => ∃ b, v = .pointer (some ⟨b, 0, none⟩) /\ w0.heap.size <= b /\ ∃ cs : List Value, cs.length = 16 /\ Blk u b 71 cs) (fun _ _ _ g ⟨b, h1, h2, h3⟩ => ⟨b, h1, h2, fill_sixteen g h3⟩) [] [(19, 0), (20, 1), (21, 2), (22, 3), (23, 4), (18, 5), (24, 6), (25, 7)] none (by kernel_rfl) (by kernel_rfl) (by kernel_rfl) (by kernel_rfl) rfl rfl ?_ ?_
 ·intro xs w hw hp K hK;go_simp;exact hK _ _ ⟨_, rfl, hw.below.size, _, rfl, Blk.new w _ [.int .i64 0, .int .i64 0, .int .i64 0, .int .u8 0, .int .i64 0, .int .i64 0, .int .i64 0, .int .i64 0, .int .i64 0, .int .i64 0, .string ⟨#[]⟩, .slice none 0 0, .slice none 0 0, .slice none 0 0, .slice none 0 0, .slice none 0 0]⟩ (Fill.of_grow ((Grow.refl w).alloc _) hw.below.size)
 refine lexkf_link hsz (fun v u => ∃ b, v = .pointer (some ⟨b, 0, none⟩) /\ w0.heap.size <= b /\ Blk u b 71 [.int .i64 0, .int .i64 0, .int .i64 0, .int .u8 R1.kind, .int .i64 R1.xid, .int .i64 R1.page, .int .i64 R1.slot, .int .i64 R1.old, .int .i64 R1.new, .int .i64 0, .string (str R1.data), .slice none 0 0, .slice none 0 0, .slice none 0 0, .slice none 0 0, .slice none 0 0]) (fun _ _ _ hg ⟨b, h1, h2, h3⟩ => ⟨b, h1, h2, isC_stays hg h3⟩) [(6, true), (8, true)] [(19, 0), (20, 1), (21, 2), (22, 3), (23, 4), (18, 5), (24, 6), (25, 7), (11, 8)] none (by kernel_rfl) (by kernel_rfl) (by kernel_rfl) (by kernel_rfl) rfl (by decide) ?_ ?_
 ·intro xs w hw hp K hK;simp only [hzk, lk9, reduceIte, Nat.reduceEqDiff] at hp;obtain ⟨h17, b, h19, hbN, cs, hl, hB⟩ := hp;obtain ⟨a0_, a1_, a2_, a3_, a4_, a5_, a6_, a7_, a8_, a9_, a10_, a11_, a12_, a13_, a14_, a15_, rfl⟩ := len16 hl;obtain ⟨⟨r0_, r1_, r2_, r3_, r4_, r5_, r6_, r7_, r8_, r9_, r10_, r11_, r12_, r13_, r14_, r15_⟩, hz_⟩ := recres hB;have z0_ := hz_ 0;have z1_ := hz_ 1;have z2_ := hz_ 2;have z3_ := hz_ 3;have z4_ := hz_ 4;have z5_ := hz_ 5;have z6_ := hz_ 6;have z7_ := hz_ 7;have z8_ := hz_ 8;have z9_ := hz_ 9;have z10_ := hz_ 10;have z11_ := hz_ 11;have z12_ := hz_ 12;have z13_ := hz_ 13;have z14_ := hz_ 14;have z15_ := hz_ 15;have Hset := keep (recset hB (.int .i64 0) (.int .i64 0) (.int .i64 0) (.int .u8 R1.kind) (.int .i64 R1.xid) (.int .i64 R1.page) (.int .i64 R1.slot) (.int .i64 R1.old) (.int .i64 R1.new) (.int .i64 0) (.string (str R1.data)) (.slice none 0 0) (.slice none 0 0) (.slice none 0 0) (.slice none 0 0) (.slice none 0 0));have Hbut := keep (recbut w b (.int .i64 0) (.int .i64 0) (.int .i64 0) (.int .u8 R1.kind) (.int .i64 R1.xid) (.int .i64 R1.page) (.int .i64 R1.slot) (.int .i64 R1.old) (.int .i64 R1.new) (.int .i64 0) (.string (str R1.data)) (.slice none 0 0) (.slice none 0 0) (.slice none 0 0) (.slice none 0 0) (.slice none 0 0));have HB := keep hB;clear hB hl hz_;go_simp
  exact hK _ _ ⟨b, h19, hbN, Hset.out⟩ (Fill.but (cs' := [.int .i64 0, .int .i64 0, .int .i64 0, .int .u8 R1.kind, .int .i64 R1.xid, .int .i64 R1.page, .int .i64 R1.slot, .int .i64 R1.old, .int .i64 R1.new, .int .i64 0, .string (str R1.data), .slice none 0 0, .slice none 0 0, .slice none 0 0, .slice none 0 0, .slice none 0 0]) Hbut.out hbN hw.below.size HB.out rfl Hset.out rfl)
 intro xs w hw hp;have ha0 := HA0.out;clear HA0 hsz s0 s6 s10;simp only [hzk, lk9, reduceIte, Nat.reduceEqDiff] at hp;have hM := hp.2.2.2.2.2.2.2.1;obtain ⟨b, h19, hbN, hQ⟩ := hp.2.2.2.2.2.2.2.2.2;clear hp;subst ha0;simp only [putAll, hM, h19];have HG := keep (show Grow w0 w from hw.undrew.below);have HT1 := keep (HT.out.fits (Grow.trans HG0.out HG.out));have HQ := keep hQ;generalize w = w1 at *;clear hw hM h19 hQ HPx HMk HVe
 by_cases h0 : R2 = 0
 ·subst h0;have hRR := HRR.out;rw [if_neg (by decide), if_neg (fun h => h rfl)] at hRR;obtain ⟨hq1, rfl, rfl⟩ : Q1 = ({ S with level := 0, ent := (S.key, S.wpg, R1.slot), item := (encN (S.key, S.wpg, R1.slot)).1 } : Pl).down 6 /\ Q2 = R1 /\ Q3 = true := by cases hRR; exact ⟨rfl, rfl, rfl⟩
  have HQ1 := keep hq1;obtain ⟨rv1, ov1, lv1, hB, hP⟩ := HT1.out.tab;have c1 := hB.cell 1 (by simp [plCells]);have c23 := hB.cell 23 (by simp [plCells]);have c24 := hB.cell 24 (by simp [plCells]);have c25 := hB.cell 25 (by simp [plCells]);have c26 := hB.cell 26 (by simp [plCells]);simp only [plCells, List.getElem_cons_zero, List.getElem_cons_succ] at c1 c23 c24 c25 c26;have z23 := hB.free 23;have z24 := hB.free 24;have z25 := hB.free 25;have z26 := hB.free 26;obtain ⟨⟨-, -, -, -, -, -, g6, -⟩, -⟩ := recres HQ.out;have hne1 : b ≠ pb := by
   rintro rfl;have h9 := HQ.out;unfold Blk at hB h9;rw [hB] at h9;simp at h9
  have hne2 : pb ≠ b := fun h => hne1 h.symm
  have HB1 := keep hB;have HP1 := keep hP;clear hRR hq1 hB hP;go_upto_region 10 with fail;go_region;have HQb := keep (show Blk w1 b 71 (rdC Q2 (.slice none 0 0)) from HQ.out);clear c1 c23 c24 c25 c26 z23 z24 z25 z26 g6 hne1 hne2;generalize hsl : Q2.slot = sl at *;obtain ⟨w2, hw2⟩ : ∃ w2, w2 = ((((w1.setCell ⟨pb, 23, none⟩ (.int .i64 0)).setCell ⟨pb, 24, none⟩ (.string (str S.key))).setCell ⟨pb, 25, none⟩ (.int .i64 S.wpg)).setCell ⟨pb, 26, none⟩ (.int .i64 sl)).drew := ⟨_, rfl⟩;rw [<- hw2];have h9 : Blk w2 pb 111 (plCells { S with level := 0, ent := (S.key, S.wpg, sl) } (stageV pb S.st) rv1 ov1 lv1) /\ PlR bs w2 { S with level := 0, ent := (S.key, S.wpg, sl) } rv1 ov1 lv1 /\ Sel bs pb w1 w2 /\ Blk w2 b 71 (rdC Q2 (.slice none 0 0)) := by
   have kk := (((((But.refl pb w1).setCell 23 (.int .i64 0)).setCell 24 (.string (str S.key))).setCell 25 (.int .i64 S.wpg)).setCell 26 (.int .i64 sl)).drew;have hB' := (((HB1.out.set 23 (.int .i64 0)).set 24 (.string (str S.key))).set 25 (.int .i64 S.wpg)).set 26 (.int .i64 sl);have h2 := HP1.out.but kk HB1.out;have hse := Sel.but kk HB1.out (.inl ⟨rfl, rfl⟩) HT1.out.low;subst hw2;exact ⟨hB'.drew, ⟨h2.rr, h2.rows, h2.left, h2.none⟩, hse, HQb.out.sel hse (by decide) (by decide)⟩
  obtain ⟨hB2, hP2, hS2, hQ2⟩ := h9;have HB2 := keep hB2;have HP2 := keep hP2;have HS2 := keep hS2;have HQ2 := keep hQ2;have c24 := hB2.cell 24 (by simp [plCells]);have c25 := hB2.cell 25 (by simp [plCells]);have c26 := hB2.cell 26 (by simp [plCells]);simp only [plCells, List.getElem_cons_zero, List.getElem_cons_succ] at c24 c25 c26;have hec := encode_any (S.key, S.wpg, sl) w2;generalize encN (S.key, S.wpg, sl) = En at *;obtain ⟨it, ic'⟩ := En;unfold enV at hec;dsimp only at hec;have HEc := keep hec;clear hB2 hP2 hS2 hQ2 hec hw2 HQ HQb HB1 HP1;go_wp2_with fail;refine HEc.out.mono ?_;rintro x w3 ⟨rfl, hb3⟩;have hB3 := HB2.out.fits hb3;have hP3 := HP2.out.fits hb3;clear c24 c25 c26;have c27 := hB3.cell 27 (by simp [plCells]);simp only [plCells, List.getElem_cons_zero, List.getElem_cons_succ] at c27;have z27 := hB3.free 27;have HB3 := keep hB3;have HP3 := keep hP3;have HS3 := keep (HS2.out.trans (Sel.of_grow (Nat.le_trans HT1.out.low HS2.out.size) hb3));have HQ3 := keep (HQ2.out.fits hb3);clear hB3 hP3 hb3 HEc HB2 HP2 HS2 HQ2;go_upto_region 12 with fail;obtain ⟨w4, hw4⟩ : ∃ w4, w4 = w3.setCell ⟨pb, 27, none⟩ (.string (str it)) := ⟨_, rfl⟩;rw [<- hw4];have h9 : PlT bs pb w4 { S with level := 0, ent := (S.key, S.wpg, sl), item := it } /\ Sel bs pb w3 w4 := by
   have kk := (But.refl pb w3).setCell 27 (.string (str it));have hB' := HB3.out.set 27 (.string (str it));have h2 := HP3.out.but kk HB3.out;have hlw : bs <= w3.heap.size := Nat.le_trans HT1.out.low HS3.out.size;have hse := Sel.but kk HB3.out (.inl ⟨rfl, rfl⟩) hlw;subst hw4;exact ⟨⟨Nat.le_trans hlw kk.size, rv1, ov1, lv1, hB', ⟨h2.rr, h2.rows, h2.left, h2.none⟩⟩, hse⟩
  obtain ⟨hT4, hS4⟩ := h9;have hmf : ∀ (fn : Fn) (first cap : Array Value) (w : World), (Instr.makeFunc fn first cap).run Tryz.prog w = .ok (.func fn first cap) w := fun _ _ _ _ => rfl
  have hd := down_any bs pb { S with level := 0, ent := (S.key, S.wpg, sl), item := it } 6 w4 hT4;rw [<- HQ1.out] at hd;unfold stageV PlPost at hd;have HD := keep hd;have HS4 := keep (HS3.out.trans hS4);have HQ4 := keep (HQ3.out.sel hS4 (by decide) (by decide));clear hd hT4 hS4 hw4 c27 z27 HB3 HP3 HS3 HQ3;go_wp2_with fail;refine HD.out.mono ?_;rintro x w5 ⟨rfl, h1, h2⟩;have HT5 := keep h1;have HS5a := keep h2;have HS5 := keep ((Sel.of_grow (Nat.le_trans HT.out.low HG0.out.size) HG.out).trans (HS4.out.trans h2));have HS6 := keep ((Sel.of_grow HT.out.low (Grow.trans HG0.out HG.out)).trans (HS4.out.trans h2));clear h1 h2 HD;clear hsl;have HRx := keep (HR0.out.sel HS5.out (by decide) (by decide));have HRb := keep (HQ4.out.sel HS5a.out (by decide) (by decide));unfold zC at HRx;go_wp2_with (first | (refine wpList_load_rd rfl _ rfl b rfl HRb.out rfl ?_) | (refine wpList_store_rec rfl _ _ rfl (w_.heap.size + 2) _ rfl rfl HRx.out rfl rfl rfl ?_; intro wz hset hbz; have Hset := keep hset; have Hbut := keep hbz; clear hset hbz))
  refine bodyPost_ret (v := .tuple #[rdV Q2 (.slice none 0 0), .bool true]) ?_ rfl ?_
  ·exact lay_res _ _ _ _ Q2 _ rfl rfl Hset.out
  ·exact st_rec HT5.out HS6.out Hbut.out (by omega) HRx.out HT.out.low HIm.out
 ·by_cases h1 : R2 = 121
  ·subst h1;have hRR := HRR.out;rw [if_pos rfl] at hRR;obtain ⟨rfl, rfl, rfl⟩ : Q1 = S.write /\ Q2 = noRd /\ Q3 = false := by cases hRR; exact ⟨rfl, rfl, rfl⟩
   have hwr := plwrite_any bs pb S w1 HT1.out;unfold PlPost at hwr;have HWr := keep hwr;clear hRR hwr h0;go_wp2_with fail;refine HWr.out.mono ?_;rintro x w2 ⟨rfl, h1, h2⟩;have HT2 := keep h1;have HS2 := keep ((Sel.of_grow (Nat.le_trans HT.out.low HG0.out.size) HG.out).trans h2);have HS3 := keep ((Sel.of_grow HT.out.low (Grow.trans HG0.out HG.out)).trans h2);clear h1 h2 HWr;have HRx := keep (HR0.out.sel HS2.out (by decide) (by decide));unfold zC at HRx;go_wp2_with ((refine wpList_store_rec rfl _ _ rfl (w_.heap.size + 2) _ rfl rfl HRx.out rfl rfl rfl ?_); intro wz hset hbz; have Hset := keep hset; have Hbut := keep hbz; clear hset hbz);refine bodyPost_ret (v := .tuple #[rdV noRd (.slice none 0 0), .bool false]) ?_ rfl ?_
   ·exact lay_res _ _ _ _ noRd _ rfl rfl Hset.out
   ·exact st_zero HT2.out HS3.out Hbut.out (by omega) HRx.out HT.out.low
  ·have e1 : (R2 == 0) = false := by simpa using h0
   have e2 : (R2 == 121) = false := by simpa using h1
   have hRR := HRR.out;rw [if_neg h1, if_pos h0] at hRR;obtain ⟨rfl, rfl, rfl⟩ : Q1 = S.odd /\ Q2 = noRd /\ Q3 = false := by cases hRR; exact ⟨rfl, rfl, rfl⟩
   have hod := odd_any bs pb S w1 HT1.out;unfold PlPost at hod;have HOd := keep hod;clear hRR hod h0 h1;go_wp2_with fail;refine HOd.out.mono ?_;rintro x w2 ⟨rfl, h1, h2⟩;have HT2 := keep h1;have HS2 := keep ((Sel.of_grow (Nat.le_trans HT.out.low HG0.out.size) HG.out).trans h2);have HS3 := keep ((Sel.of_grow HT.out.low (Grow.trans HG0.out HG.out)).trans h2);clear h1 h2 HOd;have HRx := keep (HR0.out.sel HS2.out (by decide) (by decide));unfold zC at HRx;go_wp2_with ((refine wpList_store_rec rfl _ _ rfl (w_.heap.size + 2) _ rfl rfl HRx.out rfl rfl rfl ?_); intro wz hset hbz; have Hset := keep hset; have Hbut := keep hbz; clear hset hbz);refine bodyPost_ret (v := .tuple #[rdV noRd (.slice none 0 0), .bool false]) ?_ rfl ?_
   ·exact lay_res _ _ _ _ noRd _ rfl rfl Hset.out
   ·exact st_zero HT2.out HS3.out Hbut.out (by omega) HRx.out HT.out.low
def recX (kind xi page : Int) (d : ByteArray) (v : Value) : Value := .agg #[.int .i64 0, .int .i64 0, .int .i64 0, .int .u8 kind, .int .i64 xi, .int .i64 page, .int .i64 0, .int .i64 0, .int .i64 0, .int .i64 0, .string d, .slice none 0 0, .slice none 0 0, v, .slice none 0 0, .slice none 0 0]
def recXC (kind xi page : Int) (d : ByteArray) (v : Value) : List Value := [.int .i64 0, .int .i64 0, .int .i64 0, .int .u8 kind, .int .i64 xi, .int .i64 page, .int .i64 0, .int .i64 0, .int .i64 0, .int .i64 0, .string d, .slice none 0 0, .slice none 0 0, v, .slice none 0 0, .slice none 0 0]
set_option maxRecDepth 100000 in
set_option maxHeartbeats 2000000 in
theorem above_rec (k xi p : Int) (d : ByteArray) (v : Value) (T : List Im) (w_ : World) (hT : ImgsW w_ v T) :
  Calls Tryz.prog 151 #[recX k xi p d v] w_ (AbovePost k T w_) := by
 obtain ⟨w0, hw0⟩ : ∃ w0, w0 = (w_.alloc (.cells (recXC k xi p d v).toArray 71)).alloc (.cells #[.string ⟨#[]⟩, .int .i64 0, .int .i64 0] 103) := ⟨_, rfl⟩;have hg0 : Grow w_ w0 := by subst hw0; exact ((Grow.refl w_).alloc _).alloc _
 have hA0 : Blk w0 w_.heap.size 71 (recXC k xi p d v) := by
  have := (Blk.new w_ 71 (recXC k xi p d v)).alloc (.cells #[.string ⟨#[]⟩, .int .i64 0, .int .i64 0] 103);subst hw0; exact this
 have hE0 : Blk w0 (w_.heap.size + 1) 103 [.string ⟨#[]⟩, .int .i64 0, .int .i64 0] := by
  have := Blk.new (w_.alloc (.cells (recXC k xi p d v).toArray 71)) 103 [.string ⟨#[]⟩, .int .i64 0, .int .i64 0];have e : (w_.alloc (.cells (recXC k xi p d v).toArray 71)).heap.size = w_.heap.size + 1 := by simp
  rw [e] at this;subst hw0; exact this
 have hpo : ∀ (x : Ending) (w' : World), AbovePost k T w_ x w' ↔ (x = .returned (.tuple #[enV (aboveN k T).1, .int .i64 (aboveN k T).2.1, .bool (aboveN k T).2.2]) /\ Below w_.heap.size w_ w') := fun _ _ => Iff.rfl
 obtain ⟨va, vc, rfl⟩ := imgs_form hT;have HT := keep (hT.fits hg0);have HPo := keep hpo;have HA0 := keep hA0;have HE0 := keep hE0;have HG0 := keep hg0;unfold recXC at hw0 hA0;obtain ⟨⟨p0, p1, p2, p3, p4, p5, p6, p7, p8, p9, p10, p11, p12, p13, p14, p15⟩, _⟩ := recres hA0;clear hA0 hE0 hg0 hpo hT;unfold recX;go_enter Tryz.func151, Tryz.ntmps151;go_upto_region 1 with fail;rw [<- hw0];clear hw0
 by_cases hk : k = 5
 ·have hk2 : (k != 5) = false := by simp [hk]
  have HK := keep hk;clear hk
  by_cases hn : (T.length : Int) = 2
  ·have hn2 : ((T.length : Int) != 2) = false := by simp [hn]
   have hn3 : T.length = 2 := by omega
   have HN := keep hn3;clear hn;obtain ⟨c1, off1, cap1, e1, hc1⟩ := im_at HT.out (show 0 < T.length by omega);obtain ⟨c2, off2, cap2, e2, hc2⟩ := im_at HT.out (show 1 < T.length by omega);simp only [Value.slice.injEq] at e1 e2;obtain ⟨rfl, _, _⟩ := e1;obtain ⟨x5, _, _⟩ := e2;simp only [Option.some.injEq, Addr.mk.injEq] at x5;obtain ⟨rfl, rfl, _⟩ := x5;have hfi := (HT.out.2 _ (List.getElem_mem (show 0 < T.length by omega))).2.2;have hay : aboveN k T = if (decN T[0].2.1.high).2 ≠ 0 then ((leastE, 0, false) : En × Int × Bool) else ((decN T[0].2.1.high).1, T[1].1, true) := by
    unfold aboveN;rw [dif_pos ⟨HK.out, hn3⟩]
   have hdc := fun (u : World) => decode_any T[0].2.1.high u (by omega)
   have HC1 := keep hc1;have HC2 := keep hc2;have HAY := keep hay;generalize T[0].2.1.high = hi at *;generalize T[1].1 = y at *;generalize decN hi = D at *;obtain ⟨e, dc⟩ := D;obtain ⟨ek, ep, es⟩ := e;unfold enV at hdc;dsimp only at hdc;have HDc := keep hdc;have d1 := (hc1 w0 (Grow.refl _)).2.2.2.2.2.1;simp only [Nat.zero_mul, Nat.add_zero] at d1;clear hdc hc1 hc2 hay hfi;go_wp2_with fail;refine (HDc.out w0).mono ?_;rintro x w1 ⟨rfl, hb1⟩;clear d1 HDc;have hl1 : w_.heap.size + 1 < w1.heap.size := Nat.lt_of_lt_of_le HE0.out.lt hb1.size;go_upto_region 4 with fail;obtain ⟨w2, hw2⟩ : ∃ w2, w2 = w1.alloc (.cells #[.string (str ek), .int .i64 ep, .int .i64 es] 103) := ⟨_, rfl⟩;have hg2 : Grow w0 w2 := by subst hw2; exact Grow.alloc hb1 _
   have hB2 : Blk w2 w1.heap.size 103 [.string (str ek), .int .i64 ep, .int .i64 es] := by subst hw2; exact Blk.new w1 _ [_, _, _]
   rw [<- hw2];have HB2 := keep hB2;have HG2 := keep hg2;have HE2 := keep (HE0.out.fits hg2);have hA2 := HA0.out.fits hg2;unfold recXC at hA2;clear p0 p1 p2 p3 p4 p5 p6 p7 p8 p9 p10 p11 p12 p13 p14 p15;obtain ⟨⟨p0, p1, p2, p3, p4, p5, p6, p7, p8, p9, p10, p11, p12, p13, p14, p15⟩, _⟩ := recres hA2;have d2 := (HC2.out w2 hg2).1;simp only [Nat.one_mul] at d2;clear hw2 hg2 hB2 hA2 hb1
   by_cases hdz : dc = 0
   ·subst hdz;obtain ⟨r0, r1, r2, _⟩ := enres HB2.out;obtain ⟨q0, q1, q2, f0, f1, f2⟩ := enres HE2.out;have Hset := keep (enset HE2.out (.string (str ek)) (.int .i64 ep) (.int .i64 es));have Hbut := keep (enbut w2 (w_.heap.size + 1) (.string (str ek)) (.int .i64 ep) (.int .i64 es));have HAY2 := keep (HAY.out.trans (if_neg (fun h => h rfl)));go_upto_region 6 with fail;go_region
    all_goals go_wp2_with fail
    all_goals refine bodyPost_ret (v := .tuple #[enV (ek, ep, es), .int .i64 y, .bool true]) ?_ rfl ((HPo.out _ _).2 ⟨by rw [HAY2.out], But.below (Grow.trans HG0.out HG2.out) (But.drew Hbut.out) (by omega) (Grow.trans HG0.out HG2.out).size⟩)
    all_goals
     obtain ⟨t0, t1, t2, _⟩ := enres (Blk.drew Hset.out);simp [results, Tryz.results151, go_sem, t0, t1, t2, enV]
     try rfl
   ·have hdc2 : (dc != 0) = true := by simp [hdz]
    have HAY2 := keep (HAY.out.trans (if_pos hdz));clear hdz;go_wp2_with ((refine wpList_store_en rfl _ _ rfl (w_.heap.size + 1) _ rfl rfl HE2.out rfl rfl rfl ?_); intro w4 hset4 hbut4; have Hset := keep hset4; have Hbut := keep hbut4; clear hset4 hbut4);refine bodyPost_ret (v := .tuple #[enV leastE, .int .i64 0, .bool false]) ?_ rfl ((HPo.out _ _).2 ⟨by rw [HAY2.out], But.below (Grow.trans HG0.out HG2.out) Hbut.out (by omega) (Grow.trans HG0.out HG2.out).size⟩);obtain ⟨t0, t1, t2, _⟩ := enres Hset.out;simp [results, Tryz.results151, go_sem, t0, t1, t2, enV, leastE]
    try rfl
  ·have hn2 : ((T.length : Int) != 2) = true := by simp [hn]
   have hay : aboveN k T = (leastE, 0, false) := by
    unfold aboveN;rw [dif_neg (fun h => hn (by omega))]
   have HAY2 := keep hay;clear hn hay;go_wp2_with ((refine wpList_store_en rfl _ _ rfl (w_.heap.size + 1) _ rfl rfl HE0.out rfl rfl rfl ?_); intro w4 hset4 hbut4; have Hset := keep hset4; have Hbut := keep hbut4; clear hset4 hbut4);refine bodyPost_ret (v := .tuple #[enV leastE, .int .i64 0, .bool false]) ?_ rfl ((HPo.out _ _).2 ⟨by rw [HAY2.out], But.below HG0.out Hbut.out (by omega) HG0.out.size⟩);obtain ⟨t0, t1, t2, _⟩ := enres Hset.out;simp [results, Tryz.results151, go_sem, t0, t1, t2, enV, leastE]
   try rfl
 ·have hk2 : (k != 5) = true := by simp [hk]
  have hay : aboveN k T = (leastE, 0, false) := by
   unfold aboveN;rw [dif_neg (fun h => hk h.1)]
  have HAY2 := keep hay;clear hk hay;go_wp2_with ((refine wpList_store_en rfl _ _ rfl (w_.heap.size + 1) _ rfl rfl HE0.out rfl rfl rfl ?_); intro w4 hset4 hbut4; have Hset := keep hset4; have Hbut := keep hbut4; clear hset4 hbut4);refine bodyPost_ret (v := .tuple #[enV leastE, .int .i64 0, .bool false]) ?_ rfl ((HPo.out _ _).2 ⟨by rw [HAY2.out], But.below HG0.out Hbut.out (by omega) HG0.out.size⟩);obtain ⟨t0, t1, t2, _⟩ := enres Hset.out;simp [results, Tryz.results151, go_sem, t0, t1, t2, enV, leastE]
  try rfl
def aboveI (k : Int) (L : List (Int × Pg)) : En × Int × Bool := match L with
 | [a, b] => if k = 5 then (if (decN a.2.high).2 ≠ 0 then (leastE, 0, false) else ((decN a.2.high).1, b.1, true)) else (leastE, 0, false)
 | _ => (leastE, 0, false)
theorem above_drop (k : Int) (T : List Im) : aboveN k T = aboveI k (T.map dropV) := by
 unfold aboveN
 match T with
 | [] => rw [dif_neg (by simp)]; rfl
 | [a] => rw [dif_neg (by simp)]; rfl
 | [a, b] =>
  show _ = if k = 5 then _ else _
  by_cases h : k = 5
  ·rw [dif_pos ⟨h, rfl⟩, if_pos h]; rfl
  ·rw [dif_neg (fun x => h x.1), if_neg h]
 | a :: b :: c :: r => rw [dif_neg (by simp)]; rfl
end Go.Proofs.YtcdapdcablnhpaaGreat
namespace Go.Proofs.YtcdapdcablnhpaaGreat
open Go.RowKit
def IvOk (L : List (Int × Pg)) (w : World) (iv : Value) : Prop := ∃ T : List Im, T.map dropV = L /\ ImgsC w iv T /\ (T = [] -> iv = .slice none 0 0)
theorem imgsC_move {w w' : World} {v : Value} {T : List Im} (h : ImgsC w v T) (hk : ∀ (c : Nat) (blk : Array Value) (t : Nat) (f : Nat × Nat), (t = 132 \/ t = 9) -> w.heap[c]? = some (.cells blk t f) -> w'.heap[c]? = some (.cells blk t f)) : ImgsC w' v T :=
 ⟨RowS.move h.1 (fun c blk f e => hk c blk _ f (.inl rfl) e), fun x hx => ⟨⟨RowS.move (h.2 x hx).1.1 (fun c blk f e => hk c blk _ f (.inr rfl) e), (h.2 x hx).1.2⟩, (h.2 x hx).2⟩⟩
theorem IvOk.move {L : List (Int × Pg)} {w w' : World} {iv : Value} (h : IvOk L w iv) (hk : ∀ (c : Nat) (blk : Array Value) (t : Nat) (f : Nat × Nat), (t = 132 \/ t = 9) -> w.heap[c]? = some (.cells blk t f) -> w'.heap[c]? = some (.cells blk t f)) : IvOk L w' iv :=
 h.elim fun T h => ⟨T, h.1, imgsC_move h.2.1 hk, h.2.2⟩
theorem IvOk.fits {L : List (Int × Pg)} {w w' : World} {iv : Value} (h : IvOk L w iv) (g : Grow w w') : IvOk L w' iv := h.elim fun T h => ⟨T, h.1, h.2.1.fits g, h.2.2⟩
theorem IvOk.sel {bs pb : Nat} {L : List (Int × Pg)} {w w' : World} {iv : Value} (h : IvOk L w iv) (g : Sel bs pb w w') : IvOk L w' iv :=
 h.move fun c blk t f ht hb => g.typ c blk t f hb (by rcases ht with rfl | rfl <;> decide) (by rcases ht with rfl | rfl <;> decide)
theorem IvOk.but {b : Nat} {L : List (Int × Pg)} {w w' : World} {iv : Value} {cs : List Value} (h : IvOk L w iv) (k : But b w w') (hb : Blk w b 71 cs) : IvOk L w' iv :=
 h.elim fun T h => ⟨T, h.1, imgsC_but h.2.1 k hb (by decide) (by decide), h.2.2⟩
theorem IvOk.form {L : List (Int × Pg)} {w : World} {iv : Value} (h : IvOk L w iv) : ∃ a n c, iv = .slice a n c := by
 obtain ⟨T, _, h2, _⟩ := h;obtain ⟨a, c, e⟩ := imgs_form h2.weak;exact ⟨a, _, c, e⟩
theorem IvOk.fill {L : List (Int × Pg)} {N : Nat} {G : List Value -> World -> Prop} {w w' : World} {iv : Value} (h : IvOk L w iv) (g : Fill N 71 G w w') : IvOk L w' iv :=
 h.move fun c blk t f ht hb => g.other c blk t f (by rcases ht with rfl | rfl <;> decide) hb
def GoodR (k p : Int) (d : ByteArray) (L : List (Int × Pg)) (cs : List Value) (w : World) : Prop := ∃ iv, cs = recGC k p d iv /\ IvOk L w iv
theorem goodR_stays (k p : Int) (d : ByteArray) (L : List (Int × Pg)) : Lasts 71 (GoodR k p d L) := by
 rintro cs u v h ⟨iv, h1, h2⟩;exact ⟨iv, h1, h2.move fun c blk t f ht hb => h c blk t f (by rcases ht with rfl | rfl <;> decide) hb⟩
theorem goodR_lasts {N b : Nat} {k p : Int} {d : ByteArray} {L : List (Int × Pg)} {u v : World} {iv : Value} (h : Fill N 71 (GoodR k p d L) u v) (hb : Blk u b 71 (recGC k p d iv)) (hi : IvOk L u iv) :
  ∃ iv', Blk v b 71 (recGC k p d iv') /\ IvOk L v iv' := by
 rcases h.page b _ hb with h1 | ⟨cs', _, ⟨iv', rfl, h3⟩, h4⟩
 ·exact ⟨iv, h1, hi.fill h⟩
 ·exact ⟨iv', h4, h3⟩
theorem fill_sixteenG {N b : Nat} {G : List Value -> World -> Prop} {u v : World} (h : Fill N 71 G u v) (hb : ∃ cs : List Value, cs.length = 16 /\ Blk u b 71 cs) : ∃ cs : List Value, cs.length = 16 /\ Blk v b 71 cs := by
 obtain ⟨cs, h1, h2⟩ := hb;obtain ⟨cs', h3, h4⟩ := h.some h2;exact ⟨cs', h3.trans h1, h4⟩
def lk16 (j : Nat) : Nat := if j = 16 then 15 else j
def Pl.entered (S : Pl) (R : Rcd) (b : Bool) : Pl × Rcd × Bool :=
 if (aboveI R.kind R.imgs).2.2 = false then (S.fin 0 S.hit [] [], R, b)
 else ({ S with level := S.level + 1, ent := (aboveI R.kind R.imgs).1, item := (sepN (aboveI R.kind R.imgs).1 (aboveI R.kind R.imgs).2.1).1 }.down 6, R, true)
def Pl.enters (S : Pl) (R : Rc) : Pl × Rcd × Bool :=
 if R.2 = 0 then S.entered (rdOf R.1 S.own) true
 else if R.2 = 150 then (S.fin 0 S.hit [] [], noRd, false)
 else if R.2 = 1 then (S.fin 224 false [] [], noRd, false)
 else (S.odd, noRd, false)
def Pl.enter (S : Pl) (P : Pg) (fr : List Int) : Pl × Rcd × Bool :=
 if (S.way P S.level S.ent).2 = false then ((S.way P S.level S.ent).1, noRd, false)
 else (S.way P S.level S.ent).1.enters (enterN P (S.way P S.level S.ent).1.wpg (S.way P S.level S.ent).1.item fr)
theorem way_there {S : Pl} {P : Pg} {l : Int} {e : En} (h : (S.way P l e).2 = true) : (S.way P l e).1 = { S with seen := S.seen + 1 } /\ 0 <= l /\ l <= 255 := by
 unfold Pl.way at h ⊢
 split at h
 ·simp at h
 ·rename_i h1
  split at h
  ·simp at h
  ·rename_i h2
   rw [if_neg h1, if_neg h2];refine ⟨rfl, ?_⟩;unfold wayN at h1 h2
   split at h1
   ·rename_i h3
    rw [if_pos h3] at h2;simp only [Bool.and_eq_true, decide_eq_true_eq] at h3;have hf := open_fine h3.1;have := hf.2.2.2.2.1;omega
   ·simp at h1
attribute [local go_sem] givesV lookV knAt hgs
theorem enter_res9 (tm : Array Value) (w : World) (b : Nat) (g : Bool) (R : Rcd) (iv : Value) (h8 : tm.getD 8 undef = .pointer (some ⟨b, 0, none⟩)) (h9 : tm.getD 9 undef = .bool g) (hB : Blk w b 71 (rdC R iv)) :
  (results Tryz.f102 tm).run Tryz.prog w = .ok (.tuple #[rdV R iv, .bool g]) w := by
 unfold rdC at hB;obtain ⟨⟨s0_, s1_, s2_, s3_, s4_, s5_, s6_, s7_, s8_, s9_, s10_, s11_, s12_, s13_, s14_, s15_⟩, _⟩ := recres hB;simp only [Array.getD_eq_getD_getElem?] at h8 h9;simp [results, Tryz.results102, go_sem, h8, h9, s0_, s1_, s2_, s3_, s4_, s5_, s6_, s7_, s8_, s9_, s10_, s11_, s12_, s13_, s14_, s15_, rdV]
theorem PlR.other {bs b t : Nat} {w w' : World} {S : Pl} {rv ov lv : Value} {cs : List Value} (h : PlR bs w S rv ov lv) (k : But b w w') (hb : Blk w b t cs) (h2 : t ≠ 46) (h3 : t ≠ 103) : PlR bs w' S rv ov lv :=
 ⟨rowS_typ h.rr k hb h2, owns_but h.rows k (own_ne_typ h.rows hb h2), ⟨rowS_typ h.left.1 k hb h3, h.left.2⟩, h.none⟩
theorem st_img {bs pb b : Nat} {S : Pl} {R : Rcd} {g : Bool} {iv : Value} {w w3 w4 : World} {cs : List Value} (hT : PlT bs pb w3 S) (hS : Sel bs pb w w3) (k : But b w3 w4) (hb : w.heap.size <= b) (hB : Blk w3 b 71 cs) (hl : bs <= w.heap.size) (hi : IvOk R.imgs w3 iv) :
  StPost bs pb S R g w (.returned (.tuple #[rdV R iv, .bool g])) w4 := by
 obtain ⟨T, h1, h2, h3⟩ := hi.but k hB;exact ⟨iv, T, rfl, h1, h2, h3, hT.other k hB (by decide) (by decide) (by decide), hS.other k hb hl⟩
set_option maxRecDepth 100000 in
set_option maxHeartbeats 16000000 in
theorem plenter_any (bs pb : Nat) (S : Pl) (v : Vw) (av rv iv : Value) (P : Pg) (jv fv : Value) (fr : List Int) (w_ : World) (h : PlT bs pb w_ S) (hv : VwIn w_ v av rv iv) (hpk : PgK bs pb w_ jv P) (hcap : Capd jv) (hfk : ∀ w', Sel bs pb w_ w' -> Ints w' fv fr) (hfl : (fr.length : Int) <= 4611686018427387904) (hit : (S.item.length : Int) <= 140737488355328) (hs : 0 <= S.seen /\ S.seen <= 4096) :
  Calls Tryz.prog 102 #[.pointer (some ⟨pb, 0, none⟩), vwV v av rv iv, pgV P jv, fv] w_ (StPost bs pb (S.enter P fr).1 (S.enter P fr).2.1 (S.enter P fr).2.2 w_) := by
 have hin := hpk w_ (Sel.refl _ _ _);obtain ⟨fa, fc, rfl, -⟩ := ints_form (hfk w_ (Sel.refl _ _ _));obtain ⟨w0, hw0⟩ : ∃ w0, w0 = ((w_.alloc (.cells (vwCells v av rv iv).toArray 40)).alloc (.cells (pgCells P jv).toArray 28)).alloc (.cells zC.toArray 71) := ⟨_, rfl⟩;obtain ⟨hg0, hV0, hP0, hR0⟩ := vpr_new v av rv iv P jv w_ w0 hw0;obtain ⟨iva, ivc, rfl⟩ := items_form hv.items;obtain ⟨rva, rvc, rfl, _⟩ := ints_form hv.run;obtain ⟨ava, avc, rfl, _⟩ := ints_form hv.act;obtain ⟨jva, jvc, rfl⟩ := items_form hin.1;have HT := keep h;have HG0 := keep hg0;have HV0 := keep hV0;have HP0 := keep hP0;have HR0 := keep hR0;have HIn := keep hin;have HVw := keep hv;have HPK := keep hpk;have HFK := keep hfk;have HFl := keep hfl;have hw := fun (u : World) (hu : Grow w0 u) => plway_any bs pb S P (.slice jva P.items.length jvc) S.level S.ent u ((h.fits hg0).fits hu) ((hin.fits hg0).fits hu) hs
 obtain ⟨R, hR⟩ : ∃ R, S.enter P fr = R := ⟨_, rfl⟩;have hr : R = if (S.way P S.level S.ent).2 = false then ((S.way P S.level S.ent).1, noRd, false) else (S.way P S.level S.ent).1.enters (enterN P (S.way P S.level S.ent).1.wpg (S.way P S.level S.ent).1.item fr) := by rw [<- hR]; rfl
 rw [hR];have hth := fun h => @way_there S P S.level S.ent h
 generalize S.way P S.level S.ent = X at *;obtain ⟨X1, X2⟩ := X;obtain ⟨Q1, Q2, Q3⟩ := R;dsimp only at hw hr hth ⊢;have HTh := keep hth;have HIt := keep hit;have HCap := keep hcap;have HRR := keep hr;obtain ⟨rv0, ov0, lv0, hB, -⟩ := (h.fits hg0).tab;have HPx := keep (fun (u : World) (hu : Grow w0 u) => pgres (hP0.fits hu))
 have HCx := keep (fun (u : World) (hu : Grow w0 u) => (show u.cell? ⟨pb, 23, none⟩ = some (.int .i64 S.level) /\ u.cell? ⟨pb, 24, none⟩ = some (.string (str S.ent.1)) /\ u.cell? ⟨pb, 25, none⟩ = some (.int .i64 S.ent.2.1) /\ u.cell? ⟨pb, 26, none⟩ = some (.int .i64 S.ent.2.2) from
  ⟨(hB.fits hu).cell 23 (by simp [plCells]), (hB.fits hu).cell 24 (by simp [plCells]), (hB.fits hu).cell 25 (by simp [plCells]), (hB.fits hu).cell 26 (by simp [plCells])⟩))
 unfold WyPost pgV enV at hw;have HW := keep hw;clear hw hR hr hth h hg0 hV0 hP0 hR0 hB hv hin hpk hcap hfk hfl hit hs;unfold vwCells pgCells zC at hw0;unfold vwV pgV;go_enter Tryz.func102, Tryz.ntmps102;go_upto_region 1 with fail;rw [<- hw0];clear hw0;refine rgv 10 (by kernel_rfl) (by kernel_rfl) rfl rfl ?_;intro a0 ha0;have hsz : a0.tmps.size = 106 := (size_at ha0).trans rfl;have s0 := slot_at ha0 0 rfl;have s6 := slot_at ha0 6 rfl;have HA0 := keep ha0;clear ha0;apply lxv hsz Grow.refl (by kernel_rfl) rfl
 ·intro xs w hw K hK;go_simp;exact hK
 apply lxv hsz Grow.refl (by kernel_rfl) rfl
 ·intro xs w hw K hK;obtain ⟨p0, p1, p2, p3, p4, p5, _⟩ := HPx.out w hw.undrew;go_simp;exact hK
 iterate 3
  apply lxv hsz Grow.refl (by kernel_rfl) rfl
  ·intro xs w hw K hK;go_simp;exact hK
 apply lxv hsz Grow.refl (by kernel_rfl) rfl
 ·intro xs w hw K hK;obtain ⟨c23, c24, c25, c26⟩ := HCx.out w hw.undrew;go_simp;exact hK
 iterate 3
  apply lxv hsz Grow.refl (by kernel_rfl) rfl
  ·intro xs w hw K hK;go_simp;exact hK
 apply lxv hsz Grow.refl (by kernel_rfl) rfl
 ·intro xs w hw K hK;obtain ⟨c23, c24, c25, c26⟩ := HCx.out w hw.undrew;go_simp;exact hK
 refine rgd [] (by kernel_rfl) rfl ?_;intro xs w hw hp;have ha0 := HA0.out;clear HA0 hsz s0 s6;clear hp;subst ha0;simp only [putV];have HGa := keep (show Grow w0 w from hw.undrew);clear hw HPx HCx;generalize w = wa at *;go_wp2_with fail;refine (HW.out wa HGa.out).mono ?_;rintro x w1 ⟨rfl, h1, h2⟩;have HT1 := keep h1;have HS1 := keep (Sel.trans (Sel.of_grow (Nat.le_trans HT.out.low HG0.out.size) HGa.out) h2);have HSa := keep ((Sel.of_grow HT.out.low HG0.out).trans HS1.out);clear h1 h2 HW;cases X2 with
 | false =>
  have hRR := HRR.out;rw [if_pos rfl] at hRR;obtain ⟨rfl, rfl, rfl⟩ : Q1 = X1 /\ Q2 = noRd /\ Q3 = false := by cases hRR; exact ⟨rfl, rfl, rfl⟩
  clear hRR HTh;have HRx := keep (HR0.out.sel HS1.out (by decide) (by decide));unfold zC at HRx;go_wp2_with ((refine wpList_store_rec rfl _ _ rfl (w_.heap.size + 2) _ rfl rfl HRx.out rfl rfl rfl ?_); intro wz hset hbz; have Hset := keep hset; have Hbut := keep hbz; clear hset hbz);refine bodyPost_ret (v := .tuple #[rdV noRd (.slice none 0 0), .bool false]) ?_ rfl ?_
  ·exact enter_res9 _ _ _ _ noRd _ rfl rfl Hset.out
  ·exact st_zero HT1.out HSa.out Hbut.out (by omega) HRx.out HT.out.low
 | true =>
  obtain ⟨hx1, hlv0, hlv1⟩ := HTh.out rfl;have hRR := HRR.out;rw [if_neg (by simp)] at hRR;have HRR2 := keep hRR;have hitm : X1.item = S.item := by rw [hx1]
  have hlvl : X1.level = S.level := by rw [hx1]
  have hit1 : (X1.item.length : Int) <= 140737488355328 := by rw [hitm]; exact HIt.out
  have hlw : wrap64 (X1.level + 1) = X1.level + 1 := by rw [hlvl]; unfold wrap64; omega
  have hlw2 : IntKind.i64.wrap (X1.level + 1) = X1.level + 1 := by rw [hlvl, IntKind.wrap_i64]; omega
  have HLw := keep hlw;have HLw2 := keep hlw2;have hen := fun (u : World) (hu : Grow w1 u) => enter_any P (.slice jva P.items.length jvc) X1.wpg X1.item fr (.slice fa fr.length fc) u (HPK.out u (HSa.out.trans (Sel.of_grow HT1.out.low hu))) HCap.out hit1 (HFK.out u (HSa.out.trans (Sel.of_grow HT1.out.low hu))) HFl.out
  generalize enterN P X1.wpg X1.item fr = Y at *;obtain ⟨⟨kd, pg, dat, imgs⟩, code⟩ := Y;unfold RecPostC pgV at hen;dsimp only at hen;have HEn := keep hen;have HP1 := keep (HP0.out.sel HS1.out (by decide) (by decide));have HR1 := keep (HR0.out.sel HS1.out (by decide) (by decide));have HP1x := keep (fun (u : World) (hu : Grow w1 u) => pgres (HP1.out.fits hu));obtain ⟨rv1, ov1, lv1, hB1, hP1⟩ := HT1.out.tab;have HB1 := keep hB1;have HPl1 := keep hP1
  have HC1x := keep (fun (u : World) (hu : Grow w1 u) => (show u.cell? ⟨pb, 9, none⟩ = some (.int .i64 X1.wpg) /\ u.cell? ⟨pb, 27, none⟩ = some (.string (str X1.item)) /\ u.cell? ⟨pb, 5, none⟩ = some (.int .i64 X1.own) from
   ⟨(HB1.out.fits hu).cell 9 (by simp [plCells]), (HB1.out.fits hu).cell 27 (by simp [plCells]), (HB1.out.fits hu).cell 5 (by simp [plCells])⟩))
  clear hx1 hlv0 hlv1 hRR hit1 hen hB1 hP1 hitm hlvl hlw hlw2 HTh HPK HFK HRR;go_upto_region 3 with fail;refine wp_region_link_named (by kernel_rfl) 17 lk16 (Fill w1.heap.size 71 (GoodR kd pg (str dat) imgs)) (Fill.refl _) (fun _ _ _ => Fill.trans (goodR_stays _ _ _ _)) (by kernel_rfl) (by kernel_rfl) [(29, 0), (30, 1), (31, 2), (32, 3), (33, 4), (34, 5), (35, 6), (36, 7), (37, 8), (38, 9), (39, 10), (40, 11), (28, 12), (41, 13), (42, 14), (10, 15)] (by kernel_rfl) [(0, true), (1, true), (2, true), (3, true), (4, true), (5, true), (6, true), (7, true), (8, true), (9, true), (10, true), (11, true), (12, true), (13, true), (14, true), (15, true), (16, true)] (by kernel_rfl) rfl rfl ?_;intro a0 ha0;have hsz : a0.tmps.size = 106 := (size_at ha0).trans rfl;have s0 := slot_at ha0 0 rfl;have s3 := slot_at ha0 3 rfl;have s6 := slot_at ha0 6 rfl;have HA0 := keep ha0;clear ha0;apply lexkf_eq hsz [] [(30, 1), (31, 2), (32, 3), (33, 4), (34, 5), (35, 6), (36, 7), (37, 8), (38, 9), (39, 10), (28, 12), (41, 13), (42, 14), (10, 15)] none (by kernel_rfl) (by kernel_rfl) (by kernel_rfl) (by kernel_rfl) rfl rfl
  ·intro xs w hw hp K hK;obtain ⟨p0, p1, p2, p3, p4, p5, _⟩ := HP1x.out w (Grow.undrew hw.below);go_simp;exact hK _ (Fill.refl _)
  apply lexkf_eq hsz [] [(29, 0), (32, 3), (33, 4), (34, 5), (35, 6), (36, 7), (37, 8), (38, 9), (39, 10), (40, 11), (28, 12), (41, 13), (42, 14), (10, 15)] none (by kernel_rfl) (by kernel_rfl) (by kernel_rfl) (by kernel_rfl) rfl rfl
  ·intro xs w hw hp K hK;go_simp;exact hK _ (Fill.refl _)
  apply lexkf_eq hsz [(1, true)] [(29, 0), (30, 1), (33, 4), (34, 5), (35, 6), (36, 7), (37, 8), (38, 9), (39, 10), (40, 11), (28, 12), (41, 13), (42, 14), (10, 15)] none (by kernel_rfl) (by kernel_rfl) (by kernel_rfl) (by kernel_rfl) rfl rfl
  ·intro xs w hw hp K hK;simp only [hzk, lk16, reduceIte, Nat.reduceEqDiff] at hp;go_simp;exact hK _ (Fill.refl _)
  apply lexkf_eq hsz [(2, true)] [(29, 0), (30, 1), (31, 2), (34, 5), (35, 6), (36, 7), (37, 8), (38, 9), (39, 10), (40, 11), (28, 12), (41, 13), (42, 14), (10, 15)] none (by kernel_rfl) (by kernel_rfl) (by kernel_rfl) (by kernel_rfl) rfl rfl
  ·intro xs w hw hp K hK;simp only [hzk, lk16, reduceIte, Nat.reduceEqDiff] at hp;go_simp;exact hK _ (Fill.refl _)
  apply lexkf_eq hsz [(3, true)] [(29, 0), (30, 1), (31, 2), (32, 3), (35, 6), (36, 7), (37, 8), (38, 9), (39, 10), (40, 11), (28, 12), (41, 13), (42, 14), (10, 15)] none (by kernel_rfl) (by kernel_rfl) (by kernel_rfl) (by kernel_rfl) rfl rfl
  ·intro xs w hw hp K hK;simp only [hzk, lk16, reduceIte, Nat.reduceEqDiff] at hp;go_simp;exact hK _ (Fill.refl _)
  apply lexkf_eq hsz [(4, true)] [(29, 0), (30, 1), (31, 2), (32, 3), (33, 4), (35, 6), (36, 7), (37, 8), (38, 9), (39, 10), (28, 12), (41, 13), (42, 14), (10, 15)] none (by kernel_rfl) (by kernel_rfl) (by kernel_rfl) (by kernel_rfl) rfl rfl
  ·intro xs w hw hp K hK;simp only [hzk, lk16, reduceIte, Nat.reduceEqDiff] at hp;obtain ⟨c9, c27, c5⟩ := HC1x.out w (Grow.undrew hw.below);go_simp;exact hK _ (Fill.refl _)
  apply lexkf_eq hsz [] [(29, 0), (30, 1), (31, 2), (32, 3), (33, 4), (34, 5), (37, 8), (38, 9), (39, 10), (40, 11), (28, 12), (41, 13), (42, 14), (10, 15)] none (by kernel_rfl) (by kernel_rfl) (by kernel_rfl) (by kernel_rfl) rfl rfl
  ·intro xs w hw hp K hK;go_simp;exact hK _ (Fill.refl _)
  apply lexkf_eq hsz [(6, true)] [(29, 0), (30, 1), (31, 2), (32, 3), (33, 4), (34, 5), (35, 6), (38, 9), (39, 10), (40, 11), (28, 12), (41, 13), (42, 14), (10, 15)] none (by kernel_rfl) (by kernel_rfl) (by kernel_rfl) (by kernel_rfl) rfl rfl
  ·intro xs w hw hp K hK;simp only [hzk, lk16, reduceIte, Nat.reduceEqDiff] at hp;go_simp;exact hK _ (Fill.refl _)
  apply lexkf_eq hsz [(7, true)] [(29, 0), (30, 1), (31, 2), (32, 3), (33, 4), (34, 5), (35, 6), (36, 7), (39, 10), (40, 11), (28, 12), (41, 13), (42, 14), (10, 15)] none (by kernel_rfl) (by kernel_rfl) (by kernel_rfl) (by kernel_rfl) rfl rfl
  ·intro xs w hw hp K hK;simp only [hzk, lk16, reduceIte, Nat.reduceEqDiff] at hp;go_simp;exact hK _ (Fill.refl _)
  apply lexkf_eq hsz [(8, true)] [(29, 0), (30, 1), (31, 2), (32, 3), (33, 4), (34, 5), (35, 6), (36, 7), (37, 8), (39, 10), (28, 12), (41, 13), (42, 14), (10, 15)] none (by kernel_rfl) (by kernel_rfl) (by kernel_rfl) (by kernel_rfl) rfl rfl
  ·intro xs w hw hp K hK;simp only [hzk, lk16, reduceIte, Nat.reduceEqDiff] at hp;obtain ⟨c9, c27, c5⟩ := HC1x.out w (Grow.undrew hw.below);go_simp;exact hK _ (Fill.refl _)
  apply lexkf_eq hsz [] [(29, 0), (30, 1), (31, 2), (32, 3), (33, 4), (34, 5), (35, 6), (36, 7), (37, 8), (38, 9), (28, 12), (41, 13), (42, 14), (10, 15)] none (by kernel_rfl) (by kernel_rfl) (by kernel_rfl) (by kernel_rfl) rfl rfl
  ·intro xs w hw hp K hK;go_simp;exact hK _ (Fill.refl _)
  refine lexkf_says hsz (fun v u => ∃ iv, v = .tuple #[recG kd pg (str dat) iv, .int .i64 code] /\ IvOk imgs u iv) (fun _ _ _ g ⟨iv, h1, h2⟩ => ⟨iv, h1, h2.fill g⟩) [(0, true), (5, true), (9, true), (10, true)] [(29, 0), (30, 1), (31, 2), (32, 3), (33, 4), (34, 5), (35, 6), (36, 7), (37, 8), (38, 9), (39, 10), (41, 13), (42, 14), (10, 15)] none (by kernel_rfl) (by kernel_rfl) (by kernel_rfl) (by kernel_rfl) rfl rfl ?_ ?_
  ·intro xs w hw hp K hK;simp only [hzk, lk16, reduceIte, Nat.reduceEqDiff] at hp;go_simp;exact (HEn.out w (Grow.undrew hw.below)).mono fun e w' ⟨iv, T, h1, h2, h3, h4, h5⟩ => ⟨_, h1, hK _ _ ⟨iv, rfl, T, h2, h3, h5⟩ (Fill.of_grow h4 hw.below.size)⟩
  refine lexkf_says hsz (fun v u => ∃ iv, v = .tuple #[recG kd pg (str dat) iv, .int .i64 code] /\ IvOk imgs u iv) (fun _ _ _ g ⟨iv, h1, h2⟩ => ⟨iv, h1, h2.fill g⟩) [(11, true)] [(29, 0), (30, 1), (31, 2), (32, 3), (33, 4), (34, 5), (35, 6), (36, 7), (37, 8), (38, 9), (39, 10), (40, 11), (10, 15)] none (by kernel_rfl) (by kernel_rfl) (by kernel_rfl) (by kernel_rfl) rfl rfl ?_ ?_
  ·intro xs w hw hp K hK;simp only [hzk, lk16, reduceIte, Nat.reduceEqDiff] at hp;obtain ⟨iv8, h8, hit⟩ := hp;go_simp;exact hK _ _ ⟨iv8, rfl, hit⟩ (Fill.refl _)
  refine lexkf_says hsz (fun v u => ∃ iv, v = recG kd pg (str dat) iv /\ IvOk imgs u iv) (fun _ _ _ g ⟨iv, h1, h2⟩ => ⟨iv, h1, h2.fill g⟩) [(12, true)] [(29, 0), (30, 1), (31, 2), (32, 3), (33, 4), (34, 5), (35, 6), (36, 7), (37, 8), (38, 9), (39, 10), (40, 11), (28, 12), (42, 14), (10, 15)] none (by kernel_rfl) (by kernel_rfl) (by kernel_rfl) (by kernel_rfl) rfl rfl ?_ ?_
  ·intro xs w hw hp K hK;simp only [hzk, lk16, reduceIte, Nat.reduceEqDiff] at hp;obtain ⟨iv8, h8, hit⟩ := hp;unfold recG at h8;go_simp;exact hK _ _ ⟨iv8, rfl, hit⟩ (Fill.refl _)
  refine lexkf_says hsz (fun v _ => v = .int .i64 code) (fun _ _ _ _ h => h) [(12, true)] [(29, 0), (30, 1), (31, 2), (32, 3), (33, 4), (34, 5), (35, 6), (36, 7), (37, 8), (38, 9), (39, 10), (40, 11), (28, 12), (41, 13), (10, 15)] none (by kernel_rfl) (by kernel_rfl) (by kernel_rfl) (by kernel_rfl) rfl rfl ?_ ?_
  ·intro xs w hw hp K hK;simp only [hzk, lk16, reduceIte, Nat.reduceEqDiff] at hp;obtain ⟨iv8, h8, hit⟩ := hp;unfold recG at h8;go_simp;exact hK _ _ rfl (Fill.refl _)
  refine lexkf_says hsz (fun v u => ∃ b, v = .pointer (some ⟨b, 0, none⟩) /\ w1.heap.size <= b /\ ∃ cs : List Value, cs.length = 16 /\ Blk u b 71 cs) (fun _ _ _ g ⟨b, h1, h2, h3⟩ => ⟨b, h1, h2, fill_sixteenG g h3⟩) [] [(29, 0), (30, 1), (31, 2), (32, 3), (33, 4), (34, 5), (35, 6), (36, 7), (37, 8), (38, 9), (39, 10), (40, 11), (28, 12), (41, 13), (42, 14)] none (by kernel_rfl) (by kernel_rfl) (by kernel_rfl) (by kernel_rfl) rfl rfl ?_ ?_
  ·intro xs w hw hp K hK;go_simp;exact hK _ _ ⟨_, rfl, hw.below.size, _, rfl, Blk.new w _ [.int .i64 0, .int .i64 0, .int .i64 0, .int .u8 0, .int .i64 0, .int .i64 0, .int .i64 0, .int .i64 0, .int .i64 0, .int .i64 0, .string ⟨#[]⟩, .slice none 0 0, .slice none 0 0, .slice none 0 0, .slice none 0 0, .slice none 0 0]⟩ (Fill.of_grow ((Grow.refl w).alloc _) hw.below.size)
  refine lexkf_link hsz (fun v u => ∃ b, v = .pointer (some ⟨b, 0, none⟩) /\ w1.heap.size <= b /\ ∃ iv, Blk u b 71 (recGC kd pg (str dat) iv) /\ IvOk imgs u iv) (fun _ _ _ hg ⟨b, h1, h2, iv, h3, h4⟩ => ⟨b, h1, h2, goodR_lasts hg h3 h4⟩) [(13, true), (15, true)] [(29, 0), (30, 1), (31, 2), (32, 3), (33, 4), (34, 5), (35, 6), (36, 7), (37, 8), (38, 9), (39, 10), (40, 11), (28, 12), (41, 13), (42, 14), (10, 15)] none (by kernel_rfl) (by kernel_rfl) (by kernel_rfl) (by kernel_rfl) rfl (by decide) ?_ ?_
  ·intro xs w hw hp K hK;simp only [hzk, lk16, reduceIte, Nat.reduceEqDiff] at hp;obtain ⟨⟨iv', h17, hit⟩, b, h19, hbN, cs, hl, hB⟩ := hp;obtain ⟨a0_, a1_, a2_, a3_, a4_, a5_, a6_, a7_, a8_, a9_, a10_, a11_, a12_, a13_, a14_, a15_, rfl⟩ := len16 hl;obtain ⟨⟨r0_, r1_, r2_, r3_, r4_, r5_, r6_, r7_, r8_, r9_, r10_, r11_, r12_, r13_, r14_, r15_⟩, hz_⟩ := recres hB;have z0_ := hz_ 0;have z1_ := hz_ 1;have z2_ := hz_ 2;have z3_ := hz_ 3;have z4_ := hz_ 4;have z5_ := hz_ 5;have z6_ := hz_ 6;have z7_ := hz_ 7;have z8_ := hz_ 8;have z9_ := hz_ 9;have z10_ := hz_ 10;have z11_ := hz_ 11;have z12_ := hz_ 12;have z13_ := hz_ 13;have z14_ := hz_ 14;have z15_ := hz_ 15;obtain ⟨ja_, jn_, jc_, rfl⟩ := hit.form;have Hset := keep (recset hB (.int .i64 0) (.int .i64 0) (.int .i64 0) (.int .u8 kd) (.int .i64 0) (.int .i64 pg) (.int .i64 0) (.int .i64 0) (.int .i64 0) (.int .i64 0) (.string (str dat)) (.slice none 0 0) (.slice none 0 0) ((.slice ja_ jn_ jc_)) (.slice none 0 0) (.slice none 0 0));have Hbut := keep (recbut w b (.int .i64 0) (.int .i64 0) (.int .i64 0) (.int .u8 kd) (.int .i64 0) (.int .i64 pg) (.int .i64 0) (.int .i64 0) (.int .i64 0) (.int .i64 0) (.string (str dat)) (.slice none 0 0) (.slice none 0 0) ((.slice ja_ jn_ jc_)) (.slice none 0 0) (.slice none 0 0));have Hit2 := keep (hit.but Hbut.out hB);have HB := keep hB;unfold recG at h17;clear hB hl hz_ hit;go_simp
   exact hK _ _ ⟨b, h19, hbN, _, Hset.out, Hit2.out⟩ (Fill.but (cs' := recGC kd pg (str dat) (.slice ja_ jn_ jc_)) Hbut.out hbN hw.below.size HB.out rfl Hset.out ⟨_, rfl, Hit2.out⟩)
  intro xs w hw hp;have ha0 := HA0.out;clear HA0 hsz s0 s3 s6;simp only [hzk, lk16, reduceIte, Nat.reduceEqDiff] at hp;have hM := hp.2.2.2.2.2.2.2.2.2.2.2.2.2.2.1;obtain ⟨b, h19, hbN, ivQ, hQ, hiQ⟩ := hp.2.2.2.2.2.2.2.2.2.2.2.2.2.2.2.2;clear hp;subst ha0;simp only [putAll, hM, h19];obtain ⟨ja, jn, jc, rfl⟩ := hiQ.form;have HG2 := keep (show Grow w1 w from hw.undrew.below);have HQ2 := keep hQ;have HI2 := keep hiQ;generalize w = w2 at *;clear hw hM h19 hQ hiQ HEn HP1x;have HT2 := keep (HT1.out.fits HG2.out);have HB2 := keep (HB1.out.fits HG2.out);have HPl2 := keep (HPl1.out.fits HG2.out);have HR2 := keep (HR1.out.fits HG2.out);have HS2 := keep (HSa.out.trans (Sel.of_grow HT1.out.low HG2.out));have hne1 : b ≠ pb := by
   rintro rfl;have h8 := HB2.out;have h9 := HQ2.out;unfold Blk at h8 h9;rw [h8] at h9;simp at h9
  have HNe := keep hne1;have hbN2 : w_.heap.size + 2 ≠ b := by
   have h8 := HR1.out.lt;omega
  have HNb := keep hbN2;clear hne1 hbN2 HB1 HPl1 HR1 HP1
  by_cases hc0 : code = 0
  ·subst hc0;have hRR := HRR2.out;obtain ⟨c9, c27, c5⟩ := HC1x.out w2 HG2.out;obtain ⟨⟨-, -, -, -, g4, -⟩, hz_⟩ := recres HQ2.out;have z4 := hz_ 4;clear hz_;go_upto_region 14 with fail;obtain ⟨w3, hw3⟩ : ∃ w3, w3 = w2.setCell ⟨b, 4, none⟩ (.int .i64 X1.own) := ⟨_, rfl⟩;rw [<- hw3];have kk := (But.refl b w2).setCell 4 (.int .i64 X1.own);have hQ3 : Blk w3 b 71 (recXC kd X1.own pg (str dat) (.slice ja jn jc)) := by subst hw3; exact HQ2.out.set 4 (.int .i64 X1.own)
   rw [<- hw3] at kk;have HQ3 := keep hQ3;have HI3 := keep (HI2.out.but kk HQ2.out);have HB3 := keep (HB2.out.but kk (fun h => HNe.out h.symm));have HPl3 := keep (HPl2.out.other kk HQ2.out (by decide) (by decide));have HR3 := keep (HR2.out.but kk HNb.out);have HS3 := keep (HS2.out.other kk (by have h1 := HSa.out.size; omega) HT.out.low);have hRR3 : (Q1, Q2, Q3) = if (aboveI kd imgs).2.2 = false then (X1.fin 0 X1.hit [] [], rdOf (kd, pg, dat, imgs) X1.own, true) else ({ X1 with level := X1.level + 1, ent := (aboveI kd imgs).1, item := (sepN (aboveI kd imgs).1 (aboveI kd imgs).2.1).1 }.down 6, rdOf (kd, pg, dat, imgs) X1.own, true) := by
    have h := hRR;unfold Pl.enters Pl.entered at h;rw [if_pos rfl] at h;exact h
   obtain ⟨T, hT, hTi, -⟩ := HI3.out;have hab := above_rec kd X1.own pg (str dat) (.slice ja jn jc) T w3 hTi.weak;unfold AbovePost at hab;rw [above_drop, hT] at hab;generalize aboveI kd imgs = A at *;obtain ⟨⟨ek, ep, es⟩, ch, more⟩ := A;unfold recX enV at hab;dsimp only at hab hRR3;have HAb := keep hab;have HRR3 := keep hRR3;clear hRR hRR3 hab hT hTi hw3 kk hQ3 c9 c27 c5 g4 z4 HQ2 HI2 HB2 HPl2 HR2 HS2 HT2;unfold recXC at HQ3;go_wp2_with (refine wpList_load_rd rfl _ rfl b rfl HQ3.out rfl ?_);refine HAb.out.mono ?_;rintro x w4 ⟨rfl, hb4⟩;clear HAb;go_upto_region 15 with fail;obtain ⟨w5, hw5⟩ : ∃ w5, w5 = w4.alloc (.cells #[.string (str ek), .int .i64 ep, .int .i64 es] 103) := ⟨_, rfl⟩;rw [<- hw5];have hg5 : Grow w3 w5 := by subst hw5; exact Grow.trans hb4 ((Grow.refl _).alloc _)
   have hE5 : Blk w5 w4.heap.size 103 [.string (str ek), .int .i64 ep, .int .i64 es] := by subst hw5; exact Blk.new w4 _ [_, _, _]
   have hnE : w4.heap.size ≠ pb := by
    have h1 := HB3.out.lt;have h2 := hb4.size;omega
   generalize w4.heap.size = be at *;have HB5 := keep (HB3.out.fits hg5);have HPl5 := keep (HPl3.out.fits hg5);have HRe := keep (HR3.out.fits hg5);have HQ5 := keep (HQ3.out.fits hg5);have HI5 := keep (HI3.out.fits hg5);have HL3 : bs <= w3.heap.size := Nat.le_trans HT.out.low HS3.out.size;have HSe := keep (HS3.out.trans (Sel.of_grow HL3 hg5));have HT5 := keep (show PlT bs pb w5 X1 from ⟨Nat.le_trans HL3 hg5.size, _, _, _, HB5.out, HPl5.out⟩);have HE5 := keep hE5;have HNE := keep hnE;clear hw5 hg5 hE5 hb4 hnE HL3 HB3 HPl3 HR3 HQ3 HI3 HS3;cases more with
   | false =>
    have hRR4 := HRR3.out;rw [if_pos rfl] at hRR4;obtain ⟨hq1, rfl, rfl⟩ : Q1 = X1.fin 0 X1.hit [] [] /\ Q2 = rdOf (kd, pg, dat, imgs) X1.own /\ Q3 = true := by cases hRR4; exact ⟨rfl, rfl, rfl⟩
    have HRQ := keep hq1;have hB5 := HB5.out;have c19 := hB5.cell 19 (by simp [plCells]);simp only [plCells, List.getElem_cons_zero, List.getElem_cons_succ] at c19;clear hRR4 hq1 hB5;have hen := end_any bs pb X1 0 X1.hit [] (.slice none 0 0) [] w5 HT5.out (rows_nilS _);rw [<- HRQ.out] at hen
    try unfold rpV at hen
    unfold PlPost at hen
    try rw [str_nilS] at hen
    have HEnd := keep hen;clear hen;go_wp2_with fail;refine HEnd.out.mono ?_;rintro x w6 ⟨rfl, h1, h2⟩;have HT6 := keep h1;have HS6 := keep h2;clear h1 h2 HEnd;have HRx := keep (HRe.out.sel HS6.out (by decide) (by decide));have HRb := keep (HQ5.out.sel HS6.out (by decide) (by decide));have HIb := keep (HI5.out.sel HS6.out);unfold zC at HRx;go_wp2_with (first | (refine wpList_load_rd rfl _ rfl b rfl HRb.out rfl ?_) | (refine wpList_store_rec rfl _ _ rfl (w_.heap.size + 2) _ rfl rfl HRx.out rfl rfl rfl ?_; intro wz hset hbz; have Hset := keep hset; have Hbut := keep hbz; clear hset hbz))
    refine bodyPost_ret (v := .tuple #[rdV (rdOf (kd, pg, dat, imgs) X1.own) (.slice ja jn jc), .bool true]) ?_ rfl ?_
    ·exact enter_res9 _ _ _ _ (rdOf (kd, pg, dat, imgs) X1.own) _ rfl rfl Hset.out
    ·exact st_img HT6.out (HSe.out.trans HS6.out) Hbut.out (by omega) HRx.out HT.out.low HIb.out
   | true =>
    have hRR4 := HRR3.out;rw [if_neg (by simp)] at hRR4;obtain ⟨hq1, rfl, rfl⟩ : Q1 = ({ X1 with level := X1.level + 1, ent := (ek, ep, es), item := (sepN (ek, ep, es) ch).1 } : Pl).down 6 /\ Q2 = rdOf (kd, pg, dat, imgs) X1.own /\ Q3 = true := by cases hRR4; exact ⟨rfl, rfl, rfl⟩
    have HRQ := keep hq1;have hB5 := HB5.out;have c23 := hB5.cell 23 (by simp [plCells]);have c24 := hB5.cell 24 (by simp [plCells]);have c25 := hB5.cell 25 (by simp [plCells]);have c26 := hB5.cell 26 (by simp [plCells]);simp only [plCells, List.getElem_cons_zero, List.getElem_cons_succ] at c23 c24 c25 c26;have z23 := hB5.free 23;have z24 := hB5.free 24;have z25 := hB5.free 25;have z26 := hB5.free 26;obtain ⟨q0, q1, q2, _⟩ := enres HE5.out;have hne := HNE.out;have hne' := fun h : pb = be => HNE.out h.symm
    have hlw := HLw.out;have hlw2 := HLw2.out;clear hRR4 hq1 hB5;go_upto_region 20 with fail;obtain ⟨w6, hw6⟩ : ∃ w6, w6 = (((w5.setCell ⟨pb, 23, none⟩ (.int .i64 (X1.level + 1))).setCell ⟨pb, 24, none⟩ (.string (str ek))).setCell ⟨pb, 25, none⟩ (.int .i64 ep)).setCell ⟨pb, 26, none⟩ (.int .i64 es) := ⟨_, rfl⟩;rw [<- hw6];have h9 : Blk w6 pb 111 (plCells { X1 with level := X1.level + 1, ent := (ek, ep, es) } (stageV pb X1.st) rv1 ov1 lv1) /\ PlR bs w6 { X1 with level := X1.level + 1, ent := (ek, ep, es) } rv1 ov1 lv1 /\ Sel bs pb w5 w6 := by
     have kk := ((((But.refl pb w5).setCell 23 (.int .i64 (X1.level + 1))).setCell 24 (.string (str ek))).setCell 25 (.int .i64 ep)).setCell 26 (.int .i64 es);have hB' := (((HB5.out.set 23 (.int .i64 (X1.level + 1))).set 24 (.string (str ek))).set 25 (.int .i64 ep)).set 26 (.int .i64 es);have h2 := HPl5.out.but kk HB5.out;have hse := Sel.but kk HB5.out (.inl ⟨rfl, rfl⟩) HT5.out.low;subst hw6;exact ⟨hB', ⟨h2.rr, h2.rows, h2.left, h2.none⟩, hse⟩
    obtain ⟨hB6, hP6, hS6⟩ := h9;have hE6 := HE5.out.sel hS6 (by decide) (by decide);clear q0 q1 q2 c23 c24 c25 c26 z23 z24 z25 z26 hne hne' hlw hlw2;obtain ⟨q0, q1, q2, _⟩ := enres hE6;have hec := sep_any (ek, ep, es) ch w6;generalize sepN (ek, ep, es) ch = En at *;obtain ⟨it, ic'⟩ := En;unfold enV at hec;dsimp only at hec;have HEc := keep hec;have HB6 := keep hB6;have HP6 := keep hP6;have HS6 := keep hS6;clear hB6 hP6 hS6 hE6 hec hw6;go_wp2_with fail;refine HEc.out.mono ?_;rintro x w7 ⟨rfl, hb7⟩;have hB7 := HB6.out.fits hb7;have hP7 := HP6.out.fits hb7;clear q0 q1 q2;have c27 := hB7.cell 27 (by simp [plCells]);simp only [plCells, List.getElem_cons_zero, List.getElem_cons_succ] at c27;have z27 := hB7.free 27;have HB7 := keep hB7;have HP7 := keep hP7;have HS7 := keep (HS6.out.trans (Sel.of_grow (Nat.le_trans HT5.out.low HS6.out.size) hb7));clear hB7 hP7 hb7 HEc HB6 HP6 HS6;go_upto_region 21 with fail;obtain ⟨w8, hw8⟩ : ∃ w8, w8 = w7.setCell ⟨pb, 27, none⟩ (.string (str it)) := ⟨_, rfl⟩;rw [<- hw8];have h9 : PlT bs pb w8 { X1 with level := X1.level + 1, ent := (ek, ep, es), item := it } /\ Sel bs pb w7 w8 := by
     have kk := (But.refl pb w7).setCell 27 (.string (str it));have hB' := HB7.out.set 27 (.string (str it));have h2 := HP7.out.but kk HB7.out;have hlw : bs <= w7.heap.size := Nat.le_trans HT5.out.low HS7.out.size;have hse := Sel.but kk HB7.out (.inl ⟨rfl, rfl⟩) hlw;subst hw8;exact ⟨⟨Nat.le_trans hlw kk.size, rv1, ov1, lv1, hB', ⟨h2.rr, h2.rows, h2.left, h2.none⟩⟩, hse⟩
    obtain ⟨hT8, hS8⟩ := h9;have hmf : ∀ (fn : Fn) (first cap : Array Value) (w : World), (Instr.makeFunc fn first cap).run Tryz.prog w = .ok (.func fn first cap) w := fun _ _ _ _ => rfl
    have hd := down_any bs pb { X1 with level := X1.level + 1, ent := (ek, ep, es), item := it } 6 w8 hT8;rw [<- HRQ.out] at hd;unfold stageV PlPost at hd;have HD := keep hd;have HS8 := keep (HS7.out.trans hS8);clear hd hT8 hS8 hw8 c27 z27 HB7 HP7 HS7;go_wp2_with fail;refine HD.out.mono ?_;rintro x w9 ⟨rfl, h1, h2⟩;have HT6 := keep h1;have HS6 := keep (HS8.out.trans h2);clear h1 h2 HD HS8;have HRx := keep (HRe.out.sel HS6.out (by decide) (by decide));have HRb := keep (HQ5.out.sel HS6.out (by decide) (by decide));have HIb := keep (HI5.out.sel HS6.out);unfold zC at HRx;go_wp2_with (first | (refine wpList_load_rd rfl _ rfl b rfl HRb.out rfl ?_) | (refine wpList_store_rec rfl _ _ rfl (w_.heap.size + 2) _ rfl rfl HRx.out rfl rfl rfl ?_; intro wz hset hbz; have Hset := keep hset; have Hbut := keep hbz; clear hset hbz))
    refine bodyPost_ret (v := .tuple #[rdV (rdOf (kd, pg, dat, imgs) X1.own) (.slice ja jn jc), .bool true]) ?_ rfl ?_
    ·exact enter_res9 _ _ _ _ (rdOf (kd, pg, dat, imgs) X1.own) _ rfl rfl Hset.out
    ·exact st_img HT6.out (HSe.out.trans HS6.out) Hbut.out (by omega) HRx.out HT.out.low HIb.out
  ·by_cases hc1 : code = 150
   ·subst hc1;have hRR : (Q1, Q2, Q3) = (X1.fin 0 X1.hit [] [], noRd, false) := by
     have h := HRR2.out;unfold Pl.enters at h;rw [if_neg (show ¬ (150 : Int) = 0 by decide), if_pos rfl] at h;exact h
    obtain ⟨hq1, rfl, rfl⟩ : Q1 = X1.fin 0 X1.hit [] [] /\ Q2 = noRd /\ Q3 = false := by cases hRR; exact ⟨rfl, rfl, rfl⟩
    have HRQ := keep hq1;clear hc0 hRR hq1;go_upto_region 14 with ((refine wpList_store_rec rfl _ _ rfl b _ rfl rfl HQ2.out rfl rfl rfl ?_); intro wz hset hbz; have Hset1 := keep hset; have Hbut1 := keep hbz; clear hset hbz);have HB3 := keep (HB2.out.but Hbut1.out (fun h => HNe.out h.symm));have HPl3 := keep (HPl2.out.other Hbut1.out HQ2.out (by decide) (by decide));have HR3 := keep (HR2.out.but Hbut1.out HNb.out);have HS3 := keep (HS2.out.other Hbut1.out (by have h1 := HSa.out.size; omega) HT.out.low);have HQ3 := keep (show Blk wz b 71 (recXC 0 0 0 ⟨#[]⟩ (.slice none 0 0)) from Hset1.out);have hab := above_rec 0 0 0 ⟨#[]⟩ (.slice none 0 0) [] wz (ImgsC.nil _).weak;unfold AbovePost at hab;rw [above_drop, show aboveI 0 (([] : List Im).map dropV) = (leastE, 0, false) from rfl] at hab;unfold recX enV leastE at hab;dsimp only at hab;have HAb := keep hab;clear hab Hset1 HQ2 HI2 HB2 HPl2 HR2 HS2 HT2;unfold recXC at HQ3;go_wp2_with (refine wpList_load_rd rfl _ rfl b rfl HQ3.out rfl ?_);refine HAb.out.mono ?_;rintro x w4 ⟨rfl, hb4⟩;clear HAb;go_upto_region 15 with fail;obtain ⟨w5, hw5⟩ : ∃ w5, w5 = w4.alloc (.cells #[.string (str []), .int .i64 0, .int .i64 0] 103) := ⟨_, rfl⟩;rw [<- hw5];have hg5 : Grow wz w5 := by subst hw5; exact Grow.trans hb4 ((Grow.refl _).alloc _)
    have HB5 := keep (HB3.out.fits hg5);have HPl5 := keep (HPl3.out.fits hg5);have HRe := keep (HR3.out.fits hg5);have HQ5 := keep (HQ3.out.fits hg5);have HI5 := keep (show IvOk [] w5 (.slice none 0 0) from ⟨[], rfl, ImgsC.nil _, fun _ => rfl⟩);have HL3 : bs <= wz.heap.size := Nat.le_trans HT.out.low HS3.out.size;have HSe := keep (HS3.out.trans (Sel.of_grow HL3 hg5));have HT5 := keep (show PlT bs pb w5 X1 from ⟨Nat.le_trans HL3 hg5.size, _, _, _, HB5.out, HPl5.out⟩);have hB5 := HB5.out;have c19 := hB5.cell 19 (by simp [plCells]);simp only [plCells, List.getElem_cons_zero, List.getElem_cons_succ] at c19;clear hB5 hw5 hg5 hb4 HL3;have hen := end_any bs pb X1 0 X1.hit [] (.slice none 0 0) [] w5 HT5.out (rows_nilS _);rw [<- HRQ.out] at hen
    try unfold rpV at hen
    unfold PlPost at hen
    try rw [str_nilS] at hen
    have HEnd := keep hen;clear hen;go_wp2_with fail;refine HEnd.out.mono ?_;rintro x w6 ⟨rfl, h1, h2⟩;have HT6 := keep h1;have HS6 := keep h2;clear h1 h2 HEnd;have HRx := keep (HRe.out.sel HS6.out (by decide) (by decide));have HRb := keep (HQ5.out.sel HS6.out (by decide) (by decide));have HIb := keep (HI5.out.sel HS6.out);unfold zC at HRx;go_wp2_with (first | (refine wpList_load_rd rfl _ rfl b rfl HRb.out rfl ?_) | (refine wpList_store_rec rfl _ _ rfl (w_.heap.size + 2) _ rfl rfl HRx.out rfl rfl rfl ?_; intro wz hset hbz; have Hset := keep hset; have Hbut := keep hbz; clear hset hbz))
    refine bodyPost_ret (v := .tuple #[rdV (noRd) (.slice none 0 0), .bool false]) ?_ rfl ?_
    ·exact enter_res9 _ _ _ _ (noRd) _ rfl rfl Hset.out
    ·exact st_img HT6.out (HSe.out.trans HS6.out) Hbut.out (by omega) HRx.out HT.out.low HIb.out
   ·have e0 : (code == 0) = false := by simpa using hc0
    have e1 : (code == 150) = false := by simpa using hc1
    have HRe := keep HR2.out;have HSe := keep HS2.out
    by_cases hc2 : code = 1
    ·subst hc2;have hRR : (Q1, Q2, Q3) = (X1.fin 224 false [] [], noRd, false) := by
      have h := HRR2.out;unfold Pl.enters at h;rw [if_neg (show ¬ (1 : Int) = 0 by decide), if_neg (show ¬ (1 : Int) = 150 by decide), if_pos rfl] at h;exact h
     obtain ⟨hq1, rfl, rfl⟩ : Q1 = X1.fin 224 false [] [] /\ Q2 = noRd /\ Q3 = false := by cases hRR; exact ⟨rfl, rfl, rfl⟩
     have HRQ := keep hq1;clear hc0 hc1 hRR hq1;have hen := end_any bs pb X1 224 false [] (.slice none 0 0) [] w2 HT2.out (rows_nilS _);rw [<- HRQ.out] at hen
     try unfold rpV at hen
     unfold PlPost at hen
     try rw [str_nilS] at hen
     have HEnd := keep hen;clear hen;go_wp2_with fail;refine HEnd.out.mono ?_;rintro x w6 ⟨rfl, h1, h2⟩;have HT6 := keep h1;have HS6 := keep h2;clear h1 h2 HEnd;have HRx := keep (HRe.out.sel HS6.out (by decide) (by decide));unfold zC at HRx;go_wp2_with ((refine wpList_store_rec rfl _ _ rfl (w_.heap.size + 2) _ rfl rfl HRx.out rfl rfl rfl ?_); intro wz hset hbz; have Hset := keep hset; have Hbut := keep hbz; clear hset hbz);refine bodyPost_ret (v := .tuple #[rdV noRd (.slice none 0 0), .bool false]) ?_ rfl ?_
     ·exact enter_res9 _ _ _ _ noRd _ rfl rfl Hset.out
     ·exact st_zero HT6.out (HSe.out.trans HS6.out) Hbut.out (by omega) HRx.out HT.out.low
    ·have e2 : (code == 1) = false := by simpa using hc2
     have hRR : (Q1, Q2, Q3) = (X1.odd, noRd, false) := by
      have h := HRR2.out;unfold Pl.enters at h;rw [if_neg hc0, if_neg hc1, if_neg hc2] at h;exact h
     obtain ⟨hq1, rfl, rfl⟩ : Q1 = X1.odd /\ Q2 = noRd /\ Q3 = false := by cases hRR; exact ⟨rfl, rfl, rfl⟩
     have HRQ := keep hq1;clear hc0 hc1 hc2 hRR hq1;have hen := odd_any bs pb X1 w2 HT2.out;rw [<- HRQ.out] at hen
     try unfold rpV at hen
     unfold PlPost at hen
     try rw [str_nilS] at hen
     have HEnd := keep hen;clear hen;go_wp2_with fail;refine HEnd.out.mono ?_;rintro x w6 ⟨rfl, h1, h2⟩;have HT6 := keep h1;have HS6 := keep h2;clear h1 h2 HEnd;have HRx := keep (HRe.out.sel HS6.out (by decide) (by decide));unfold zC at HRx;go_wp2_with ((refine wpList_store_rec rfl _ _ rfl (w_.heap.size + 2) _ rfl rfl HRx.out rfl rfl rfl ?_); intro wz hset hbz; have Hset := keep hset; have Hbut := keep hbz; clear hset hbz);refine bodyPost_ret (v := .tuple #[rdV noRd (.slice none 0 0), .bool false]) ?_ rfl ?_
     ·exact enter_res9 _ _ _ _ noRd _ rfl rfl Hset.out
     ·exact st_zero HT6.out (HSe.out.trans HS6.out) Hbut.out (by omega) HRx.out HT.out.low
end Go.Proofs.YtcdapdcablnhpaaGreat
namespace Go.Proofs.YtcdapdcablnhpaaGreat
open Go.RowKit
set_option maxRecDepth 100000 in
theorem isKey_any (k : List UInt8) (w : World) : Calls Tryz.prog 90 #[.string (str k)] w fun x w' => x = .returned (.bool (isKeyB k)) /\ Below w.heap.size w w' := by
 obtain ⟨R, hR⟩ : ∃ R, isKeyB k = R := ⟨_, rfl⟩;have hr : R = (decide (0 < k.length) && decide (k.length <= 24)) := by rw [<- hR]; rfl
 rw [hR];have HR := keep hr;clear hR hr;go_enter Tryz.func90, Tryz.ntmps90;cases h1 : decide (0 < k.length) with
 | false =>
  go_wp2_with fail;go_ret;exact ⟨by rw [HR.out, h1]; rfl, Below.refl _ _⟩
 | true =>
  have ih2 : decide ((k.length : Int) <= 24) = decide (k.length <= 24) := decide_eq_decide.2 (by omega);cases h2 : decide (k.length <= 24) with
  | false =>
   rw [h2] at ih2;go_wp2_with fail;go_ret;exact ⟨by rw [HR.out, h1, h2]; rfl, Below.refl _ _⟩
  | true =>
   rw [h2] at ih2;go_wp2_with fail;go_ret;exact ⟨by rw [HR.out, h1, h2]; rfl, Below.refl _ _⟩
def askV (call : Int) (key upk val : List UInt8) (n : Int) : Value := .agg #[.int .u8 call, .string (str key), .string (str upk), .string (str val), .int .i64 n]
def askC (call : Int) (key upk val : List UInt8) (n : Int) : List Value := [.int .u8 call, .string (str key), .string (str upk), .string (str val), .int .i64 n]
set_option maxRecDepth 100000 in
set_option maxHeartbeats 2000000 in
theorem right_any (call : Int) (key upk val : List UInt8) (n own : Int) (w_ : World) :
  Calls Tryz.prog 45 #[askV call key upk val n, .int .i64 own] w_ fun x w' => x = .returned (.bool (rightB call key upk val n own)) /\ Below w_.heap.size w_ w' := by
 obtain ⟨w0, hw0⟩ : ∃ w0, w0 = w_.alloc (.cells (askC call key upk val n).toArray 52) := ⟨_, rfl⟩;have hg0 : Grow w_ w0 := by subst hw0; exact (Grow.refl w_).alloc _
 have hB0 : Blk w0 w_.heap.size 52 (askC call key upk val n) := by subst hw0; exact Blk.new w_ _ _
 have hk := fun u => isKey_any key u
 obtain ⟨R, hR⟩ : ∃ R, rightB call key upk val n own = R := ⟨_, rfl⟩;have hr : R = if call = 2 then isKeyB key else if call = 3 then (isKeyB key && decide (val.length <= 64)) && decide (0 < own) else if call = 4 then isKeyB key && decide (0 < own)
  else if call = 5 then ((decide (key.length <= 24) && decide (upk.length <= 24)) && decide (0 < n)) && decide (n <= 16) else false := by rw [<- hR]; rfl
 rw [hR];generalize isKeyB key = K at *;have HK := keep hk;have HR := keep hr;have HG0 := keep hg0
 have HB0 := keep (fun (u : World) (hu : Grow w0 u) => (show u.cell? ⟨w_.heap.size, 0, none⟩ = some (.int .u8 call) /\ u.cell? ⟨w_.heap.size, 1, none⟩ = some (.string (str key)) /\ u.cell? ⟨w_.heap.size, 2, none⟩ = some (.string (str upk)) /\ u.cell? ⟨w_.heap.size, 3, none⟩ = some (.string (str val)) /\ u.cell? ⟨w_.heap.size, 4, none⟩ = some (.int .i64 n) from
  ⟨(hB0.fits hu).cell 0 (by simp [askC]), (hB0.fits hu).cell 1 (by simp [askC]), (hB0.fits hu).cell 2 (by simp [askC]), (hB0.fits hu).cell 3 (by simp [askC]), (hB0.fits hu).cell 4 (by simp [askC])⟩))
 clear hR hr hk hg0 hB0;obtain ⟨c0, c1, c2, c3, c4⟩ := HB0.out w0 (Grow.refl _);unfold askC at hw0;unfold askV;go_enter Tryz.func45, Tryz.ntmps45;go_upto_region 1 with fail;rw [<- hw0];clear hw0
 by_cases h2 : call = 2
 ·have HRR := keep (show R = K by rw [HR.out, if_pos h2]);have e2 : (call == 2) = true := by simp [h2]
  clear h2;go_wp2_with fail;refine (HK.out w0).mono ?_;rintro x w1 ⟨rfl, hb⟩;have HG := keep (Grow.trans HG0.out hb);clear c0 c1 c2 c3 c4 hb HK;go_wp2_with fail;go_ret;exact ⟨by rw [HRR.out]; rfl, HG.out⟩
 ·have e2 : (call == 2) = false := by simpa using h2
  by_cases h3 : call = 3
  ·have HRR := keep (show R = ((K && decide (val.length <= 64)) && decide (0 < own)) by rw [HR.out, if_neg h2, if_pos h3]);have e3 : (call == 3) = true := by simp [h3]
   clear h2 h3;go_wp2_with fail;refine (HK.out w0).mono ?_;rintro x w1 ⟨rfl, hb⟩;obtain ⟨c0', c1', c2', c3', c4'⟩ := HB0.out w1 hb;have HG := keep (Grow.trans HG0.out hb);clear c0 c1 c2 c3 c4 hb HK c0' c1' c2' c4';cases K with
   | false =>
    clear c3';go_wp2_with fail;go_ret;exact ⟨by rw [HRR.out]; rfl, HG.out⟩
   | true =>
    have ihv : decide ((val.length : Int) <= 64) = decide (val.length <= 64) := decide_eq_decide.2 (by omega);cases hv : decide (val.length <= 64) with
    | false =>
     rw [hv] at ihv;go_wp2_with fail;go_ret;exact ⟨by rw [HRR.out, hv]; rfl, HG.out⟩
    | true =>
     rw [hv] at ihv;cases ho : decide (0 < own) with
     | false =>
      go_wp2_with fail;go_ret;exact ⟨by rw [HRR.out, hv, ho]; rfl, HG.out⟩
     | true =>
      go_wp2_with fail;go_ret;exact ⟨by rw [HRR.out, hv, ho]; rfl, HG.out⟩
  ·have e3 : (call == 3) = false := by simpa using h3
   by_cases h4 : call = 4
   ·have HRR := keep (show R = (K && decide (0 < own)) by rw [HR.out, if_neg h2, if_neg h3, if_pos h4]);have e4 : (call == 4) = true := by simp [h4]
    clear h2 h3 h4;go_wp2_with fail;refine (HK.out w0).mono ?_;rintro x w1 ⟨rfl, hb⟩;have HG := keep (Grow.trans HG0.out hb);clear c0 c1 c2 c3 c4 hb HK;cases K with
    | false =>
     go_wp2_with fail;go_ret;exact ⟨by rw [HRR.out]; rfl, HG.out⟩
    | true =>
     cases ho : decide (0 < own) with
     | false =>
      go_wp2_with fail;go_ret;exact ⟨by rw [HRR.out, ho]; rfl, HG.out⟩
     | true =>
      go_wp2_with fail;go_ret;exact ⟨by rw [HRR.out, ho]; rfl, HG.out⟩
   ·have e4 : (call == 4) = false := by simpa using h4
    by_cases h5 : call = 5
    ·have HRR := keep (show R = (((decide (key.length <= 24) && decide (upk.length <= 24)) && decide (0 < n)) && decide (n <= 16)) by rw [HR.out, if_neg h2, if_neg h3, if_neg h4, if_pos h5]);have e5 : (call == 5) = true := by simp [h5]
     clear h2 h3 h4 h5;have ihv1 : decide ((key.length : Int) <= 24) = decide (key.length <= 24) := decide_eq_decide.2 (by omega);cases hv1 : decide (key.length <= 24) with
     | false =>
      rw [hv1] at ihv1;go_wp2_with fail;go_ret;exact ⟨by rw [HRR.out, hv1]; rfl, HG0.out⟩
     | true =>
      rw [hv1] at ihv1;have ihv2 : decide ((upk.length : Int) <= 24) = decide (upk.length <= 24) := decide_eq_decide.2 (by omega);cases hv2 : decide (upk.length <= 24) with
      | false =>
       rw [hv2] at ihv2;go_wp2_with fail;go_ret;exact ⟨by rw [HRR.out, hv1, hv2]; rfl, HG0.out⟩
      | true =>
       rw [hv2] at ihv2;cases hv3 : decide (0 < n) with
       | false =>
        go_wp2_with fail;go_ret;exact ⟨by rw [HRR.out, hv1, hv2, hv3]; rfl, HG0.out⟩
       | true =>
        cases hv4 : decide (n <= 16) with
        | false =>
         go_wp2_with fail;go_ret;exact ⟨by rw [HRR.out, hv1, hv2, hv3, hv4]; rfl, HG0.out⟩
        | true =>
         go_wp2_with fail;go_ret;exact ⟨by rw [HRR.out, hv1, hv2, hv3, hv4]; rfl, HG0.out⟩
    ·have e5 : (call == 5) = false := by simpa using h5
     have HRR := keep (show R = false by rw [HR.out, if_neg h2, if_neg h3, if_neg h4, if_neg h5]);clear h2 h3 h4 h5;go_wp2_with fail;go_ret;exact ⟨by rw [HRR.out]; rfl, HG0.out⟩
def NewPost (call : Int) (key upk val : List UInt8) (n own : Int) (w : World) (x : Ending) (w' : World) : Prop :=
 (rightB call key upk val n own = false /\ x = .returned (.tuple #[.pointer none, .int .i64 1]) /\ Below w.heap.size w w') \/
 (rightB call key upk val n own = true /\ ∃ pb, x = .returned (.tuple #[.pointer (some ⟨pb, 0, none⟩), .int .i64 0]) /\ w.heap.size <= pb /\ PlT w.heap.size pb w' (startS call key upk val n own) /\ Below w.heap.size w w')
theorem Sel.below {bs pb : Nat} {w w' : World} (h : Sel bs pb w w') (hp : bs <= pb) : Below bs w w' := ⟨h.os, h.tape, h.output, h.size, fun k hk => h.low k hk (by omega)⟩
theorem ensS_nil (w : World) : EnsS w (.slice none 0 0) [] := RowS.nil _ _ _ _
set_option maxRecDepth 100000 in
set_option maxHeartbeats 4000000 in
theorem plnew_any (call : Int) (key upk val : List UInt8) (n own : Int) (w_ : World) :
  Calls Tryz.prog 14 #[askV call key upk val n, .int .i64 own] w_ (NewPost call key upk val n own w_) := by
 obtain ⟨w0, hw0⟩ : ∃ w0, w0 = w_.alloc (.cells (askC call key upk val n).toArray 52) := ⟨_, rfl⟩;have hg0 : Grow w_ w0 := by subst hw0; exact (Grow.refl w_).alloc _
 have hB0 : Blk w0 w_.heap.size 52 (askC call key upk val n) := by subst hw0; exact Blk.new w_ _ _
 have hri := fun u => right_any call key upk val n own u
 have hst : startS call key upk val n own = if (Pl.new call key upk val n own).writes then { Pl.new call key upk val n own with wk := 1, wkey := key, wsz := 0, wpg := 0 } else (Pl.new call key upk val n own).look := rfl
 obtain ⟨R, hR⟩ : ∃ R, rightB call key upk val n own = R := ⟨_, rfl⟩;rw [hR] at hri;have HRb := keep hR;unfold askV at hri;have HRi := keep hri;have HSt := keep hst;have HG0 := keep hg0
 have HB0 := keep (fun (u : World) (hu : Grow w0 u) => (show u.cell? ⟨w_.heap.size, 0, none⟩ = some (.int .u8 call) /\ u.cell? ⟨w_.heap.size, 1, none⟩ = some (.string (str key)) /\ u.cell? ⟨w_.heap.size, 2, none⟩ = some (.string (str upk)) /\ u.cell? ⟨w_.heap.size, 3, none⟩ = some (.string (str val)) /\ u.cell? ⟨w_.heap.size, 4, none⟩ = some (.int .i64 n) from
  ⟨(hB0.fits hu).cell 0 (by simp [askC]), (hB0.fits hu).cell 1 (by simp [askC]), (hB0.fits hu).cell 2 (by simp [askC]), (hB0.fits hu).cell 3 (by simp [askC]), (hB0.fits hu).cell 4 (by simp [askC])⟩))
 clear hst hri hR hg0 hB0;obtain ⟨c0, c1, c2, c3, c4⟩ := HB0.out w0 (Grow.refl _);unfold askC at hw0;unfold askV;go_enter Tryz.func14, Tryz.ntmps14;go_upto_region 1 with fail;rw [<- hw0];clear hw0;go_wp2_with fail;refine (HRi.out w0).mono ?_;rintro x w1 ⟨rfl, hb1⟩;have HG1 := keep hb1;clear c0 c1 c2 c3 c4 hb1 HRi;cases R with
 | false =>
  go_wp2_with fail;go_ret2;exact (show NewPost _ _ _ _ _ _ _ _ _ from .inl ⟨HRb.out, rfl, Grow.trans HG0.out HG1.out⟩)
 | true =>
  obtain ⟨c0, c1, c2, c3, c4⟩ := HB0.out w1 HG1.out;go_upto_region 4 with fail;obtain ⟨w2, hw2⟩ : ∃ w2, w2 = w1.alloc (.cells (plCells (Pl.new call key upk val n own) .nilFunc (.slice none 0 0) (.slice none 0 0) (.slice none 0 0)).toArray 111) := ⟨_, rfl⟩;have hg2 : Grow w1 w2 := by subst hw2; exact (Grow.refl _).alloc _
  have hB2 : Blk w2 w1.heap.size 111 (plCells (Pl.new call key upk val n own) .nilFunc (.slice none 0 0) (.slice none 0 0) (.slice none 0 0)) := by subst hw2; exact Blk.new w1 _ _
  simp only [plCells, Pl.new, leastE, str_nilS] at hw2;rw [<- hw2];have HG2 := keep (Grow.trans HG1.out hg2);have hpb : w_.heap.size <= w1.heap.size := (Grow.trans HG0.out HG1.out).size;have HPb := keep hpb;have hT2 : PlT w_.heap.size w1.heap.size w2 (Pl.new call key upk val n own) := ⟨(Grow.trans HG0.out HG2.out).size, _, _, _, hB2, ⟨rows_nilS _, World.ownsRow_nil _ _ _ _, ⟨ensS_nil _, Nat.le_refl _⟩, fun _ => rfl⟩⟩;have HB2 := keep hB2;have HT2 := keep hT2;have hwr := writes_any w_.heap.size w1.heap.size (Pl.new call key upk val n own) w2 hT2;have hlo := fun (u : World) (hu : Grow w2 u) => pllook_any w_.heap.size w1.heap.size (Pl.new call key upk val n own) u (hT2.fits hu)
  have hst := HSt.out;generalize w1.heap.size = pb at *;generalize hS0 : Pl.new call key upk val n own = S0 at *;generalize hW : S0.writes = W at *;unfold PlPost at hlo;have HWr := keep hwr;have HLo := keep hlo;have HSt2 := keep hst;have HS0 := keep hS0;clear c0 c1 c2 c3 c4 hw2 hg2 hB2 hT2 hpb hwr hlo hst hS0 HSt hW;go_wp2_with fail;refine HWr.out.mono ?_;rintro x w3 ⟨rfl, hb3⟩;have HG3 := keep hb3;clear hb3 HWr;cases W with
  | true =>
   obtain ⟨c0, c1, c2, c3, c4⟩ := HB0.out w3 (Grow.trans HG2.out HG3.out);have hB3 := HB2.out.fits HG3.out;have c6 := hB3.cell 6 (by simp [plCells]);have c7 := hB3.cell 7 (by simp [plCells]);have c8 := hB3.cell 8 (by simp [plCells]);have c9 := hB3.cell 9 (by simp [plCells]);simp only [plCells, List.getElem_cons_zero, List.getElem_cons_succ] at c6 c7 c8 c9;have z6 := hB3.free 6;have z7 := hB3.free 7;have z8 := hB3.free 8;have z9 := hB3.free 9;have hfin : ∀ w', w' = (((w3.setCell ⟨pb, 6, none⟩ (.int .i64 1)).setCell ⟨pb, 7, none⟩ (.string (str key))).setCell ⟨pb, 8, none⟩ (.int .i64 0)).setCell ⟨pb, 9, none⟩ (.int .i64 0) -> NewPost call key upk val n own w_ (.returned (.tuple #[.pointer (some ⟨pb, 0, none⟩), .int .i64 0])) w' := by
    rintro w' rfl;have k := ((((But.refl pb w3).setCell 6 (.int .i64 1)).setCell 7 (.string (str key))).setCell 8 (.int .i64 0)).setCell 9 (.int .i64 0);have hB' := (((hB3.set 6 (.int .i64 1)).set 7 (.string (str key))).set 8 (.int .i64 0)).set 9 (.int .i64 0);refine .inr ⟨HRb.out, pb, rfl, HPb.out, ?_, But.below (Grow.trans HG0.out (Grow.trans HG2.out HG3.out)) k HPb.out (Grow.trans HG0.out (Grow.trans HG2.out HG3.out)).size⟩;rw [HSt2.out, if_pos rfl, <- HS0.out];rw [<- HS0.out] at hB';exact ⟨Nat.le_trans (Grow.trans HG0.out (Grow.trans HG2.out HG3.out)).size k.size, _, _, _, hB', ⟨rows_nilS _, World.ownsRow_nil _ _ _ _, ⟨ensS_nil _, Nat.le_refl _⟩, fun _ => rfl⟩⟩
   have HFin := keep hfin;clear hB3 hfin c0 c2 c3 c4;go_wp2_with fail;go_ret2;exact HFin.out _ rfl
  | false =>
   go_wp2_with fail;refine (HLo.out w3 HG3.out).mono ?_;rintro x w4 ⟨rfl, h1, h2⟩;have HT4 := keep h1;have HS4 := keep h2;clear h1 h2 HLo;go_wp2_with fail;go_ret2;exact (show NewPost _ _ _ _ _ _ _ _ _ from .inr ⟨HRb.out, pb, rfl, HPb.out, by rw [HSt2.out, if_neg (by simp)]; exact HT4.out, Below.trans (Grow.trans HG0.out (Grow.trans HG2.out HG3.out)) (HS4.out.below HPb.out)⟩)
attribute [local go_sem] hgs
theorem rw_one {u : Value} {l : List Rw} (h : u ∈ rwCells l) : u.oneCell' = true := by
 unfold rwCells at h;obtain ⟨e, _, he⟩ := List.mem_flatMap.1 h;unfold rwC at he;simp at he;rcases he with rfl | rfl <;> rfl
set_option maxRecDepth 100000 in
set_option maxHeartbeats 2000000 in
theorem rclone_any (v : Value) (l : List Rw) (w_ : World) (h : RowS w_ 46 v l.length (rwCells l)) (hl : l.length <= 1000) :
  Calls Tryz.prog 49 #[v] w_ fun x w' => ∃ a c, x = .returned (.slice a l.length c) /\ RowS w' 46 (.slice a l.length c) l.length (rwCells l) /\ Below w_.heap.size w_ w' := by
 obtain ⟨iR, hiR, hzR0, hzR1, hzR2⟩ := info_parts infoRowR;have hv : (l = [] /\ ∃ c, v = .slice none 0 c) \/ ∃ ad c, v = .slice (some ad) l.length c /\ ∀ j u, (rwCells l)[j]? = some u -> w_.cell? (ad.add j) = some u := by
  rcases h with ⟨h1, _, a, c, rfl⟩ | ⟨c, off, cap, blk, f, rfl, h2, h3⟩
  ·have e : l = [] := List.eq_nil_of_length_eq_zero h1;subst e;cases a with
   | none => exact .inl ⟨rfl, c, rfl⟩
   | some ad => exact .inr ⟨ad, c, rfl, by intro j u hj; cases hj⟩
  ·refine .inr ⟨_, _, rfl, fun j u hj => ?_⟩;obtain ⟨hj2, rfl⟩ := List.getElem?_eq_some_iff.1 hj;have h4 := h3 j hj2;rw [List.getElem?_eq_getElem hj2] at h4;have h5 : w_.cell? ⟨c, off + j, none⟩ = some (rwCells l)[j] := by
    unfold World.cell?;simp only [h2];exact h4
   unfold Addr.add
   split
   ·rename_i h0
    have h9 : j = 0 := by simpa using h0
    subst h9;exact h5
   ·exact h5
 rcases hv with ⟨rfl, c, rfl⟩ | ⟨ad, c, rfl, hc⟩
 ·have hne : ∀ w : World, (binOp .eql 41 (.slice none 0 c) (.slice none 0 0)).run Tryz.prog w = .ok (.bool true) w := fun _ => rfl
  clear h;go_enter Tryz.func49, Tryz.ntmps49;go_wp2_with fail;go_ret;exact ⟨none, 0, rfl, rows_nilS _, Below.refl _ _⟩
 ·have HC := keep hc;have hne : ∀ w : World, (binOp .eql 41 (.slice (some ad) l.length c) (.slice none 0 0)).run Tryz.prog w = .ok (.bool false) w := fun _ => rfl
  clear h hc;go_enter Tryz.func49, Tryz.ntmps49;go_wp2_with ((at_builtin; go_must (refine wpList_append_own_at _ rfl _ _ 41 rfl w_.heap.size 46 iR (.agg #[.string ⟨#[]⟩, .string ⟨#[]⟩]) 2 32 Tryz.underlying41 hiR hzR0 hzR1 hzR2 rfl (by decide) _ 0 [] rfl (World.ownsRow_made w_ #[] 0 (Nat.le_refl _) (Nat.zero_le _) rfl) ad l.length c (rwCells l) rfl (by rw [rwCells_length]; omega) (by intro j u hj; have h9 := HC.out j u hj; exact (Below.cell ((Grow.refl w_).alloc _) (World.block_lt_of_cell? w_ _ h9)).trans h9) (fun u hu => rw_one hu) (by unfold maxLen; omega) (by omega) (by simp) ?_)); intro v' xa hown' hgrow _ _; rw [Nat.zero_add, List.nil_append] at hown'; obtain ⟨a', cap', rfl⟩ := own_form hown')
  have hb := Below.grown ((Grow.refl w_).alloc (.cells #[] 46)) hgrow (by simp) (fun g e => by have e9 : w_.heap.size = g := Option.some.inj e; omega);go_ret;exact ⟨a', cap', rfl, own_rowO hown', hb⟩
abbrev Rp := Int × Bool × List UInt8 × List Rw
def RpPost (q : Rp) (w : World) (x : Ending) (w' : World) : Prop := ∃ rv, x = .returned (rpV q.1 q.2.1 q.2.2.1 rv) /\ RowS w' 46 rv q.2.2.2.length (rwCells q.2.2.2) /\ Below w.heap.size w w'
def Pl.rep (S : Pl) : Rp := if S.wk = 4 then (S.re, S.rf, S.rv, S.rr) else (0, false, [], [])
theorem rp4 {w : World} {b t : Nat} {v0 v1 v2 v3 : Value} (h : Blk w b t [v0, v1, v2, v3]) : (w.cell? ⟨b, 0, none⟩ = some v0 /\ w.cell? ⟨b, 1, none⟩ = some v1 /\ w.cell? ⟨b, 2, none⟩ = some v2 /\ w.cell? ⟨b, 3, none⟩ = some v3) /\ ∀ i, w.frozen? ⟨b, i, none⟩ = false :=
 ⟨⟨h.cell 0 (by simp), h.cell 1 (by simp), h.cell 2 (by simp), h.cell 3 (by simp)⟩, fun i => h.free i⟩
theorem rowS_sl {w : World} {t n : Nat} {v : Value} {cs : List Value} (h : RowS w t v n cs) : ∃ a m c, v = .slice a m c := by
 rcases h with ⟨_, _, a, c, e⟩ | ⟨c, off, cap, blk, f, e, _⟩
 ·exact ⟨a, 0, c, e⟩
 ·exact ⟨_, _, _, e⟩
set_option maxRecDepth 100000 in
set_option maxHeartbeats 4000000 in
theorem plreply_any (bs pb : Nat) (S : Pl) (w_ : World) (h : PlT bs pb w_ S) (hl : S.rr.length <= 1000) :
  Calls Tryz.prog 17 #[.pointer (some ⟨pb, 0, none⟩)] w_ (RpPost S.rep w_) := by
 obtain ⟨w0, hw0⟩ : ∃ w0, w0 = w_.alloc (.cells #[.int .i64 0, .bool false, .string ⟨#[]⟩, .slice none 0 0] 56) := ⟨_, rfl⟩;have hg0 : Grow w_ w0 := by subst hw0; exact (Grow.refl w_).alloc _
 have hR0 : Blk w0 w_.heap.size 56 [.int .i64 0, .bool false, .string ⟨#[]⟩, .slice none 0 0] := by subst hw0; exact Blk.new w_ _ [_, _, _, _]
 have h0 := h.fits hg0;obtain ⟨rv, ov, lv, hB, hP⟩ := h0.tab;obtain ⟨ra, rn, rc, hrv⟩ := rowS_sl hP.rr;subst hrv;obtain ⟨Q, hQ⟩ : ∃ Q, S.rep = Q := ⟨_, rfl⟩;have hq : Q = if S.wk = 4 then (S.re, S.rf, S.rv, S.rr) else (0, false, [], []) := by rw [<- hQ]; rfl
 rw [hQ];have c6 := hB.cell 6 (by simp [plCells]);have c11 := hB.cell 11 (by simp [plCells]);have c12 := hB.cell 12 (by simp [plCells]);have c13 := hB.cell 13 (by simp [plCells]);have c14 := hB.cell 14 (by simp [plCells]);simp only [plCells, List.getElem_cons_zero, List.getElem_cons_succ] at c6 c11 c12 c13 c14;obtain ⟨⟨r0, r1, r2, r3⟩, hz⟩ := rp4 hR0;have z0 := hz 0;have z1 := hz 1;have z2 := hz 2;have z3 := hz 3;have HRow := keep hP.rr;have HG0 := keep hg0;have HR0 := keep hR0;have HQ := keep hq;have HL := keep hl;clear h h0 hB hP hQ hq hg0 hR0 hz hl;go_enter Tryz.func17, Tryz.ntmps17;go_upto_region 1 with fail;rw [<- hw0];clear hw0
 by_cases h4 : S.wk = 4
 ·have e4 : (S.wk != 4) = false := by simp [h4]
  have HQ2 := keep (show Q = (S.re, S.rf, S.rv, S.rr) by rw [HQ.out, if_pos h4]);clear h4;go_upto_region 4 with fail;obtain ⟨w1, hw1⟩ : ∃ w1, w1 = w0.alloc (.cells #[.int .i64 S.re, .bool S.rf, .string (str S.rv), .slice ra rn rc] 56) := ⟨_, rfl⟩;rw [<- hw1];have hg1 : Grow w0 w1 := by subst hw1; exact (Grow.refl _).alloc _
  have hB1 : Blk w1 w0.heap.size 56 [.int .i64 S.re, .bool S.rf, .string (str S.rv), .slice ra rn rc] := by subst hw1; exact Blk.new w0 _ [_, _, _, _]
  have hlt := HR0.out.lt;have hne : w0.heap.size ≠ w_.heap.size := by omega
  have hN0 : w_.heap.size <= w0.heap.size := by omega
  have HN0 := keep hN0;have HNe := keep hne;have HG1 := keep hg1;have HB1 := keep hB1;have hcl := rclone_any (.slice ra rn rc) S.rr w1 (HRow.out.fits hg1) HL.out;have HCl := keep hcl;clear c6 c11 c12 c13 c14 r0 r1 r2 r3 z0 z1 z2 z3;obtain ⟨⟨b0, b1, b2, b3⟩, -⟩ := rp4 hB1;generalize w0.heap.size = bx at *;clear hw1 hg1 hB1 hcl hlt hne hN0;go_wp2_with fail;refine HCl.out.mono ?_;rintro x w2 ⟨a, c, rfl, hr2, hb2⟩;have HR2 := keep hr2;have HB2 := keep (HB1.out.fits hb2);have HRz := keep (HR0.out.fits (Grow.trans HG1.out hb2));have HG2 := keep (Grow.trans HG0.out (Grow.trans HG1.out hb2));clear b0 b1 b2 b3 hr2 hb2 HCl;obtain ⟨⟨b0, b1, b2, b3⟩, hz⟩ := rp4 HB2.out;have y3 := hz 3;clear hz;go_upto_region 5 with fail;obtain ⟨w3, hw3⟩ : ∃ w3, w3 = w2.setCell ⟨bx, 3, none⟩ (.slice a S.rr.length c) := ⟨_, rfl⟩;rw [<- hw3];have kk := (But.refl bx w2).setCell 3 (.slice a S.rr.length c);have hB3 := HB2.out.set 3 (.slice a S.rr.length c);rw [<- hw3] at kk hB3;simp only [List.set_cons_succ, List.set_cons_zero] at hB3;have HR3 := keep (rowS_typ HR2.out kk HB2.out (by decide));have HRz3 := keep (HRz.out.but kk (fun h => HNe.out h.symm));have HG3 := keep (But.below HG2.out kk HN0.out HG2.out.size);clear b0 b1 b2 b3 y3 hw3 kk HB2 HRz HR2;obtain ⟨⟨b0, b1, b2, b3⟩, -⟩ := rp4 hB3;obtain ⟨⟨r0, r1, r2, r3⟩, hz⟩ := rp4 HRz3.out;have z0 := hz 0;have z1 := hz 1;have z2 := hz 2;have z3 := hz 3;clear hz hB3;go_wp2_with fail
  have Hset := keep ((((HRz3.out.set 0 (.int .i64 S.re)).set 1 (.bool S.rf)).set 2 (.string (str S.rv))).set 3 (.slice a S.rr.length c));have Hbut := keep (((((But.refl w_.heap.size w3).setCell 0 (.int .i64 S.re)).setCell 1 (.bool S.rf)).setCell 2 (.string (str S.rv))).setCell 3 (.slice a S.rr.length c));refine bodyPost_ret (v := rpV S.re S.rf S.rv (.slice a S.rr.length c)) ?_ rfl ⟨.slice a S.rr.length c, by rw [HQ2.out], by rw [HQ2.out]; exact rowS_typ HR3.out Hbut.out HRz3.out (by decide), But.below HG3.out Hbut.out (Nat.le_refl _) HG3.out.size⟩;simp only [List.set_cons_succ, List.set_cons_zero] at Hset;obtain ⟨⟨s0, s1, s2, s3⟩, -⟩ := rp4 Hset.out;clear b0 b1 b2 b3 r0 r1 r2 r3 z0 z1 z2 z3;simp [results, Tryz.results17, go_sem, s0, s1, s2, s3, rpV]
 ·have e4 : (S.wk != 4) = true := by simpa using h4
  have HQ2 := keep (show Q = (0, false, [], []) by rw [HQ.out, if_neg h4]);clear h4;go_wp2_with fail;have Hset := keep ((((HR0.out.set 0 (.int .i64 0)).set 1 (.bool false)).set 2 (.string ⟨#[]⟩)).set 3 (.slice none 0 0));have Hbut := keep (((((But.refl w_.heap.size w0).setCell 0 (.int .i64 0)).setCell 1 (.bool false)).setCell 2 (.string ⟨#[]⟩)).setCell 3 (.slice none 0 0));refine bodyPost_ret (v := rpV 0 false [] (.slice none 0 0)) ?_ rfl ⟨.slice none 0 0, by rw [HQ2.out], by rw [HQ2.out]; exact rows_nilS _, But.below HG0.out Hbut.out (Nat.le_refl _) HG0.out.size⟩;simp only [List.set_cons_succ, List.set_cons_zero] at Hset;obtain ⟨⟨s0, s1, s2, s3⟩, -⟩ := rp4 Hset.out;clear c6 c11 c12 c13 c14 r0 r1 r2 r3 z0 z1 z2 z3;simp [results, Tryz.results17, go_sem, s0, s1, s2, s3, rpV, str_nilS]
end Go.Proofs.YtcdapdcablnhpaaGreat
namespace Go.Proofs.YtcdapdcablnhpaaGreat
open Go.RowKit
def Pl.page (S : Pl) (v : Vw) (P : Pg) (fr : List Int) : Pl × Rcd × Bool := match S.st with
 | 1 => (S.descend P, noRd, false)
 | 2 => (S.gather P, noRd, false)
 | 3 => (S.inspect v P, noRd, false)
 | 4 => S.finish P
 | 5 => S.lay P
 | 6 => S.enter P fr
 | _ => (S, noRd, false)
structure PlC (S : Pl) : Prop where
 call : S.call = 2 \/ S.call = 3 \/ S.call = 4 \/ S.call = 5
 num : S.call = 5 -> 0 < S.n /\ S.n <= 16
 key : S.key.length <= 24
 seen : 0 <= S.seen /\ S.seen <= 4096
 item : S.item.length <= 1000
 rows : S.call ≠ 5 -> S.rows = []
 rown : S.call = 5 -> (S.rows.length : Int) < S.n
 rr : S.rr = []
structure PlOk (S : Pl) : Prop where
 going : S.wk ≠ 4 -> PlC S
 over : S.wk = 4 -> S.st = 0 /\ ((S.call ≠ 5 /\ S.rr = []) \/ (S.call = 5 /\ (S.rr.length : Int) <= S.n /\ S.n <= 16))
 st : S.st ≠ 0 -> S.wk = 3
 six : S.st <= 6
 left : S.st = 3 -> S.left ≠ []
 way : S.st = 1 \/ S.st = 6 -> S.seen <= 4095
theorem PlC.see {S : Pl} (h : PlC S) {p : Int} {s : Nat} (h6 : s <= 6) (h3 : s = 3 -> S.left ≠ []) (h1 : s = 1 \/ s = 6 -> S.seen <= 4095) : PlOk (S.see p s) :=
 ⟨fun _ => ⟨h.call, h.num, h.key, h.seen, h.item, h.rows, h.rown, h.rr⟩, (fun h => absurd h (by show ¬ (3 : Int) = 4; decide)), fun _ => rfl, h6, h3, h1⟩
theorem PlC.fin {S : Pl} (h : PlC S) {e : Int} {f : Bool} {v : List UInt8} {r : List Rw} (hr : (S.call ≠ 5 -> r = []) /\ (S.call = 5 -> (r.length : Int) <= S.n)) : PlOk (S.fin e f v r) :=
 ⟨fun h => absurd rfl h, fun _ => ⟨rfl, by
  by_cases h5 : S.call = 5
  ·exact .inr ⟨h5, hr.2 h5, (h.num h5).2⟩
  ·exact .inl ⟨h5, hr.1 h5⟩⟩, fun h => absurd rfl h, Nat.zero_le _, (fun h => by cases h), (fun h => by rcases h with h | h <;> cases h)⟩
theorem PlC.fin0 {S : Pl} (h : PlC S) {e : Int} {f : Bool} {v : List UInt8} : PlOk (S.fin e f v []) := h.fin ⟨fun _ => rfl, fun h5 => by have := (h.num h5).1; simp; omega⟩
theorem PlC.odd {S : Pl} (h : PlC S) : PlOk S.odd := h.fin0
theorem PlC.down {S : Pl} (h : PlC S) {s : Nat} (h6 : s <= 6) (h3 : s ≠ 3) : PlOk (S.down s) :=
 (⟨h.call, h.num, h.key, ⟨Int.le_refl _, by show (0 : Int) <= 4096; decide⟩, h.item, h.rows, h.rown, h.rr⟩ : PlC { S with seen := 0 }).see h6 (fun e => absurd e h3) (fun _ => by show (0 : Int) <= 4095; decide)
theorem PlC.write {S : Pl} (h : PlC S) : PlOk S.write := by
 unfold Pl.write
 split
 ·exact h.fin0
 ·exact ⟨fun _ => ⟨h.call, h.num, h.key, h.seen, h.item, h.rows, h.rown, h.rr⟩, (fun h => absurd h (by show ¬ (2 : Int) = 4; decide)), (fun h => absurd rfl h), Nat.zero_le _, (fun h => by cases h), (fun h => by rcases h with h | h <;> cases h)⟩
theorem PlC.next {S : Pl} (h : PlC S) : PlOk S.next := by
 unfold Pl.next
 split
 ·rename_i e l he
  exact h.see (by decide) (fun _ hn => by rw [he] at hn; cases hn) (fun hh => by rcases hh with hh | hh <;> cases hh)
 ·split
  ·exact h.see (by decide) (fun hh => by cases hh) (fun hh => by rcases hh with hh | hh <;> cases hh)
  ·split
   ·refine h.fin ⟨h.rows, fun h5 => by have := h.rown h5; omega⟩
   ·split
    ·exact h.see (by decide) (fun hh => by cases hh) (fun hh => by rcases hh with hh | hh <;> cases hh)
    ·exact h.write
theorem PlC.more {S : Pl} (h : PlC S) {l : List En} {r : Int} : PlC { S with left := l, right := r } := ⟨h.call, h.num, h.key, h.seen, h.item, h.rows, h.rown, h.rr⟩
theorem PlC.rest {S : Pl} (h : PlC S) {l : List En} : PlC { S with left := l } := ⟨h.call, h.num, h.key, h.seen, h.item, h.rows, h.rown, h.rr⟩
theorem PlC.gather {S : Pl} (h : PlC S) (P : Pg) : PlOk (S.gather P) := by
 unfold Pl.gather
 split
 ·exact h.odd
 ·exact h.more.next
theorem PlC.way {S : Pl} (h : PlC S) (hs : S.seen <= 4095) (P : Pg) (l : Int) (e : En) : ((S.way P l e).2 = true -> PlC (S.way P l e).1) /\ ((S.way P l e).2 = false -> PlOk S -> PlOk (S.way P l e).1) := by
 have h1 : PlC { S with seen := S.seen + 1 } := ⟨h.call, h.num, h.key, ⟨by have := h.seen; show 0 <= S.seen + 1; omega, by show S.seen + 1 <= 4096; omega⟩, h.item, h.rows, h.rown, h.rr⟩;unfold Pl.way
 split
 ·exact ⟨(fun h => by cases h), fun _ _ => h1.odd⟩
 ·rename_i hn
  split
  ·rename_i hw
   refine ⟨fun h => (by cases h), fun _ ho => ?_⟩;have hlt : S.seen + 1 < 4096 := by
    rcases Int.lt_or_le (S.seen + 1) 4096 with h | h
    ·exact h
    ·exact absurd (.inr ⟨hw, h⟩) hn
   exact ⟨fun _ => ⟨h1.call, h1.num, h1.key, h1.seen, h1.item, h1.rows, h1.rown, h1.rr⟩, ho.over, ho.st, ho.six, ho.left, fun _ => by show S.seen + 1 <= 4095; omega⟩
  ·exact ⟨fun _ => h1, fun h => by cases h⟩
theorem PlOk.c {S : Pl} (h : PlOk S) (hs : S.st ≠ 0) : PlC S := h.going (by rw [h.st hs]; decide)
theorem encN_short (e : En) : (encN e).1.length <= 1000 := by
 unfold encN
 split
 ·rename_i h
  have := enBytes_length e h;show (enBytes e []).length <= 1000;omega
 ·simp
theorem sepN_short (e : En) (c : Int) : (sepN e c).1.length <= 1000 := by
 unfold sepN
 split
 ·rename_i h
  simp only [Bool.and_eq_true, Bool.or_eq_true, decide_eq_true_eq] at h;have hk : e.1.length <= 24 := by
   rcases h.2 with h2 | h2
   ·rw [h2]; simp [leastE]
   ·unfold enOk inB at h2; simp at h2; omega
  have h1 := sev_length e.1.length;have h2 := sevs_length [e.2.1, e.2.2, c];show (enBytes e [c]).length <= 1000;simp [enBytes, txt, sevs] at *;omega
 ·simp
theorem PlOk.page {S : Pl} (h : PlOk S) (v : Vw) (P : Pg) (fr : List Int) : PlOk (S.page v P fr).1 := by
 unfold Pl.page
 split
 ·rename_i hst
  have hc := h.c (by rw [hst]; decide);show PlOk (S.descend P);unfold Pl.descend;have hw := hc.way (h.way (.inl hst)) P 0 (S.begins, 0, 0)
  split
  ·rename_i h2
   exact (hw.1 h2).gather P
  ·rename_i h2
   exact hw.2 (by simpa using h2) h
 ·rename_i hst
  exact (h.c (by rw [hst]; decide)).gather P
 ·rename_i hst
  have hc := h.c (by rw [hst]; decide);show PlOk (S.inspect v P);unfold Pl.inspect
  split
  ·rename_i he
   exact h
  ·rename_i e l he
   split
   ·exact hc.rest.fin0
   ·split
    ·exact hc.rest.next
    ·split
     ·exact (⟨hc.call, hc.num, hc.key, hc.seen, hc.item, hc.rows, hc.rown, hc.rr⟩ : PlC { S with left := l, hit := true, one := e }).next
     ·rename_i hwr
      split
      ·exact hc.rest.fin0
      ·rename_i h2
       have h5 : S.call = 5 := by
        unfold Pl.writes at hwr;simp only [Bool.or_eq_true, decide_eq_true_eq] at hwr;rcases hc.call with h | h | h | h
        ·exact absurd h h2
        ·exact absurd (.inl h) hwr
        ·exact absurd (.inr h) hwr
        ·exact h
       have hlen := hc.rown h5
       split
       ·rename_i hn
        exact ⟨fun h => absurd rfl h, fun _ => ⟨rfl, .inr ⟨h5, by show ((S.rows ++ _).length : Int) <= S.n; rw [hn]; exact Int.le_refl _, (hc.num h5).2⟩⟩, fun h => absurd rfl h, Nat.zero_le _, (fun h => by cases h), (fun h => by rcases h with h | h <;> cases h)⟩
       ·rename_i hn
        refine (⟨hc.call, hc.num, hc.key, hc.seen, hc.item, fun h => absurd h5 h, fun _ => ?_, hc.rr⟩ : PlC { S with left := l, rows := S.rows ++ [((lookS P e.2.2 e.1).1.key, (lookS P e.2.2 e.1).1.val)] }).next;show ((S.rows ++ _).length : Int) < S.n;rw [List.length_append, List.length_singleton] at hn ⊢;omega
 ·rename_i hst
  have hc := h.c (by rw [hst]; decide);show PlOk (S.finish P).1;unfold Pl.finish
  split
  ·exact hc.fin0
  ·exact hc.write
 ·rename_i hst
  have hc := h.c (by rw [hst]; decide);show PlOk (S.lay P).1;unfold Pl.lay
  split
  ·exact hc.write
  ·split
   ·exact hc.odd
   ·exact (⟨hc.call, hc.num, hc.key, hc.seen, encN_short _, hc.rows, hc.rown, hc.rr⟩ : PlC { S with level := 0, ent := (S.key, S.wpg, (insH P S.wpg S.own S.key S.val).1.slot), item := (encN (S.key, S.wpg, (insH P S.wpg S.own S.key S.val).1.slot)).1 }).down (by decide) (by decide)
 ·rename_i hst
  have hc := h.c (by rw [hst]; decide);show PlOk (S.enter P fr).1;unfold Pl.enter;have hw := hc.way (h.way (.inr hst)) P S.level S.ent
  split
  ·rename_i h2
   exact hw.2 h2 h
  ·rename_i h2
   have hc2 := hw.1 (by simpa using h2);generalize (S.way P S.level S.ent).1 = X at *;generalize enterN P X.wpg X.item fr = R at *;show PlOk (X.enters R).1;unfold Pl.enters
   split
   ·unfold Pl.entered
    split
    ·exact hc2.fin0
    ·exact (⟨hc2.call, hc2.num, hc2.key, hc2.seen, sepN_short _ _, hc2.rows, hc2.rown, hc2.rr⟩ : PlC { X with level := X.level + 1, ent := (aboveI (rdOf R.1 X.own).kind (rdOf R.1 X.own).imgs).1, item := (sepN (aboveI (rdOf R.1 X.own).kind (rdOf R.1 X.own).imgs).1 (aboveI (rdOf R.1 X.own).kind (rdOf R.1 X.own).imgs).2.1).1 }).down (by decide) (by decide)
   ·split
    ·exact hc2.fin0
    ·split
     ·exact hc2.fin0
     ·exact hc2.odd
 ·exact h
theorem PlOk.locked {S : Pl} (h : PlOk S) (got : Bool) (e : Int) : PlOk (S.lock got e) := by
 unfold Pl.lock
 split
 ·exact h
 ·rename_i h1
  have hc := h.going (by rw [Decidable.not_not.1 h1]; decide)
  split
  ·exact hc.fin0
  ·split
   ·exact hc.down (by decide) (by decide)
   ·exact h
theorem PlOk.spaced {S : Pl} (h : PlOk S) (p : Int) : PlOk (S.space p) := by
 unfold Pl.space
 split
 ·rename_i h1
  exact (h.going (by rw [h1]; decide)).see (by decide) (fun hh => by cases hh) (fun hh => by rcases hh with hh | hh <;> cases hh)
 ·exact h
theorem PlOk.failed {S : Pl} (h : PlOk S) (e : Int) : PlOk (S.fail e) := by
 unfold Pl.fail
 split
 ·exact h
 ·rename_i h1
  exact (h.going h1).fin0
theorem PlOk.start {call : Int} {key upk val : List UInt8} {n own : Int} (h : rightB call key upk val n own = true) : PlOk (startS call key upk val n own) := by
 have h0 : PlC (Pl.new call key upk val n own) := by
  unfold rightB isKeyB at h;unfold Pl.new
  split at h
  ·rename_i hc
   simp only [Bool.and_eq_true, decide_eq_true_eq] at h;exact ⟨.inl hc, (fun h5 => absurd (hc.symm.trans h5) (by decide)), h.2, ⟨Int.le_refl _, by show (0 : Int) <= 4096; decide⟩, Nat.zero_le _, fun _ => rfl, (fun h5 => absurd (hc.symm.trans h5) (by decide)), rfl⟩
  ·split at h
   ·rename_i hc
    simp only [Bool.and_eq_true, decide_eq_true_eq] at h;exact ⟨.inr (.inl hc), (fun h5 => absurd (hc.symm.trans h5) (by decide)), h.1.1.2, ⟨Int.le_refl _, by show (0 : Int) <= 4096; decide⟩, Nat.zero_le _, fun _ => rfl, (fun h5 => absurd (hc.symm.trans h5) (by decide)), rfl⟩
   ·split at h
    ·rename_i hc
     simp only [Bool.and_eq_true, decide_eq_true_eq] at h;exact ⟨.inr (.inr (.inl hc)), (fun h5 => absurd (hc.symm.trans h5) (by decide)), h.1.2, ⟨Int.le_refl _, by show (0 : Int) <= 4096; decide⟩, Nat.zero_le _, fun _ => rfl, (fun h5 => absurd (hc.symm.trans h5) (by decide)), rfl⟩
    ·split at h
     ·rename_i hc
      simp only [Bool.and_eq_true, decide_eq_true_eq] at h;exact ⟨.inr (.inr (.inr hc)), fun _ => ⟨h.1.2, h.2⟩, h.1.1.1, ⟨Int.le_refl _, by show (0 : Int) <= 4096; decide⟩, Nat.zero_le _, fun _ => rfl, fun _ => h.1.2, rfl⟩
     ·cases h
 unfold startS
 split
 ·exact ⟨fun _ => ⟨h0.call, h0.num, h0.key, h0.seen, h0.item, h0.rows, h0.rown, h0.rr⟩, (fun h => absurd h (by show ¬ (1 : Int) = 4; decide)), (fun h => absurd rfl h), Nat.zero_le _, (fun h => by cases h), (fun h => by rcases h with h | h <;> cases h)⟩
 ·exact h0.down (by decide) (by decide)
end Go.Proofs.YtcdapdcablnhpaaGreat
