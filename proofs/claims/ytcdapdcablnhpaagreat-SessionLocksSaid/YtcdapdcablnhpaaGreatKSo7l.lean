import Derived.Test.YtcdapdcablnhpaaGreatKSr1
import Derived.Test.YtcdapdcablnhpaaGreatKSo3
import Derived.Test.YtcdapdcablnhpaaGreatKLexn
import Derived.Test.YtcdapdcablnhpaaGreatKSo7e
import Derived.Deep.CutRange
namespace Go.Proofs.YtcdapdcablnhpaaGreat
open Go.RowKit
def ExtR (bs : Nat) (Inv : World -> Prop) (u v : World) : Prop := u.heap.size <= v.heap.size /\ (bs <= u.heap.size -> Below bs u v /\ (Inv u -> Inv v) /\ ∀ (b : Nat) (cs : List Value), Blk u b 71 cs -> ∃ cs' : List Value, cs'.length = cs.length /\ Blk v b 71 cs')
theorem ExtR.refl (bs : Nat) (Inv : World -> Prop) (u : World) : ExtR bs Inv u u := ⟨Nat.le_refl _, fun _ => ⟨Below.refl _ _, id, fun _ cs h => ⟨cs, rfl, h⟩⟩⟩
theorem ExtR.trans {bs : Nat} {Inv : World -> Prop} {u v w : World} (h : ExtR bs Inv u v) (k : ExtR bs Inv v w) : ExtR bs Inv u w := by
 refine ⟨Nat.le_trans h.1 k.1, fun hb => ?_⟩;obtain ⟨h1, h2, h3⟩ := h.2 hb;obtain ⟨k1, k2, k3⟩ := k.2 (Nat.le_trans hb h.1);refine ⟨h1.trans k1, fun hi => k2 (h2 hi), fun b cs hc => ?_⟩;obtain ⟨cs', e1, h4⟩ := h3 b cs hc;obtain ⟨cs'', e2, h5⟩ := k3 b cs' h4;exact ⟨cs'', e2.trans e1, h5⟩
theorem ExtR.grow {bs : Nat} {Inv : World -> Prop} (hi : ∀ u v, Grow u v -> Inv u -> Inv v) {u v : World} (g : Grow u v) : ExtR bs Inv u v :=
 ⟨g.size, fun hb => ⟨Below.mono g hb, hi u v g, fun _ cs h => ⟨cs, rfl, h.fits g⟩⟩⟩
theorem ExtR.sel {bs pb : Nat} {Inv : World -> Prop} {u v : World} (k : Sel bs pb u v) (hp : bs <= pb) (hi : Inv u -> Inv v) : ExtR bs Inv u v :=
 ⟨k.size, fun _ => ⟨k.below hp, hi, fun _ cs h => ⟨cs, rfl, h.sel k (by decide) (by decide)⟩⟩⟩
theorem ExtR.store {bs b : Nat} {Inv : World -> Prop} {u v : World} {cs cs' : List Value} (k : But b u v) (h : Blk u b 71 cs) (h' : Blk v b 71 cs') (hl : cs'.length = cs.length) (hb : bs <= b) (hi : Inv u -> Inv v) : ExtR bs Inv u v := by
 refine ⟨k.size, fun hu => ⟨But.below (Below.refl _ _) k hb hu, hi, fun c ds hd => ?_⟩⟩
 by_cases e : c = b
 ·subst e;have : cs.toArray = ds.toArray := by
   unfold Blk at h hd;rw [h] at hd
   simpa using hd
  have : cs = ds := by simpa using this
  subst this;exact ⟨cs', hl, h'⟩
 ·exact ⟨ds, rfl, hd.but k e⟩
theorem ExtR.low {bs : Nat} {Inv : World -> Prop} {u v : World} (h : ExtR bs Inv u.drew v) (hb : bs <= u.heap.size) : Below bs u v := (Below.mono (Grow.undrew (Grow.refl u.drew)) hb).trans (h.2 hb).1
theorem ExtR.inv {bs : Nat} {Inv : World -> Prop} {u v : World} (hi : ∀ u v, Grow u v -> Inv u -> Inv v) (h : ExtR bs Inv u.drew v) (hb : bs <= u.heap.size) (k : Inv u) : Inv v := (h.2 hb).2.1 (hi _ _ (Grow.undrew (Grow.refl u.drew)) k)
def RecB (bs : Nat) (v : Value) (u : World) : Prop := ∃ b, v = .pointer (some ⟨b, 0, none⟩) /\ bs <= b /\ bs <= u.heap.size /\ ∃ cs : List Value, cs.length = 16 /\ Blk u b 71 cs
theorem RecB.lasts {bs : Nat} {Inv : World -> Prop} {x : Value} {u v : World} (h : ExtR bs Inv u v) (k : RecB bs x u) : RecB bs x v := by
 obtain ⟨b, h1, h2, h3, cs, h4, h5⟩ := k;obtain ⟨cs', e, h6⟩ := (h.2 h3).2.2 b cs h5;exact ⟨b, h1, h2, Nat.le_trans h3 h.1, cs', e.trans h4, h6⟩
theorem plT_grow {bs pb : Nat} {S : Pl} (u v : World) (g : Grow u v) (h : PlT bs pb u S) : PlT bs pb v S := h.fits g
theorem sh_forms {w : World} {d : ShD} (h : ShIn w d) : (∃ a n c, d.av = .slice a n c) /\ (∃ a n c, d.rv = .slice a n c) /\ (∃ a n c, d.iv = .slice a n c) /\ (∃ a n c, d.bv = .slice a n c) := by
 obtain ⟨a1, c1, e1⟩ := items_form h.pg.1;obtain ⟨a2, c2, e2⟩ := items_form h.vw.items;obtain ⟨a3, c3, e3, _⟩ := ints_form h.vw.run;obtain ⟨a4, c4, e4, _⟩ := ints_form h.vw.act;exact ⟨⟨_, _, _, e4⟩, ⟨_, _, _, e3⟩, ⟨_, _, _, e2⟩, ⟨_, _, _, e1⟩⟩
def RdI (bs pb : Nat) (num : Int) (w : World) : Prop := ∃ S, RdOk S num /\ PlOk S /\ PlT bs pb w S
theorem RdI.fits {bs pb : Nat} {num : Int} (u v : World) (g : Grow u v) (h : RdI bs pb num u) : RdI bs pb num v := by
 obtain ⟨S, h1, h2, h3⟩ := h;exact ⟨S, h1, h2, h3.fits g⟩
theorem rd_page {bs pb : Nat} {num : Int} {d : ShD} {w0 u : World} (hi : RdI bs pb num u) (hd : ShIn w0 d) (hbs : bs = w0.heap.size) (hp : bs <= pb) (hg : Grow w0 u) (fv : Value) (hf : fv = .slice none 0 0) :
  Calls Tryz.prog 20 #[.pointer (some ⟨pb, 0, none⟩), vwV d.x.view d.av d.rv d.iv, pgV d.x.body d.bv, fv] u fun x u' => x = .returned (.tuple #[rdV noRd (.slice none 0 0), .bool false]) /\ RdI bs pb num u' /\ Sel bs pb u u' := by
 obtain ⟨S, h1, h2, h3⟩ := hi;subst hbs hf;have ok := hd.ok (pb := pb) hg hp;refine (plpage_any _ pb S d.x.view d.av d.rv d.iv d.x.body d.bv (.slice none 0 0) [] u h3 h2 ok.vw ok.pg ok.cap (fun _ _ => Row.nil _ _ _ _) (by decide) ok.len).mono ?_;rintro x u' ⟨iv, T, rfl, e1, -, e2, e3, e4⟩;obtain ⟨hr, he⟩ := h1.page d.x.view d.x.body [];rw [he] at e1;have hT : T = [] := by simpa [noRd] using e1
 rw [e2 hT, he];exact ⟨rfl, ⟨_, hr, h2.page _ _ _, e3⟩, e4⟩
theorem rd_want {bs pb : Nat} {num : Int} {u : World} (hi : RdI bs pb num u) :
  Calls Tryz.prog 18 #[.pointer (some ⟨pb, 0, none⟩)] u fun x u' => (∃ k key s p, (k = 3 \/ k = 4) /\ x = .returned (wtV k key s p)) /\ Below u.heap.size u u' := by
 obtain ⟨S, h1, h2, h3⟩ := hi;exact (plwant_any bs pb S u h3).mono fun x u' ⟨e1, e2⟩ => ⟨⟨_, _, _, _, h1.wk, e1⟩, e2⟩
theorem rd_need {bs pb : Nat} {num : Int} {u : World} {P : Pg} {jv : Value} (hi : RdI bs pb num u) (hin : PgIn u jv P) :
  Calls Tryz.prog 19 #[.pointer (some ⟨pb, 0, none⟩), pgV P jv] u fun x u' => x = .returned (.int .i64 0) /\ Below u.heap.size u u' := by
 obtain ⟨S, h1, h2, h3⟩ := hi;refine (plneed_any bs pb S P jv u h3 hin (by rw [h1.item]; decide)).mono ?_;rintro x u' ⟨rfl, e2⟩;exact ⟨by rw [h1.need], e2⟩
theorem rd_reply {bs pb : Nat} {num : Int} {u : World} (hi : RdI bs pb num u) :
  Calls Tryz.prog 17 #[.pointer (some ⟨pb, 0, none⟩)] u fun x u' => (∃ e f v ra n rc, x = .returned (.agg #[.int .i64 e, .bool f, .string v, .slice ra n rc]) /\ (n : Int) <= max num 0 /\ (n : Int) <= 1000) /\ Below u.heap.size u u' := by
 obtain ⟨S, h1, h2, h3⟩ := hi;refine (plreply_any bs pb S u h3 h2.rrl).mono ?_;rintro x u' ⟨rv, rfl, e1, e2⟩;obtain ⟨ra, rc, rfl⟩ := row_slice e1.weak;refine ⟨⟨_, _, _, _, _, _, rfl, h2.few h1.num, ?_⟩, e2⟩;have := h2.rrl;unfold Pl.rep
 split
 ·exact Int.ofNat_le.2 this
 ·exact Int.ofNat_le.2 (Nat.zero_le _)
attribute [local go_sem] givesV lookV knAt hgs
attribute [local go_sem] want_f0 want_f3 rep_f1 rep_f2 guard_want
theorem neq_want1 (key : List UInt8) (w : World) : (binOp .neq 61 (.agg #[.int .i64 1, .string (str key), .int .i64 0, .int .i64 0]) (.agg #[.int .i64 1, .string (str key), .int .i64 0, .int .i64 0])).run Tryz.prog w = .ok (.bool false) w := by
 have := neq_want 1 0 0 1 0 0 key key w;rw [show sameWt (1, key, 0, 0) (1, key, 0, 0) = true by unfold sameWt; simp] at this;exact this
theorem eql_want3 (w : World) : (binOp .eql 61 (.agg #[.int .i64 3, .string ⟨#[]⟩, .int .i64 0, .int .i64 1]) (.agg #[.int .i64 3, .string ⟨#[]⟩, .int .i64 0, .int .i64 1])).run Tryz.prog w = .ok (.bool true) w := by
 have := eql_want 3 0 1 3 0 1 [] [] w;rw [show sameWt (3, [], 0, 1) (3, [], 0, 1) = true by kernel_rfl] at this;exact this
attribute [local simp] neq_want1 eql_want3
theorem start_lock {call : Int} {key upk val : List UInt8} {n own : Int} (h : call = 3 \/ call = 4) : (startS call key upk val n own).wk = 1 /\ (startS call key upk val n own).wkey = key /\ (startS call key upk val n own).wsz = 0 /\ (startS call key upk val n own).wpg = 0 /\ (startS call key upk val n own).st = 0 := by
 unfold startS;have hw : (Pl.new call key upk val n own).writes = true := by
  unfold Pl.writes Pl.new;rcases h with h | h <;> rw [h] <;> rfl
 rw [if_pos hw];exact ⟨rfl, rfl, rfl, rfl, rfl⟩
def LoRel (pb n9 : Nat) (S : Pl) (w0 : World) (i : Value) (wr : World) : Prop := ∃ n : Nat, n <= n9 /\ i = .int .i64 n /\ Kept (PlT w0.heap.size pb wr S) /\ Kept (Grow w0 wr)
set_option maxRecDepth 100000 in
set_option maxHeartbeats 16000000 in
theorem locks_law (call : Int) (key upk val : List UInt8) (num : Int) (lv : Value) (l : List ShD) (e : Int) (w_ : World)
  (hl : Row w_ 65 lv l.length (l.flatMap ShD.cells)) (hls : ∀ d ∈ l, ShIn w_ d) (hln : (l.length : Int) <= 1000000000000) (he1 : 0 <= e) (he2 : e <= 255) :
  Calls Tryz.prog 5 #[askV call key upk val num, lv, .int .u8 e] w_ fun y w' => y = .returned (.bool true) /\ Below w_.heap.size w_ w' := by
 obtain ⟨la, lc, rfl, -⟩ := row22_slice hl;obtain ⟨w0, hw0⟩ : ∃ w0, w0 = w_.alloc (.cells (askC call key upk val num).toArray 52) := ⟨_, rfl⟩;have hg0 : Grow w_ w0 := by subst hw0; exact (Grow.refl w_).alloc _
 have hA0 : Blk w0 w_.heap.size 52 (askC call key upk val num) := by subst hw0; exact Blk.new w_ _ _
 have HL := keep (Row.fits hl hg0);have HLs := keep (fun d hd => (hls d hd).fits hg0);have HLn := keep hln;have HG0 := keep hg0;have HA := keep hA0;have hn := plnew_any call key upk val num 5 w0;unfold NewPost askV at hn;have HN := keep hn;obtain ⟨a0, a1, a2, a3, a4⟩ := (show w0.cell? ⟨w_.heap.size, 0, none⟩ = some (.int .u8 call) /\ w0.cell? ⟨w_.heap.size, 1, none⟩ = some (.string (str key)) /\ w0.cell? ⟨w_.heap.size, 2, none⟩ = some (.string (str upk)) /\ w0.cell? ⟨w_.heap.size, 3, none⟩ = some (.string (str val)) /\ w0.cell? ⟨w_.heap.size, 4, none⟩ = some (.int .i64 num) from ⟨hA0.cell 0 (by simp [askC]), hA0.cell 1 (by simp [askC]), hA0.cell 2 (by simp [askC]), hA0.cell 3 (by simp [askC]), hA0.cell 4 (by simp [askC])⟩);unfold askC at hw0;clear hl hls hln hg0 hA0 hn;unfold askV
 by_cases hc : call = 3 \/ call = 4
 case neg =>
  have e3 : (call != 3) = true := by simp; omega
  have e4 : (call != 4) = true := by simp; omega
  clear HN hc;go_enter Tryz.func5, Tryz.ntmps5;go_upto_region 1 with fail;rw [<- hw0];clear hw0;go_wp2_with fail;refine (awake19_any w0).mono ?_;rintro y w2 ⟨rfl, hb2⟩;have HG2 := keep (Grow.trans HG0.out hb2);clear hb2 a0 a1 a2 a3 a4;go_wp2_with fail;go_ret;exact ⟨rfl, HG2.out⟩
 have HSt := keep (start_lock (key := key) (upk := upk) (val := val) (n := num) (own := 5) hc);have hq : (call != 3) = false \/ ((call != 3) = true /\ (call != 4) = false) := by rcases hc with rfl | rfl <;> simp
 go_enter Tryz.func5, Tryz.ntmps5;go_upto_region 1 with fail;rw [<- hw0];clear hw0 hc;go_cut [20] from 13 to 20 (fun s20 wx => s20 = .bool false /\ wx = w0)
 case first =>
  rcases hq with h3 | ⟨h3, h4⟩
  ·go_wp2_with fail;go_meet
   case rel => exact ⟨rfl, rfl⟩
  ·go_wp2_with fail;go_meet
   case rel => exact ⟨rfl, rfl⟩
 case rest =>
 obtain ⟨rfl, rfl⟩ := hcut;generalize wc = w0 at *;clear hq;go_wp2_with fail;refine HN.out.mono ?_;clear a0 a1 a2 a3 a4;rintro y w1 (⟨-, rfl, hb1⟩ | ⟨hr, pb, rfl, hpb, hT, hb1⟩)
 ·have HG1 := keep (Grow.trans HG0.out hb1);clear hb1 HN;go_wp2_with fail;refine (awake19_any w1).mono ?_;rintro y w2 ⟨rfl, hb2⟩;have HG2 := keep (Grow.trans HG1.out hb2);clear hb2;go_wp2_with fail;go_ret;exact ⟨rfl, HG2.out⟩
 have HOk := keep (PlOk.start hr);generalize startS call key upk val num 5 = S at *;have HG1 := keep (show Grow w0 w1 from hb1);have HT1 := keep hT;have HPb := keep hpb;have hLn := HLn.out;obtain ⟨k1, k2, k3, k4, k5⟩ := HSt.out;have HSpc := keep (fun (u : World) (hu : PlT w0.heap.size pb u S) (n : Int) => over_space _ pb S n u hu (by simp [k1]));have HLck := keep (fun (u : World) (hu : PlT w0.heap.size pb u S) => wait_lock _ pb S u hu (by simp [k1]));have hpg0 := fun (u : World) (hu : PlT w0.heap.size pb u S) (d : ShD) (hd : ShIn w0 d) => over_page _ pb S d.x.view d.av d.rv d.iv d.x.body d.bv d.fv u hu k5 (sh_forms hd)
 have hwt := fun (u : World) (hu : PlT w0.heap.size pb u S) => plwant_any _ pb S u hu
 have hre := fun (u : World) (hu : PlT w0.heap.size pb u S) => plreply_any _ pb S u hu HOk.out.rrl
 have hrp : S.rep = (0, false, [], []) := by unfold Pl.rep; rw [if_neg (by rw [k1]; decide)]
 have hlk := fun (u : World) (hu : PlT w0.heap.size pb u S) (g : Bool) => pllock_any _ pb S g e u hu
 unfold wtV at hwt;rw [k1, k2, k3, k4] at hwt;unfold RpPost rpV at hre;rw [hrp] at hre;dsimp only at hre;rw [str_nilS] at hre;have HPg0 := keep hpg0;have HWt := keep hwt;have HRe := keep hre;have HLk := keep hlk;have hrr := fun (u : World) (qv : Value) (hq : RowS u 46 qv ([] : List Rw).length (rwCells [])) => reply19_any (0, false, [], []) (0, false, [], []) qv (.slice none 0 0) u hq (rows_nilS _) (by decide) (by decide)
 have hrt : sameRp (0, false, [], []) (0, false, [], []) = true := by kernel_rfl
 rw [hrt] at hrr;unfold rpV at hrr;dsimp only at hrr;rw [str_nilS] at hrr;have HRr := keep hrr;have HK := keep (And.intro k1 HOk.out);clear hr hpb hT hb1 HN hpg0 hwt hre hlk hrr hrt hrp k1 k2 k3 k4 k5 HSt;go_wp2_with fail;go_loopw [9] (fun i wr => LoRel pb l.length S w0 i wr) (fun i _ => l.length - (intOf i).toNat)
 case atStart => exact show LoRel _ _ _ _ _ _ from ⟨0, Nat.zero_le _, rfl, HT1, HG1⟩
 case round =>
  obtain ⟨n, hn1, rfl, HTn, HGn⟩ := hrel
  by_cases h1 : n < l.length
  ·obtain ⟨c, off, cap, e1⟩ := shows_get HL.out h1;simp only [Value.slice.injEq] at e1;obtain ⟨rfl, -, rfl⟩ := e1;have hc := fun (u : World) (hu : Grow w0 u) => shows_at (Row.fits HL.out hu) h1
   have hx := HLs.out l[n] (List.getElem_mem h1);have hpg := fun (u : World) (hu : PlT w0.heap.size pb u S) => HPg0.out u hu l[n] hx
   obtain ⟨bva, bvc, ebv⟩ := items_form hx.pg.1;obtain ⟨iva, ivc, eiv⟩ := items_form hx.vw.items;obtain ⟨rva, rvc, erv, _⟩ := ints_form hx.vw.run;obtain ⟨ava, avc, eav, _⟩ := ints_form hx.vw.act;obtain ⟨fva, fvc, efv, _⟩ := ints_form hx.fr;clear hx;generalize l[n] = d at *;obtain ⟨x, bv, av, rv, iv, fv⟩ := d;dsimp only at *;subst ebv eiv erv eav efv;unfold vwV pgV rdV at hpg;dsimp only [noRd] at hpg;rw [str_nilS] at hpg;have HPg := keep hpg;have HC := keep hc;clear hpg hc;go_upto_region 9 with fail;refine rgx (N := 22) (by kernel_rfl) (ExtR w0.heap.size (fun u => PlT w0.heap.size pb u S)) (ExtR.refl _ _ _) (fun _ _ _ => ExtR.trans) (by kernel_rfl) rfl rfl ?_;intro a0 ha0;have hsz : a0.tmps.size = 119 := (size_at ha0).trans rfl;have s1 := slot_at ha0 1 rfl;have s7 := slot_at ha0 7 rfl;have s9 := slot_at ha0 9 rfl;have HA0 := keep ha0;clear ha0
   iterate 5
    apply lxv hsz (ExtR.refl _ _) (by kernel_rfl) rfl
    ·intro xs w hw K hK;go_simp;exact hK
   apply lxv hsz (ExtR.refl _ _) (by kernel_rfl) rfl
   ·intro xs w hw K hK;obtain ⟨c0, c1, c2, c3, c4, c5, c6, c7, c8, c9, c10, c11, c12, c13, c14, c15, c16, c17, c18, c19, c20, c21⟩ := HC.out w (Below.trans HGn.out (ExtR.low hw HGn.out.size));go_simp;exact hK
   iterate 4
    apply lxv hsz (ExtR.refl _ _) (by kernel_rfl) rfl
    ·intro xs w hw K hK;go_simp;exact hK
   apply lxv hsz (ExtR.refl _ _) (by kernel_rfl) rfl
   ·intro xs w hw K hK;obtain ⟨c0, c1, c2, c3, c4, c5, c6, c7, c8, c9, c10, c11, c12, c13, c14, c15, c16, c17, c18, c19, c20, c21⟩ := HC.out w (Below.trans HGn.out (ExtR.low hw HGn.out.size));go_simp;exact hK
   iterate 4
    apply lxv hsz (ExtR.refl _ _) (by kernel_rfl) rfl
    ·intro xs w hw K hK;go_simp;exact hK
   apply lxv hsz (ExtR.refl _ _) (by kernel_rfl) rfl
   ·intro xs w hw K hK;obtain ⟨c0, c1, c2, c3, c4, c5, c6, c7, c8, c9, c10, c11, c12, c13, c14, c15, c16, c17, c18, c19, c20, c21⟩ := HC.out w (Below.trans HGn.out (ExtR.low hw HGn.out.size));go_simp;exact hK
   apply lxe hsz [] (by kernel_rfl) rfl
   ·intro xs w hw hp K hK;go_simp;exact (HPg.out w (ExtR.inv plT_grow hw HGn.out.size HTn.out)).mono fun e w' ⟨h1, h2⟩ => ⟨_, h1, hK _ (ExtR.grow plT_grow h2)⟩
   iterate 3
    apply lxv hsz (ExtR.refl _ _) (by kernel_rfl) rfl
    ·intro xs w hw K hK;go_simp;exact hK
   refine lxs hsz (RecB w0.heap.size) (fun _ _ _ g h => RecB.lasts g h) [] (by kernel_rfl) rfl ?_ ?_
   ·intro xs w hw hp K hK;go_simp;exact hK _ _ ⟨_, rfl, Nat.le_trans HGn.out.size hw.1, Nat.le_trans (Nat.le_trans HGn.out.size hw.1) (by simp), _, rfl, Blk.new w _ [.int .i64 0, .int .i64 0, .int .i64 0, .int .u8 0, .int .i64 0, .int .i64 0, .int .i64 0, .int .i64 0, .int .i64 0, .int .i64 0, .string ⟨#[]⟩, .slice none 0 0, .slice none 0 0, .slice none 0 0, .slice none 0 0, .slice none 0 0]⟩ (ExtR.grow plT_grow ((Grow.refl w).alloc _))
   refine lxn hsz (fun _ => True) (fun _ _ _ h => h) [(18, true), (20, true)] (by kernel_rfl) rfl ?_ ?_
   ·intro xs w hw hp K hK;simp only [hzv] at hp;obtain ⟨h17, b, h19, hbN, hbS, cs, hl, hB⟩ := hp;obtain ⟨a0_, a1_, a2_, a3_, a4_, a5_, a6_, a7_, a8_, a9_, a10_, a11_, a12_, a13_, a14_, a15_, rfl⟩ := len16 hl;obtain ⟨⟨r0_, r1_, r2_, r3_, r4_, r5_, r6_, r7_, r8_, r9_, r10_, r11_, r12_, r13_, r14_, r15_⟩, hz_⟩ := recres hB;have z0_ := hz_ 0;have z1_ := hz_ 1;have z2_ := hz_ 2;have z3_ := hz_ 3;have z4_ := hz_ 4;have z5_ := hz_ 5;have z6_ := hz_ 6;have z7_ := hz_ 7;have z8_ := hz_ 8;have z9_ := hz_ 9;have z10_ := hz_ 10;have z11_ := hz_ 11;have z12_ := hz_ 12;have z13_ := hz_ 13;have z14_ := hz_ 14;have z15_ := hz_ 15;have Hset := keep (recset hB (.int .i64 0) (.int .i64 0) (.int .i64 0) (.int .u8 0) (.int .i64 0) (.int .i64 0) (.int .i64 0) (.int .i64 0) (.int .i64 0) (.int .i64 0) (.string ⟨#[]⟩) (.slice none 0 0) (.slice none 0 0) (.slice none 0 0) (.slice none 0 0) (.slice none 0 0));have Hbut := keep (recbut w b (.int .i64 0) (.int .i64 0) (.int .i64 0) (.int .u8 0) (.int .i64 0) (.int .i64 0) (.int .i64 0) (.int .i64 0) (.int .i64 0) (.int .i64 0) (.string ⟨#[]⟩) (.slice none 0 0) (.slice none 0 0) (.slice none 0 0) (.slice none 0 0) (.slice none 0 0));have HB := keep hB;clear hB hl hz_;go_simp;exact hK _ _ trivial (ExtR.store Hbut.out HB.out Hset.out rfl hbN (fun h => PlT.other h Hbut.out HB.out (by decide) (by decide) (by decide)))
   refine rgd [] (by kernel_rfl) rfl ?_;intro xs w hw hp;have ha0 := HA0.out;clear HA0 hsz s1 s7 s9;clear hp;subst ha0;simp only [putV];have HTw := keep (ExtR.inv plT_grow hw HGn.out.size HTn.out);have HGw := keep (show Grow w0 w from Below.trans HGn.out (ExtR.low hw HGn.out.size));generalize w = w3 at *;clear hw HPg;obtain ⟨c0, c1, c2, c3, c4, c5, c6, c7, c8, c9, c10, c11, c12, c13, c14, c15, c16, c17, c18, c19, c20, c21⟩ := HC.out w3 HGw.out;simp only [List.drop_succ_cons, List.drop_zero];go_frame;go_wp2_with fail;refine (HSpc.out w3 HTw.out x.n).mono ?_;rintro y w4 ⟨rfl, hb4⟩;have HT4 := keep (HTw.out.fits hb4);have HG4 := keep (Grow.trans HGw.out hb4);clear hb4 c0 c1 c2 c3 c4 c5 c6 c7 c8 c9 c10 c11 c12 c13 c14 c15 c16 c17 c18 c19 c20 c21 HC;go_wp2_with fail;refine (HLck.out w4 HT4.out).mono ?_;rintro y w5 ⟨rfl, hb5⟩;have HT5 := keep (HT4.out.fits hb5);have HG5 := keep (Grow.trans HG4.out hb5);clear hb5;go_upto_region 12 with fail;refine rgv 15 (by kernel_rfl) (by kernel_rfl) rfl rfl ?_;intro a0 ha0;have hsz : a0.tmps.size = 119 := (size_at ha0).trans rfl;have s3 := slot_at ha0 3 rfl;have s7 := slot_at ha0 7 rfl;have s11 := slot_at ha0 11 rfl;have HA0 := keep ha0;clear ha0
   iterate 3
    apply lxv hsz Grow.refl (by kernel_rfl) rfl
    ·intro xs w hw K hK;go_simp;exact hK
   apply lxe hsz [] (by kernel_rfl) rfl
   ·intro xs w hw hp K hK;go_simp;exact (HWt.out w (HT5.out.fits hw.undrew)).mono fun e w' ⟨h1, h2⟩ => ⟨_, h1, hK _ h2⟩
   apply lxv hsz Grow.refl (by kernel_rfl) rfl
   ·intro xs w hw K hK;go_simp;exact hK
   apply lxv hsz Grow.refl (by kernel_rfl) rfl
   ·intro xs w hw K hK;have a1 := (HA.out.fits (Grow.trans HG5.out hw.undrew)).cell 1 (by simp [askC]);simp only [askC, List.getElem_cons_zero, List.getElem_cons_succ] at a1;go_simp;exact hK
   iterate 5
    apply lxv hsz Grow.refl (by kernel_rfl) rfl
    ·intro xs w hw K hK;go_simp;exact hK
   refine lxs hsz (fun v u => ∃ rv, v = .agg #[.int .i64 0, .bool false, .string ⟨#[]⟩, rv] /\ RowS u 46 rv ([] : List Rw).length (rwCells [])) (fun _ _ _ g ⟨rv, h1, h2⟩ => ⟨rv, h1, RowS.fits h2 g⟩) [] (by kernel_rfl) rfl ?_ ?_
   ·intro xs w hw hp K hK;go_simp;exact (HRe.out w (HT5.out.fits hw.undrew)).mono fun e w' ⟨rv, h1, h2, h3⟩ => ⟨_, h1, hK _ _ ⟨rv, rfl, h2⟩ h3⟩
   apply lxv hsz Grow.refl (by kernel_rfl) rfl
   ·intro xs w hw K hK;go_simp;exact hK
   apply lxe hsz [(9, true), (11, true), (12, true)] (by kernel_rfl) rfl
   ·intro xs w hw hp K hK;simp only [hzv] at hp;obtain ⟨⟨rv2, h2, h2b⟩, h12⟩ := hp.2;go_simp;exact (HRr.out w _ h2b).mono fun e w' ⟨h1, h2⟩ => ⟨_, h1, hK _ h2⟩
   apply lxv hsz Grow.refl (by kernel_rfl) rfl
   ·intro xs w hw K hK;go_simp;exact hK
   refine rgd [] (by kernel_rfl) rfl ?_;intro xs w hw hp;have ha0 := HA0.out;clear HA0 hsz s3 s7 s11;clear hp;subst ha0;simp only [putV];have HT6 := keep (HT5.out.fits hw.undrew);have HG6 := keep (Grow.trans HG5.out hw.undrew);generalize w = w6 at *;clear hw;go_frame;go_wp2_with fail;go_roundw
   case rel => exact show LoRel _ _ _ _ _ _ from ⟨n + 1, h1, by go_num, HT6, HG6⟩
   case measure => simp [intOf]; omega
  ·by_cases h0 : e = 0
   ·subst h0;have hlk := HLk.out wr HTn.out true;have hS : S.lock true 0 = S.look := by unfold Pl.lock; rw [if_neg (by rw [HK.out.1]; decide), if_neg (by decide), if_pos rfl]
    rw [hS] at hlk;unfold PlPost at hlk;have HLk1 := keep hlk;clear hlk hS HLk;go_wp2_with fail;refine HLk1.out.mono ?_;rintro y w2 ⟨rfl, hT2, hS2⟩;have HG2 := keep (Below.trans HGn.out (hS2.below HPb.out));have hwt := plwant_any _ pb S.look w2 hT2;rw [show wtV S.look.wk S.look.wkey S.look.wsz S.look.wpg = .agg #[.int .i64 3, .string ⟨#[]⟩, .int .i64 0, .int .i64 1] from rfl] at hwt;have HW := keep hwt;clear hT2 hS2 hwt HLk1;go_wp2_with fail;refine HW.out.mono ?_;rintro y w3 ⟨rfl, hb3⟩;have HG3 := keep (Below.trans HG2.out (Below.mono hb3 HG2.out.size));clear hb3;go_wp2_with fail;refine (awake19_any w3).mono ?_;rintro y w4 ⟨rfl, hb4⟩;have HG4 := keep (Grow.trans HG0.out (Below.trans HG3.out (Below.mono hb4 HG3.out.size)));clear hb4;go_wp2_with fail;go_ret;exact ⟨rfl, HG4.out⟩
   ·have e0 : (e == 0) = false := by simpa using h0
    have hlk := HLk.out wr HTn.out false;have hS : S.lock false e = S.fin e false [] [] := by unfold Pl.lock; rw [if_neg (by rw [HK.out.1]; decide), if_pos h0]
    rw [hS] at hlk;unfold PlPost at hlk;have HLk1 := keep hlk;clear hlk hS HLk h0;go_wp2_with fail;refine HLk1.out.mono ?_;rintro y w2 ⟨rfl, hT2, hS2⟩;have HG2 := keep (Below.trans HGn.out (hS2.below HPb.out));have hwt := plwant_any _ pb (S.fin e false [] []) w2 hT2;rw [show wtV (S.fin e false [] []).wk (S.fin e false [] []).wkey (S.fin e false [] []).wsz (S.fin e false [] []).wpg = .agg #[.int .i64 4, .string ⟨#[]⟩, .int .i64 0, .int .i64 0] from rfl] at hwt;have HW := keep hwt;have hre := fun (u : World) (hu : Grow w2 u) => plreply_any _ pb (S.fin e false [] []) u (hT2.fits hu) (Nat.zero_le _)
    unfold RpPost at hre;rw [show (S.fin e false [] []).rep = (e, false, [], []) from rfl] at hre;dsimp only at hre;have hr2 := fun (u : World) (qv : Value) (hq : RowS u 46 qv ([] : List Rw).length (rwCells [])) => reply19_any (e, false, [], []) (e, false, [], []) qv (.slice none 0 0) u hq (rows_nilS _) (Nat.zero_le _) (Nat.zero_le _)
    rw [show sameRp (e, false, [], []) (e, false, [], []) = true by unfold sameRp; simp] at hr2;unfold rpV at hre hr2;dsimp only at hr2;rw [str_nilS] at hre hr2;have HRe2 := keep hre;have HRr2 := keep hr2;clear hT2 hS2 hwt hre hr2 HLk1;go_wp2_with fail;refine HW.out.mono ?_;rintro y w3 ⟨rfl, hb3⟩;have HG3 := keep (Below.trans HG2.out (Below.mono hb3 HG2.out.size));have HB3 := keep (show Grow w2 w3 from hb3);clear hb3;go_wp2_with fail;refine (HRe2.out w3 HB3.out).mono ?_;rintro y w4 ⟨qv, rfl, hq, hb4⟩;obtain ⟨qa, qc, rfl⟩ := row_slice hq.weak;have HG4 := keep (Below.trans HG3.out (Below.mono hb4 HG3.out.size));have HQ4 := keep hq;clear hb4 hq;go_wp2_with fail;refine (HRr2.out w4 _ HQ4.out).mono ?_;rintro y w5 ⟨rfl, hb5⟩;have HG5 := keep (Below.trans HG4.out (Below.mono hb5 HG4.out.size));clear hb5;go_wp2_with fail;refine (awake19_any w5).mono ?_;rintro y w6 ⟨rfl, hb6⟩;have HG6 := keep (Grow.trans HG0.out (Below.trans HG5.out (Below.mono hb6 HG5.out.size)));clear hb6;go_wp2_with fail;go_ret;exact ⟨rfl, HG6.out⟩
end Go.Proofs.YtcdapdcablnhpaaGreat
namespace Go.Proofs.YtcdapdcablnhpaaGreat
open Go.ChangeShapes Go.WideShapes Go.ChangeAt Go.RowKit
section
variable {H : Type} {enc : TypeId × Value -> H} {w : World} {base : Nat} {spare : Nat -> Bool} {held : Bool} {r : Reach} {b0 : Nat}
set_option maxRecDepth 100000 in
theorem u8_of_trod {v : Value} {d : DataW H} {p : List MemPlace} (hval : Value.okWide Tryz.prog w r b0 5 v) (h : DataW.Trod enc Tryz.prog w base spare held 5 v d p) : ∃ x : Int, v = .int .u8 x /\ 0 <= x /\ x <= 255 := by
 obtain ⟨x0, rfl⟩ := okWide_int Tryz.underlying5 hval;obtain ⟨fuel, hf⟩ := h;obtain ⟨x, h1, _, h2⟩ := DataW.trod_int Tryz.underlying5 hf;simp only [Value.cells, List.cons.injEq, and_true] at h1;refine ⟨x, h1, ?_⟩;have e1 : IntKind.u8.min = 0 := rfl;have e2 : IntKind.u8.max = 255 := rfl;simp only [Lit.wf, Bool.and_eq_true, decide_eq_true_eq] at h2;omega
end
theorem locks_top (call : Int) (key upk val : List UInt8) (num : Int) (lv : Value) (l : List ShD) (e : Int) (w : World) (_ : 0 <= call) (_ : call <= 255) (_ : (key.length : Int) <= 140737488355328) (_ : (upk.length : Int) <= 140737488355328) (_ : (val.length : Int) <= 140737488355328) (_ : num <= 9223372036854775807)
  (hl : Row w 65 lv l.length (l.flatMap ShD.cells)) (hls : ∀ d ∈ l, ShIn w d) (hln : (l.length : Int) <= 1000000000000) (h1 : 0 <= e) (h2 : e <= 255) :
  Calls Tryz.prog 5 #[askV call key upk val num, lv, .int .u8 e] w fun y w' => y = .returned (.bool true) /\ Below w.heap.size w w' :=
 locks_law call key upk val num lv l e w hl hls hln h1 h2
end Go.Proofs.YtcdapdcablnhpaaGreat
