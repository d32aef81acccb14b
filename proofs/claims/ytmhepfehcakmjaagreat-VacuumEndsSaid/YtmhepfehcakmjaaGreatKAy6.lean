import Derived.Test.YtmhepfehcakmjaaGreatKRcm
import Derived.Test.YtmhepfehcakmjaaGreatKPw1
import Derived.Test.YtmhepfehcakmjaaGreatKCg4
import Derived.Test.YtmhepfehcakmjaaGreatKRf2
import Derived.Test.YtmhepfehcakmjaaGreatKQSame1
import Derived.Test.YtmhepfehcakmjaaGreatKLexk
import Derived.Deep.CutRange
import Derived.MapKept
namespace Go.Proofs.YtmhepfehcakmjaaGreat
open Go.RowKit
structure Img where
 page : Int
 body : Pg
 iv : Value
structure Rc where
 lsn : Int
 prev : Int
 next : Int
 kind : Int
 xid : Int
 page : Int
 slot : Int
 old : Int
 new : Int
 redo : Int
 data : List UInt8
 slots : List Int
 more : List Int
 images : List Img
structure RcV where
 sa : Option Addr
 sc : Nat
 ma : Option Addr
 mc : Nat
 ia : Option Addr
 ic : Nat
 oa : Option Addr
 on : Nat
 oc : Nat
 ta : Option Addr
 tn : Nat
 tc : Nat
def rcC (R : Rc) (V : RcV) : List Value := [.int .i64 R.lsn, .int .i64 R.prev, .int .i64 R.next, .int .u8 R.kind, .int .i64 R.xid, .int .i64 R.page, .int .i64 R.slot, .int .i64 R.old, .int .i64 R.new, .int .i64 R.redo, .string (str R.data), .slice V.sa R.slots.length V.sc, .slice V.ma R.more.length V.mc, .slice V.ia R.images.length V.ic, .slice V.oa V.on V.oc, .slice V.ta V.tn V.tc]
def rcV (R : Rc) (V : RcV) : Value := .agg #[.int .i64 R.lsn, .int .i64 R.prev, .int .i64 R.next, .int .u8 R.kind, .int .i64 R.xid, .int .i64 R.page, .int .i64 R.slot, .int .i64 R.old, .int .i64 R.new, .int .i64 R.redo, .string (str R.data), .slice V.sa R.slots.length V.sc, .slice V.ma R.more.length V.mc, .slice V.ia R.images.length V.ic, .slice V.oa V.on V.oc, .slice V.ta V.tn V.tc]
def imC (m : Img) : List Value := [.int .i64 m.page, .int .i64 m.body.lsn, .int .i64 m.body.kind, .int .i64 m.body.level, .int .i64 m.body.right, .string (str m.body.high), m.iv]
theorem imC_length (m : Img) : (imC m).length = 7 := rfl
structure RcIn (w : World) (R : Rc) (V : RcV) : Prop where
 slots : Ints w (.slice V.sa R.slots.length V.sc) R.slots
 more : Ints w (.slice V.ma R.more.length V.mc) R.more
 imgs : Row w 44 (.slice V.ia R.images.length V.ic) R.images.length (R.images.flatMap imC)
 each : ∀ m ∈ R.images, PgIn w m.iv m.body ∧ m.body.items.length ≤ 8796093021952
 data : (R.data.length : Int) ≤ 140737488355328
 slotl : (R.slots.length : Int) ≤ 17592186043904
 morel : (R.more.length : Int) ≤ 17592186043904
 imgl : (R.images.length : Int) ≤ 17592186043904
 kind0 : 0 ≤ R.kind
 kind1 : R.kind ≤ 255
theorem RcIn.fits {w w' : World} {R : Rc} {V : RcV} (h : RcIn w R V) (g : Grow w w') : RcIn w' R V :=
 ⟨Row.fits h.slots g, Row.fits h.more g, Row.fits h.imgs g, fun m hm => ⟨(h.each m hm).1.fits g, (h.each m hm).2⟩, h.data, h.slotl, h.morel, h.imgl, h.kind0, h.kind1⟩
def encTI (xmin xmax : Int) (fz : Bool) (key val : List UInt8) : List UInt8 × Int := if tupOk xmin xmax (str key) (str val) then (tupS xmin.toNat xmax.toNat fz key val, 0) else ([], 110)
theorem tencode_any (xmin xmax : Int) (fz : Bool) (key val : List UInt8) (w : World) : Calls Tryz.prog 40 #[.agg #[.int .i64 xmin, .int .i64 xmax, .bool fz, .string (str key), .string (str val)]] w fun e w' => e = .returned (.tuple #[.string (str (encTI xmin xmax fz key val).1), .int .i64 (encTI xmin xmax fz key val).2]) ∧ Below w.heap.size w w' := by
 unfold encTI
 cases h : tupOk xmin xmax (str key) (str val) with
 | false => exact enc_bad xmin xmax fz (str key) (str val) w h
 | true =>
  have hn : xmin = ((xmin.toNat : Nat) : Int) ∧ xmax = ((xmax.toNat : Nat) : Int) := by
   unfold tupOk at h
   simp at h
   omega
  obtain ⟨a, rfl⟩ : ∃ a : Nat, xmin = a := ⟨_, hn.1⟩
  obtain ⟨b, rfl⟩ : ∃ b : Nat, xmax = b := ⟨_, hn.2⟩
  rw [if_pos rfl, Int.toNat_natCast, Int.toNat_natCast]
  cases fz with
  | true => exact enc_yes a b (str key) (str val) w h
  | false => exact enc_no a b (str key) (str val) w h
theorem encTI_len (xmin xmax : Int) (fz : Bool) (key val : List UInt8) : ((encTI xmin xmax fz key val).1.length : Int) ≤ 1000 := by
 unfold encTI
 split
 ·rename_i h
  have h3 : key.length ≤ 24 ∧ val.length ≤ 64 := by
   unfold tupOk fitsB at h
   rw [str_size, str_size] at h
   simp only [Bool.and_eq_true, decide_eq_true_eq] at h
   exact ⟨h.1.2.2, h.2⟩
  have h1 := sev_length key.length
  have h2 := sev_length val.length
  unfold tupS txt
  simp [bigS]
  omega
 ·simp
def insD (P : Pg) (R : Rc) : Pg × Int :=
 if (decS R.data).isSome = false then (zeroP, 110)
 else if R.slot = P.items.length then putN P P.items.length R.data
 else if 0 ≤ R.slot ∧ R.slot < P.items.length ∧ stateS (P.items.getD R.slot.toNat []) ≠ 1 then (zeroP, 110)
 else withN P R.slot R.data
def turnD (P : Pg) (slot : Int) (ch : Tup → Int × Bool × Bool) : Pg × Int :=
 if 0 ≤ slot ∧ slot < P.items.length then
  match decS (P.items.getD slot.toNat []) with
  | none => (zeroP, 110)
  | some T =>
   if (ch T).2.2 = false then (zeroP, 110)
   else if (encTI T.xmin (ch T).1 (ch T).2.1 T.key T.val).2 ≠ 0 then (zeroP, (encTI T.xmin (ch T).1 (ch T).2.1 T.key T.val).2)
   else withN P slot (encTI T.xmin (ch T).1 (ch T).2.1 T.key T.val).1
 else (zeroP, 110)
def chMark (R : Rc) (T : Tup) : Int × Bool × Bool := (R.new, T.frozen, decide ((T.xmax : Int) = R.old))
def markD (P : Pg) (R : Rc) : Pg × Int := turnD P R.slot (chMark R)
def deadTI (key : List UInt8) : List UInt8 × Int := if fitsB (str key) then (deadS key, 0) else ([], 110)
def undoD (P : Pg) (R : Rc) : Pg × Int :=
 if R.old ≠ 0 ∨ R.new ≠ 0 then markD P R
 else if 0 ≤ R.slot ∧ R.slot < P.items.length ∧ stateS (P.items.getD R.slot.toNat []) = 3 then
  (if (deadTI (keyS (P.items.getD R.slot.toNat [])).1).2 ≠ 0 then (zeroP, (deadTI (keyS (P.items.getD R.slot.toNat [])).1).2) else withN P R.slot (deadTI (keyS (P.items.getD R.slot.toNat [])).1).1)
 else (zeroP, 110)
def enterD (P : Pg) (R : Rc) : Pg × Int :=
 if P.level ≠ 0 then (if (unsN R.data).2.2 ≠ 0 then (zeroP, (unsN R.data).2.2) else postN P (unsN R.data).1 (unsN R.data).2.1)
 else if (decN R.data).2 ≠ 0 then (zeroP, (decN R.data).2) else insN P (decN R.data).1
def leaveD (P : Pg) (R : Rc) : Pg × Int := if (decN R.data).2 ≠ 0 then (zeroP, (decN R.data).2) else remN P (decN R.data).1
end Go.Proofs.YtmhepfehcakmjaaGreat
namespace Go.Proofs.YtmhepfehcakmjaaGreat
open Go.RowKit
attribute [local go_sem] givesV lookV knAt givesF_none givesF_some evalF_tmp evalF_const evalF_global evalF_func lookL isB_bool isB_undef givesUpon_value givesUpon_skip givesUpon_enter
theorem deed_new (P : Pg) (iv : Value) (R : Rc) (V : RcV) (w_ w0 : World) (h : w0 = ((w_.alloc (.cells (pgCells P iv).toArray 24)).alloc (.cells (rcC R V).toArray 33)).alloc (.cells #[.int .i64 0, .int .i64 0, .int .i64 0, .int .i64 0, .string ⟨#[]⟩, .slice none 0 0] 24)) :
  Grow w_ w0 ∧ Blk w0 w_.heap.size 24 (pgCells P iv) ∧ Blk w0 (w_.heap.size + 1) 33 (rcC R V) ∧ Blk w0 (w_.heap.size + 2) 24 [.int .i64 0, .int .i64 0, .int .i64 0, .int .i64 0, .string ⟨#[]⟩, .slice none 0 0] := by
 refine ⟨?_, ?_, ?_, ?_⟩
 ·subst h; exact (((Grow.refl w_).alloc _).alloc _).alloc _
 ·subst h; exact ((Blk.new w_ _ _).alloc _).alloc _
 ·have := Blk.new (w_.alloc (.cells (pgCells P iv).toArray 24)) 33 (rcC R V)
  have e9 : (w_.alloc (.cells (pgCells P iv).toArray 24)).heap.size = w_.heap.size + 1 := by simp
  rw [e9] at this
  subst h; exact this.alloc _
 ·have := Blk.new ((w_.alloc (.cells (pgCells P iv).toArray 24)).alloc (.cells (rcC R V).toArray 33)) 24 [.int .i64 0, .int .i64 0, .int .i64 0, .int .i64 0, .string ⟨#[]⟩, .slice none 0 0]
  have e9 : ((w_.alloc (.cells (pgCells P iv).toArray 24)).alloc (.cells (rcC R V).toArray 33)).heap.size = w_.heap.size + 2 := by simp
  rw [e9] at this
  subst h; exact this
theorem deed_res {f : Func} {i j : Nat} (hf : f.results = #[.cell i 24, .tmp j]) (tm : Array Value) (w : World) (b : Nat) (g : Int) (Q : Pg) (jv : Value) (hi : tm.getD i undef = .pointer (some ⟨b, 0, none⟩)) (hj : tm.getD j undef = .int .i64 g) (hB : Blk w b 24 (pgCells Q jv)) :
  (results f tm).run Tryz.prog w = .ok (.tuple #[pgV Q jv, .int .i64 g]) w := by
 unfold pgCells at hB
 obtain ⟨s0, s1, s2, s3, s4, s5, _⟩ := pgres hB
 simp only [Array.getD_eq_getD_getElem?] at hi hj
 simp [results, hf, go_sem, hi, hj, s0, s1, s2, s3, s4, s5, pgV]
theorem item_cell {w : World} {iv : Value} {l : List (List UInt8)} (h : Items w iv l) {k : Nat} (hk : k < l.length) : ∃ c off cap, iv = .slice (some ⟨c, off, none⟩) l.length cap ∧ ∀ u, Grow w u → u.cell? ⟨c, off + k, none⟩ = some (.string (str l[k])) := by
 obtain ⟨c, off, cap, e, hc⟩ := items_cells h (by omega)
 exact ⟨c, off, cap, e, fun u hu => (hu.cell (World.block_lt_of_cell? w _ (hc k hk))).trans (hc k hk)⟩
def tupC (T : Tup) : List Value := [.int .i64 T.xmin, .int .i64 T.xmax, .bool T.frozen, .string (str T.key), .string (str T.val)]
theorem deadTI_any (key : List UInt8) (w : World) : Calls Tryz.prog 39 #[.string (str key)] w fun e w' => e = .returned (.tuple #[.string (str (deadTI key).1), .int .i64 (deadTI key).2]) ∧ Below w.heap.size w w' := by
 unfold deadTI
 cases h : fitsB (str key) with
 | true =>
  have := dead_ok (str key) w h
  simp only [str_toList] at this
  exact this
 | false => exact (dead_bad (str key) w h).mono fun e w' ⟨h1, h2⟩ => ⟨h1, by subst h2; exact Below.refl _ _⟩
theorem deadTI_len (key : List UInt8) : ((deadTI key).1.length : Int) ≤ 1000 := by
 unfold deadTI
 split
 ·rename_i h
  have h3 : key.length ≤ 24 := by
   unfold fitsB at h
   rw [str_size] at h
   simp only [Bool.and_eq_true, decide_eq_true_eq] at h
   exact h.2
  have h1 := sev_length key.length
  have h2 := sev_length 4
  unfold deadS txt
  simp
  omega
 ·simp
theorem ne_blk {w : World} {b t t' : Nat} {cs : List Value} (h : Blk w b t cs) (ht : t ≠ t') : ∀ blk f, w.heap[b]? ≠ some (.cells blk t' f) := by
 intro blk f hc
 unfold Blk at h
 rw [h] at hc
 simp only [Option.some.injEq, Obj.cells.injEq] at hc
 exact ht hc.2.1
theorem cpg_zero {Z1 : Pg} {Z2 c : Int} {w u : World} (h : (Z1, Z2) = (zeroP, c)) (hb : Below w.heap.size w u) : CpgPost Z1 Z2 w (.returned (.tuple #[pgV zeroP (.slice none 0 0), .int .i64 c])) u := by
 cases h
 exact ⟨_, rfl, (ItemsC.nil _).1, hb⟩
theorem cpg_of {P : Pg} {c : Int} {w u : World} {e : Ending} (h : PgPost P c w e u) : CpgPost P c w e u := by
 obtain ⟨iv, h1, h2, h3⟩ := h
 exact ⟨iv, h1, h2.1, h3⟩
set_option maxRecDepth 100000 in
set_option maxHeartbeats 4000000 in
theorem settle1_any (m : Int) (P : Pg) (iv : Value) (R : Rc) (V : RcV) (s : Nat) (hs8 : s < 256) (cb : Nat) (w_ : World) (hin : PgIn w_ iv P) (hs : Blk w_ cb 96 [.int .u8 s]) :
  Calls Tryz.prog 84 #[.int .i64 m, pgV P iv, rcV R V, .pointer (some ⟨cb, 0, none⟩)] w_ (CpgPost (setS m P R.xid s).1 (setS m P R.xid s).2 w_) := by
 obtain ⟨w0, hw0⟩ : ∃ w0, w0 = ((w_.alloc (.cells (pgCells P iv).toArray 24)).alloc (.cells (rcC R V).toArray 33)).alloc (.cells #[.int .i64 0, .int .i64 0, .int .i64 0, .int .i64 0, .string ⟨#[]⟩, .slice none 0 0] 24) := ⟨_, rfl⟩
 obtain ⟨hg0, hP0, hC0, hZ0⟩ := deed_new P iv R V w_ w0 hw0
 obtain ⟨ia, ic, rfl⟩ := items_form hin.1
 obtain ⟨Z, hZ⟩ : ∃ Z, setS m P R.xid s = Z := ⟨_, rfl⟩
 have hca := set_any m P (.slice ia P.items.length ic) R.xid s w0 (hin.fits hg0).1 (fun x hx => by have := hin.2.1 x hx; omega) hs8
 rw [hZ] at hca ⊢
 have HG0 := keep hg0
 have HP := keep (fun (u : World) (hu : Grow w0 u) => pgres (hP0.fits hu))
 have HC := keep (fun (u : World) (hu : Grow w0 u) => recres (hC0.fits hu))
 have HZ := keep hZ0
 have hlt := hZ0.lt
 have hx := (hs.fits hg0).cell 0 (by simp)
 simp only [List.getElem_cons_zero] at hx
 unfold pgCells rcC at hw0
 have HGr := keep (Grow.refl w0)
 have HCa := keep hca
 clear hin hZ hg0 hP0 hC0 hZ0 hs hca
 obtain ⟨Z1, Z2⟩ := Z
 unfold pgV rcV
 go_enter Tryz.func84, Tryz.ntmps84
 go_upto_region 1 with fail
 rw [← hw0]
 clear hw0
 obtain ⟨p0, p1, p2, p3, p4, p5, _⟩ := HP.out w0 (Grow.refl _)
 obtain ⟨⟨c0, c1, c2, c3, c4, c5, c6, c7, c8, c9, c10, c11, c12, c13, c14, c15⟩, _⟩ := HC.out w0 (Grow.refl _)
 have HCall := keep (HCa.out)
 unfold CpgPost pgV at HCall
 go_wp2_with fail
 refine HCall.out.mono ?_
 rintro y wc ⟨jv, rfl, hj, hbc⟩
 obtain ⟨ja, jc, rfl⟩ := itemsS_form hj
 have HJ := keep hj
 have HGc := keep (Grow.trans HGr.out hbc)
 have HZx := keep (HZ.out.fits HGc.out)
 clear hj hbc HCall
 go_wp2_with ((refine wpList_store_box sizePage rfl _ _ rfl (w_.heap.size + 2) _ rfl rfl HZx.out rfl rfl rfl ?_); intro wz hset hbz; have Hset := keep hset; have Hbut := keep hbz; clear hset hbz)
 refine bodyPost_ret (v := .tuple #[pgV Z1 (.slice ja Z1.items.length jc), .int .i64 Z2]) ?_ rfl ⟨_, rfl, HJ.out.but Hbut.out (ne_blk HZx.out (by decide)), But.below (Grow.trans HG0.out HGc.out) Hbut.out (by omega) (Grow.trans HG0.out HGc.out).size⟩
 exact deed_res Tryz.results84 _ _ _ _ Z1 _ rfl rfl Hset.out
set_option maxRecDepth 100000 in
set_option maxHeartbeats 4000000 in
theorem leave_any (m : Int) (P : Pg) (iv : Value) (R : Rc) (V : RcV) (w_ : World) (hin : PgIn w_ iv P) (hl : P.items.length ≤ 8796093021952) (hr : RcIn w_ R V) :
  Calls Tryz.prog 50 #[.int .i64 m, pgV P iv, rcV R V] w_ (CpgPost (leaveD P R).1 (leaveD P R).2 w_) := by
 obtain ⟨w0, hw0⟩ : ∃ w0, w0 = ((w_.alloc (.cells (pgCells P iv).toArray 24)).alloc (.cells (rcC R V).toArray 33)).alloc (.cells #[.int .i64 0, .int .i64 0, .int .i64 0, .int .i64 0, .string ⟨#[]⟩, .slice none 0 0] 24) := ⟨_, rfl⟩
 obtain ⟨hg0, hP0, hC0, hZ0⟩ := deed_new P iv R V w_ w0 hw0
 obtain ⟨ia, ic, rfl⟩ := items_form hin.1
 obtain ⟨Z, hZ⟩ : ∃ Z, leaveD P R = Z := ⟨_, rfl⟩
 rw [hZ]
 have HIn := keep (hin.fits hg0)
 have HR := keep (hr.fits hg0)
 have HL := keep hl
 have HZe := keep hZ
 have HG0 := keep hg0
 have HP := keep (fun (u : World) (hu : Grow w0 u) => pgres (hP0.fits hu))
 have HC := keep (fun (u : World) (hu : Grow w0 u) => recres (hC0.fits hu))
 have HPb := keep hP0
 have HCb := keep hC0
 have HZ := keep hZ0
 have hlt := hZ0.lt
 unfold pgCells rcC at hw0
 clear hin hr hl hZ hg0 hP0 hC0 hZ0
 obtain ⟨Z1, Z2⟩ := Z
 unfold pgV rcV
 go_enter Tryz.func50, Tryz.ntmps50
 go_upto_region 1 with fail
 rw [← hw0]
 clear hw0
 obtain ⟨p0, p1, p2, p3, p4, p5, _⟩ := HP.out w0 (Grow.refl _)
 obtain ⟨⟨c0, c1, c2, c3, c4, c5, c6, c7, c8, c9, c10, c11, c12, c13, c14, c15⟩, _⟩ := HC.out w0 (Grow.refl _)
 have hde := decode_any R.data w0 (by have := HR.out.data; omega)
 have hz := HZe.out
 unfold leaveD at hz
 have hca := fun (u : World) (hu : Grow w0 u) => (remove_fn P (.slice ia P.items.length ic) (decN R.data).1 u (HIn.out.fits hu)).mono fun _ _ h => cpg_of h
 generalize decN R.data = Y at *
 obtain ⟨⟨ek, ep, es⟩, ec⟩ := Y
 unfold enV at hde
 dsimp only at hde hz hca
 have HDe := keep hde
 have HCa := keep hca
 have HY := keep hz
 clear hde hca hz
 go_wp2_with fail
 refine HDe.out.mono ?_
 rintro x w1 ⟨rfl, hb1⟩
 have HG1 := keep (show Grow w0 w1 from hb1)
 clear p0 p1 p2 p3 p4 p5 c0 c1 c2 c3 c4 c5 c6 c7 c8 c9 c10 c11 c12 c13 c14 c15 hb1 HDe
 go_upto_region 2 with fail
 obtain ⟨w2, hw2⟩ : ∃ w2, w2 = w1.alloc (.cells #[.string (str ek), .int .i64 ep, .int .i64 es] 102) := ⟨_, rfl⟩
 rw [← hw2]
 have hg2 : Grow w1 w2 := by subst hw2; exact (Grow.refl _).alloc _
 have hE2 : Blk w2 w1.heap.size 102 [.string (str ek), .int .i64 ep, .int .i64 es] := by subst hw2; exact Blk.new w1 _ [_, _, _]
 have HG2 := keep (Grow.trans HG1.out hg2)
 obtain ⟨e0, e1, e2⟩ := (show w2.cell? ⟨w1.heap.size, 0, none⟩ = some (.string (str ek)) ∧ w2.cell? ⟨w1.heap.size, 1, none⟩ = some (.int .i64 ep) ∧ w2.cell? ⟨w1.heap.size, 2, none⟩ = some (.int .i64 es) from ⟨hE2.cell 0 (by simp), hE2.cell 1 (by simp), hE2.cell 2 (by simp)⟩)
 clear hw2 hg2 hE2
 by_cases hc : ec = 0
 ·subst hc
  have hy : remN P (ek, ep, es) = (Z1, Z2) := by rw [← HY.out, if_neg (by simp)]
  obtain ⟨p0, p1, p2, p3, p4, p5, _⟩ := HP.out w2 HG2.out
  have hcb := HCa.out w2 HG2.out
  rw [hy] at hcb
  have HCb2 := keep hcb
  clear hcb hy
  unfold pgV enV at HCb2
  have HCall := keep (HCb2.out)
  unfold CpgPost pgV at HCall
  go_wp2_with fail
  refine HCall.out.mono ?_
  rintro y wc ⟨jv, rfl, hj, hbc⟩
  obtain ⟨ja, jc, rfl⟩ := itemsS_form hj
  have HJ := keep hj
  have HGc := keep (Grow.trans HG2.out hbc)
  have HZx := keep (HZ.out.fits HGc.out)
  clear hj hbc HCall
  go_wp2_with ((refine wpList_store_box sizePage rfl _ _ rfl (w_.heap.size + 2) _ rfl rfl HZx.out rfl rfl rfl ?_); intro wz hset hbz; have Hset := keep hset; have Hbut := keep hbz; clear hset hbz)
  refine bodyPost_ret (v := .tuple #[pgV Z1 (.slice ja Z1.items.length jc), .int .i64 Z2]) ?_ rfl ⟨_, rfl, HJ.out.but Hbut.out (ne_blk HZx.out (by decide)), But.below (Grow.trans HG0.out HGc.out) Hbut.out (by omega) (Grow.trans HG0.out HGc.out).size⟩
  exact deed_res Tryz.results50 _ _ _ _ Z1 _ rfl rfl Hset.out
 ·have hcc : (ec != 0) = true := by simp [hc]
  have HRes := keep (show (Z1, Z2) = (zeroP, ec) by rw [← HY.out, if_pos hc])
  clear hc e0 e1 e2
  have HZx := keep (HZ.out.fits HG2.out)
  go_wp2_with ((refine wpList_store_box sizePage rfl _ _ rfl (w_.heap.size + 2) _ rfl rfl HZx.out rfl rfl rfl ?_); intro wz hset hbz; have Hset := keep hset; have Hbut := keep hbz; clear hset hbz)
  refine bodyPost_ret (v := .tuple #[pgV zeroP (.slice none 0 0), .int .i64 (ec)]) ?_ rfl (cpg_zero (HRes.out) (But.below (Grow.trans HG0.out HG2.out) Hbut.out (by omega) (Grow.trans HG0.out HG2.out).size))
  exact deed_res Tryz.results50 _ _ _ _ zeroP _ rfl rfl Hset.out
set_option maxRecDepth 100000 in
set_option maxHeartbeats 4000000 in
theorem enter_any (m : Int) (P : Pg) (iv : Value) (R : Rc) (V : RcV) (w_ : World) (hin : PgIn w_ iv P) (hl : P.items.length ≤ 8796093021952) (hr : RcIn w_ R V) :
  Calls Tryz.prog 49 #[.int .i64 m, pgV P iv, rcV R V] w_ (CpgPost (enterD P R).1 (enterD P R).2 w_) := by
 obtain ⟨w0, hw0⟩ : ∃ w0, w0 = ((w_.alloc (.cells (pgCells P iv).toArray 24)).alloc (.cells (rcC R V).toArray 33)).alloc (.cells #[.int .i64 0, .int .i64 0, .int .i64 0, .int .i64 0, .string ⟨#[]⟩, .slice none 0 0] 24) := ⟨_, rfl⟩
 obtain ⟨hg0, hP0, hC0, hZ0⟩ := deed_new P iv R V w_ w0 hw0
 obtain ⟨ia, ic, rfl⟩ := items_form hin.1
 obtain ⟨Z, hZ⟩ : ∃ Z, enterD P R = Z := ⟨_, rfl⟩
 rw [hZ]
 have HIn := keep (hin.fits hg0)
 have HR := keep (hr.fits hg0)
 have HL := keep hl
 have HZe := keep hZ
 have HG0 := keep hg0
 have HP := keep (fun (u : World) (hu : Grow w0 u) => pgres (hP0.fits hu))
 have HC := keep (fun (u : World) (hu : Grow w0 u) => recres (hC0.fits hu))
 have HPb := keep hP0
 have HCb := keep hC0
 have HZ := keep hZ0
 have hlt := hZ0.lt
 unfold pgCells rcC at hw0
 clear hin hr hl hZ hg0 hP0 hC0 hZ0
 obtain ⟨Z1, Z2⟩ := Z
 unfold pgV rcV
 go_enter Tryz.func49, Tryz.ntmps49
 go_upto_region 1 with fail
 rw [← hw0]
 clear hw0
 obtain ⟨p0, p1, p2, p3, p4, p5, _⟩ := HP.out w0 (Grow.refl _)
 obtain ⟨⟨c0, c1, c2, c3, c4, c5, c6, c7, c8, c9, c10, c11, c12, c13, c14, c15⟩, _⟩ := HC.out w0 (Grow.refl _)
 have hz := HZe.out
 unfold enterD at hz
 by_cases hlv : P.level = 0
 ·have hl2 : (P.level != 0) = false := by simp [hlv]
  rw [if_neg (by simp [hlv])] at hz
  have hde := decode_any R.data w0 (by have := HR.out.data; omega)
  have hca := fun (u : World) (hu : Grow w0 u) => (insert_any P (.slice ia P.items.length ic) (decN R.data).1 u (HIn.out.fits hu)).mono fun _ _ h => cpg_of h
  generalize decN R.data = Y at *
  obtain ⟨⟨ek, ep, es⟩, ec⟩ := Y
  unfold enV at hde
  dsimp only at hde hz hca
  have HDe := keep hde
  have HCa := keep hca
  have HY := keep hz
  clear hde hca hz hlv
  go_wp2_with fail
  refine HDe.out.mono ?_
  rintro x w1 ⟨rfl, hb1⟩
  have HG1 := keep (show Grow w0 w1 from hb1)
  clear p0 p1 p2 p3 p4 p5 c0 c1 c2 c3 c4 c5 c6 c7 c8 c9 c10 c11 c12 c13 c14 c15 hb1 HDe hl2
  go_upto_region 7 with fail
  obtain ⟨w2, hw2⟩ : ∃ w2, w2 = w1.alloc (.cells #[.string (str ek), .int .i64 ep, .int .i64 es] 102) := ⟨_, rfl⟩
  rw [← hw2]
  have hg2 : Grow w1 w2 := by subst hw2; exact (Grow.refl _).alloc _
  have hE2 : Blk w2 w1.heap.size 102 [.string (str ek), .int .i64 ep, .int .i64 es] := by subst hw2; exact Blk.new w1 _ [_, _, _]
  have HG2 := keep (Grow.trans HG1.out hg2)
  obtain ⟨e0, e1, e2⟩ := (show w2.cell? ⟨w1.heap.size, 0, none⟩ = some (.string (str ek)) ∧ w2.cell? ⟨w1.heap.size, 1, none⟩ = some (.int .i64 ep) ∧ w2.cell? ⟨w1.heap.size, 2, none⟩ = some (.int .i64 es) from ⟨hE2.cell 0 (by simp), hE2.cell 1 (by simp), hE2.cell 2 (by simp)⟩)
  clear hw2 hg2 hE2
  by_cases hc : ec = 0
  ·subst hc
   have hy : insN P (ek, ep, es) = (Z1, Z2) := by rw [← HY.out, if_neg (by simp)]
   obtain ⟨p0, p1, p2, p3, p4, p5, _⟩ := HP.out w2 HG2.out
   have hcb := HCa.out w2 HG2.out
   rw [hy] at hcb
   have HCb2 := keep hcb
   clear hcb hy
   unfold pgV enV at HCb2
   have HCall := keep (HCb2.out)
   unfold CpgPost pgV at HCall
   go_wp2_with fail
   refine HCall.out.mono ?_
   rintro y wc ⟨jv, rfl, hj, hbc⟩
   obtain ⟨ja, jc, rfl⟩ := itemsS_form hj
   have HJ := keep hj
   have HGc := keep (Grow.trans HG2.out hbc)
   have HZx := keep (HZ.out.fits HGc.out)
   clear hj hbc HCall
   go_wp2_with ((refine wpList_store_box sizePage rfl _ _ rfl (w_.heap.size + 2) _ rfl rfl HZx.out rfl rfl rfl ?_); intro wz hset hbz; have Hset := keep hset; have Hbut := keep hbz; clear hset hbz)
   refine bodyPost_ret (v := .tuple #[pgV Z1 (.slice ja Z1.items.length jc), .int .i64 Z2]) ?_ rfl ⟨_, rfl, HJ.out.but Hbut.out (ne_blk HZx.out (by decide)), But.below (Grow.trans HG0.out HGc.out) Hbut.out (by omega) (Grow.trans HG0.out HGc.out).size⟩
   exact deed_res Tryz.results49 _ _ _ _ Z1 _ rfl rfl Hset.out
  ·have hcc : (ec != 0) = true := by simp [hc]
   have HRes := keep (show (Z1, Z2) = (zeroP, ec) by rw [← HY.out, if_pos hc])
   clear hc e0 e1 e2
   have HZx := keep (HZ.out.fits HG2.out)
   go_wp2_with ((refine wpList_store_box sizePage rfl _ _ rfl (w_.heap.size + 2) _ rfl rfl HZx.out rfl rfl rfl ?_); intro wz hset hbz; have Hset := keep hset; have Hbut := keep hbz; clear hset hbz)
   refine bodyPost_ret (v := .tuple #[pgV zeroP (.slice none 0 0), .int .i64 (ec)]) ?_ rfl (cpg_zero (HRes.out) (But.below (Grow.trans HG0.out HG2.out) Hbut.out (by omega) (Grow.trans HG0.out HG2.out).size))
   exact deed_res Tryz.results49 _ _ _ _ zeroP _ rfl rfl Hset.out
 ·have hl2 : (P.level != 0) = true := by simp [hlv]
  rw [if_pos (by simp [hlv])] at hz
  have hde := unsep_any R.data w0 (by have := HR.out.data; omega)
  have hca := fun (u : World) (hu : Grow w0 u) => (post_any P (.slice ia P.items.length ic) (unsN R.data).1 (unsN R.data).2.1 u (HIn.out.fits hu)).mono fun _ _ h => cpg_of h
  generalize unsN R.data = Y at *
  obtain ⟨⟨ek, ep, es⟩, ch, ec⟩ := Y
  unfold enV at hde
  dsimp only at hde hz hca
  have HDe := keep hde
  have HCa := keep hca
  have HY := keep hz
  clear hde hca hz hlv
  go_wp2_with fail
  refine HDe.out.mono ?_
  rintro x w1 ⟨rfl, hb1⟩
  have HG1 := keep (show Grow w0 w1 from hb1)
  clear p0 p1 p2 p3 p4 p5 c0 c1 c2 c3 c4 c5 c6 c7 c8 c9 c10 c11 c12 c13 c14 c15 hb1 HDe hl2
  go_upto_region 3 with fail
  obtain ⟨w2, hw2⟩ : ∃ w2, w2 = w1.alloc (.cells #[.string (str ek), .int .i64 ep, .int .i64 es] 102) := ⟨_, rfl⟩
  rw [← hw2]
  have hg2 : Grow w1 w2 := by subst hw2; exact (Grow.refl _).alloc _
  have hE2 : Blk w2 w1.heap.size 102 [.string (str ek), .int .i64 ep, .int .i64 es] := by subst hw2; exact Blk.new w1 _ [_, _, _]
  have HG2 := keep (Grow.trans HG1.out hg2)
  obtain ⟨e0, e1, e2⟩ := (show w2.cell? ⟨w1.heap.size, 0, none⟩ = some (.string (str ek)) ∧ w2.cell? ⟨w1.heap.size, 1, none⟩ = some (.int .i64 ep) ∧ w2.cell? ⟨w1.heap.size, 2, none⟩ = some (.int .i64 es) from ⟨hE2.cell 0 (by simp), hE2.cell 1 (by simp), hE2.cell 2 (by simp)⟩)
  clear hw2 hg2 hE2
  by_cases hc : ec = 0
  ·subst hc
   have hy : postN P (ek, ep, es) ch = (Z1, Z2) := by rw [← HY.out, if_neg (by simp)]
   obtain ⟨p0, p1, p2, p3, p4, p5, _⟩ := HP.out w2 HG2.out
   have hcb := HCa.out w2 HG2.out
   rw [hy] at hcb
   have HCb2 := keep hcb
   clear hcb hy
   unfold pgV enV at HCb2
   have HCall := keep (HCb2.out)
   unfold CpgPost pgV at HCall
   go_wp2_with fail
   refine HCall.out.mono ?_
   rintro y wc ⟨jv, rfl, hj, hbc⟩
   obtain ⟨ja, jc, rfl⟩ := itemsS_form hj
   have HJ := keep hj
   have HGc := keep (Grow.trans HG2.out hbc)
   have HZx := keep (HZ.out.fits HGc.out)
   clear hj hbc HCall
   go_wp2_with ((refine wpList_store_box sizePage rfl _ _ rfl (w_.heap.size + 2) _ rfl rfl HZx.out rfl rfl rfl ?_); intro wz hset hbz; have Hset := keep hset; have Hbut := keep hbz; clear hset hbz)
   refine bodyPost_ret (v := .tuple #[pgV Z1 (.slice ja Z1.items.length jc), .int .i64 Z2]) ?_ rfl ⟨_, rfl, HJ.out.but Hbut.out (ne_blk HZx.out (by decide)), But.below (Grow.trans HG0.out HGc.out) Hbut.out (by omega) (Grow.trans HG0.out HGc.out).size⟩
   exact deed_res Tryz.results49 _ _ _ _ Z1 _ rfl rfl Hset.out
  ·have hcc : (ec != 0) = true := by simp [hc]
   have HRes := keep (show (Z1, Z2) = (zeroP, ec) by rw [← HY.out, if_pos hc])
   clear hc e0 e1 e2
   have HZx := keep (HZ.out.fits HG2.out)
   go_wp2_with ((refine wpList_store_box sizePage rfl _ _ rfl (w_.heap.size + 2) _ rfl rfl HZx.out rfl rfl rfl ?_); intro wz hset hbz; have Hset := keep hset; have Hbut := keep hbz; clear hset hbz)
   refine bodyPost_ret (v := .tuple #[pgV zeroP (.slice none 0 0), .int .i64 (ec)]) ?_ rfl (cpg_zero (HRes.out) (But.below (Grow.trans HG0.out HG2.out) Hbut.out (by omega) (Grow.trans HG0.out HG2.out).size))
   exact deed_res Tryz.results49 _ _ _ _ zeroP _ rfl rfl Hset.out
set_option maxRecDepth 100000 in
set_option maxHeartbeats 4000000 in
theorem insert16_any (m : Int) (P : Pg) (iv : Value) (R : Rc) (V : RcV) (w_ : World) (hin : PgIn w_ iv P) (hl : P.items.length ≤ 8796093021952) (hr : RcIn w_ R V) :
  Calls Tryz.prog 46 #[.int .i64 m, pgV P iv, rcV R V] w_ (CpgPost (insD P R).1 (insD P R).2 w_) := by
 obtain ⟨w0, hw0⟩ : ∃ w0, w0 = ((w_.alloc (.cells (pgCells P iv).toArray 24)).alloc (.cells (rcC R V).toArray 33)).alloc (.cells #[.int .i64 0, .int .i64 0, .int .i64 0, .int .i64 0, .string ⟨#[]⟩, .slice none 0 0] 24) := ⟨_, rfl⟩
 obtain ⟨hg0, hP0, hC0, hZ0⟩ := deed_new P iv R V w_ w0 hw0
 obtain ⟨ia, ic, rfl⟩ := items_form hin.1
 obtain ⟨Z, hZ⟩ : ∃ Z, insD P R = Z := ⟨_, rfl⟩
 rw [hZ]
 have HIn := keep (hin.fits hg0)
 have HR := keep (hr.fits hg0)
 have HL := keep hl
 have HZe := keep hZ
 have HG0 := keep hg0
 have HP := keep (fun (u : World) (hu : Grow w0 u) => pgres (hP0.fits hu))
 have HC := keep (fun (u : World) (hu : Grow w0 u) => recres (hC0.fits hu))
 have HPb := keep hP0
 have HCb := keep hC0
 have HZ := keep hZ0
 have hlt := hZ0.lt
 unfold pgCells rcC at hw0
 clear hin hr hl hZ hg0 hP0 hC0 hZ0
 obtain ⟨Z1, Z2⟩ := Z
 unfold pgV rcV
 go_enter Tryz.func46, Tryz.ntmps46
 go_upto_region 1 with fail
 rw [← hw0]
 clear hw0
 obtain ⟨p0, p1, p2, p3, p4, p5, _⟩ := HP.out w0 (Grow.refl _)
 obtain ⟨⟨c0, c1, c2, c3, c4, c5, c6, c7, c8, c9, c10, c11, c12, c13, c14, c15⟩, _⟩ := HC.out w0 (Grow.refl _)
 have hz := HZe.out
 unfold insD at hz
 have hde := tdecode_any (str R.data) w0 (by have := HR.out.data; simp; omega)
 unfold DecPost tupV at hde
 simp only [str_toList] at hde
 obtain ⟨o, ho⟩ : ∃ o, decS R.data = o := ⟨_, rfl⟩
 simp only [ho] at hde hz
 clear ho
 obtain ⟨T, hT⟩ : ∃ T, o.getD noTup = T := ⟨_, rfl⟩
 obtain ⟨cd, hcd⟩ : ∃ cd : Int, (if o.isSome = true then (0 : Int) else 110) = cd := ⟨_, rfl⟩
 obtain ⟨bb, hbb⟩ : ∃ b, o.isSome = b := ⟨_, rfl⟩
 have hcz : cd = if bb then 0 else 110 := by subst hcd hbb; cases o <;> rfl
 simp only [hcd, hT] at hde
 rw [hbb] at hz
 clear hT hcd hbb
 have HDe := keep hde
 have HY := keep hz
 clear hde hz
 go_wp2_with fail
 refine HDe.out.mono ?_
 rintro x w1 ⟨rfl, hb1⟩
 have HG1 := keep (show Grow w0 w1 from hb1)
 clear p0 p1 p2 p3 p4 p5 c0 c1 c2 c3 c4 c5 c6 c7 c8 c9 c10 c11 c12 c13 c14 c15 hb1 HDe
 go_upto_region 2 with fail
 obtain ⟨w2, hw2⟩ : ∃ w2, w2 = w1.alloc (.cells #[.int .i64 T.xmin, .int .i64 T.xmax, .bool T.frozen, .string (str T.key), .string (str T.val)] 51) := ⟨_, rfl⟩
 rw [← hw2]
 have hg2 : Grow w1 w2 := by subst hw2; exact (Grow.refl _).alloc _
 have HG2 := keep (Grow.trans HG1.out hg2)
 clear hw2 hg2
 cases bb with
 | false =>
  have hcz2 : cd = 110 := hcz
  clear hcz
  subst hcz2
  have HRes := keep (show (Z1, Z2) = (zeroP, 110) by rw [← HY.out, if_pos rfl])
  have HZx := keep (HZ.out.fits HG2.out)
  go_wp2_with ((refine wpList_store_box sizePage rfl _ _ rfl (w_.heap.size + 2) _ rfl rfl HZx.out rfl rfl rfl ?_); intro wz hset hbz; have Hset := keep hset; have Hbut := keep hbz; clear hset hbz)
  refine bodyPost_ret (v := .tuple #[pgV zeroP (.slice none 0 0), .int .i64 (110)]) ?_ rfl (cpg_zero (HRes.out) (But.below (Grow.trans HG0.out HG2.out) Hbut.out (by omega) (Grow.trans HG0.out HG2.out).size))
  exact deed_res Tryz.results46 _ _ _ _ zeroP _ rfl rfl Hset.out
 | true =>
  have hcz2 : cd = 0 := hcz
  clear hcz
  subst hcz2
  have hz := HY.out
  rw [if_neg (by simp)] at hz
  obtain ⟨p0, p1, p2, p3, p4, p5, _⟩ := HP.out w2 HG2.out
  obtain ⟨⟨c0, c1, c2, c3, c4, c5, c6, c7, c8, c9, c10, c11, c12, c13, c14, c15⟩, _⟩ := HC.out w2 HG2.out
  by_cases h1 : R.slot = P.items.length
  ·rw [if_pos h1] at hz
   have hca := (put_any P (.slice ia P.items.length ic) P.items.length R.data w2 (HIn.out.fits HG2.out).1 (Nat.le_refl _) HIn.out.2.1 HR.out.data HIn.out.2.2.1 (by have := HL.out; omega)).mono fun _ _ h => cpg_of h
   rw [hz] at hca
   have HCa := keep hca
   have e1 : (R.slot == (P.items.length : Int)) = true := by simp [h1]
   clear hca hz h1
   unfold pgV at HCa
   have HCall := keep (HCa.out)
   unfold CpgPost pgV at HCall
   go_wp2_with fail
   refine HCall.out.mono ?_
   rintro y wc ⟨jv, rfl, hj, hbc⟩
   obtain ⟨ja, jc, rfl⟩ := itemsS_form hj
   have HJ := keep hj
   have HGc := keep (Grow.trans HG2.out hbc)
   have HZx := keep (HZ.out.fits HGc.out)
   clear hj hbc HCall
   go_wp2_with ((refine wpList_store_box sizePage rfl _ _ rfl (w_.heap.size + 2) _ rfl rfl HZx.out rfl rfl rfl ?_); intro wz hset hbz; have Hset := keep hset; have Hbut := keep hbz; clear hset hbz)
   refine bodyPost_ret (v := .tuple #[pgV Z1 (.slice ja Z1.items.length jc), .int .i64 Z2]) ?_ rfl ⟨_, rfl, HJ.out.but Hbut.out (ne_blk HZx.out (by decide)), But.below (Grow.trans HG0.out HGc.out) Hbut.out (by omega) (Grow.trans HG0.out HGc.out).size⟩
   exact deed_res Tryz.results46 _ _ _ _ Z1 _ rfl rfl Hset.out
  ·rw [if_neg h1] at hz
   have e1 : (R.slot == (P.items.length : Int)) = false := by simp [h1]
   have hca := fun (u : World) (hu : Grow w0 u) => (with_any P (.slice ia P.items.length ic) R.slot R.data u (HIn.out.fits hu) HR.out.data (by have := HL.out; omega)).mono fun _ _ h => cpg_of h
   have HCa := keep hca
   clear hca h1
   by_cases h2 : 0 ≤ R.slot ∧ R.slot < P.items.length
   ·obtain ⟨h3, h4⟩ := h2
    obtain ⟨k, hk⟩ := Int.eq_ofNat_of_zero_le h3
    have hk2 : k < P.items.length := by omega
    obtain ⟨c, off, cap, e5, hcc⟩ := item_cell (HIn.out.fits HG2.out).1 hk2
    simp only [Value.slice.injEq] at e5
    obtain ⟨rfl, -, rfl⟩ := e5
    have q0 := hcc w2 (Grow.refl _)
    have hgd : P.items.getD R.slot.toNat [] = P.items[k] := by rw [hk]; simp [hk2]
    have hst := state_any (str P.items[k]) w2 (by have := HIn.out.2.1 P.items[k] (List.getElem_mem hk2); simp; omega)
    simp only [str_toList] at hst
    rw [hgd, hk] at hz
    rw [hk] at e1 c6 HCa
    have e2 : decide ((0 : Int) ≤ (k : Int)) = true := decide_eq_true (by omega)
    have e3 : decide ((k : Int) < (P.items.length : Int)) = true := decide_eq_true (by omega)
    have e4 : decide (k < P.items.length) = true := decide_eq_true hk2
    obtain ⟨st, hsv⟩ : ∃ st, stateS P.items[k] = st := ⟨_, rfl⟩
    rw [hsv] at hst hz
    have HSt := keep hst
    have HRc := keep hk
    generalize P.items[k] = item at *
    clear hst hsv hcc h3 h4 hgd hk
    go_wp2_with fail
    refine HSt.out.mono ?_
    rintro x w3 ⟨rfl, hb3⟩
    have HG3 := keep (Grow.trans HG2.out hb3)
    clear p0 p1 p2 p3 p4 p5 c0 c1 c2 c3 c4 c5 c6 c7 c8 c9 c10 c11 c12 c13 c14 c15 hb3 HSt q0
    by_cases h5 : st = 1
    ·have e6 : ((st : Int) != 1) = false := by simp [h5]
     rw [if_neg (fun h => h.2.2 h5)] at hz
     have hcb := HCa.out w3 HG3.out
     rw [hz] at hcb
     have HCb2 := keep hcb
     obtain ⟨p0, p1, p2, p3, p4, p5, _⟩ := HP.out w3 HG3.out
     obtain ⟨⟨c0, c1, c2, c3, c4, c5, c6, c7, c8, c9, c10, c11, c12, c13, c14, c15⟩, _⟩ := HC.out w3 HG3.out
     rw [HRc.out] at c6
     clear hcb hz h5
     unfold pgV at HCb2
     have HCall := keep (HCb2.out)
     unfold CpgPost pgV at HCall
     go_wp2_with fail
     refine HCall.out.mono ?_
     rintro y wc ⟨jv, rfl, hj, hbc⟩
     obtain ⟨ja, jc, rfl⟩ := itemsS_form hj
     have HJ := keep hj
     have HGc := keep (Grow.trans HG3.out hbc)
     have HZx := keep (HZ.out.fits HGc.out)
     clear hj hbc HCall
     go_wp2_with ((refine wpList_store_box sizePage rfl _ _ rfl (w_.heap.size + 2) _ rfl rfl HZx.out rfl rfl rfl ?_); intro wz hset hbz; have Hset := keep hset; have Hbut := keep hbz; clear hset hbz)
     refine bodyPost_ret (v := .tuple #[pgV Z1 (.slice ja Z1.items.length jc), .int .i64 Z2]) ?_ rfl ⟨_, rfl, HJ.out.but Hbut.out (ne_blk HZx.out (by decide)), But.below (Grow.trans HG0.out HGc.out) Hbut.out (by omega) (Grow.trans HG0.out HGc.out).size⟩
     exact deed_res Tryz.results46 _ _ _ _ Z1 _ rfl rfl Hset.out
    ·have e6 : ((st : Int) != 1) = true := by simp only [bne_iff_ne, ne_eq]; omega
     have HRes := keep (show (Z1, Z2) = (zeroP, 110) by rw [← hz, if_pos ⟨by omega, by omega, h5⟩])
     clear hz h5
     have HZx := keep (HZ.out.fits HG3.out)
     go_wp2_with ((refine wpList_store_box sizePage rfl _ _ rfl (w_.heap.size + 2) _ rfl rfl HZx.out rfl rfl rfl ?_); intro wz hset hbz; have Hset := keep hset; have Hbut := keep hbz; clear hset hbz)
     refine bodyPost_ret (v := .tuple #[pgV zeroP (.slice none 0 0), .int .i64 (110)]) ?_ rfl (cpg_zero (HRes.out) (But.below (Grow.trans HG0.out HG3.out) Hbut.out (by omega) (Grow.trans HG0.out HG3.out).size))
     exact deed_res Tryz.results46 _ _ _ _ zeroP _ rfl rfl Hset.out
   ·rw [if_neg (fun h => h2 ⟨h.1, h.2.1⟩)] at hz
    have hcb := HCa.out w2 HG2.out
    rw [hz] at hcb
    have HCb2 := keep hcb
    clear hcb hz
    unfold pgV at HCb2
    have hcs : decide ((0 : Int) ≤ R.slot) = false ∨ (decide ((0 : Int) ≤ R.slot) = true ∧ decide (R.slot < (P.items.length : Int)) = false) := by
     by_cases h6 : (0 : Int) ≤ R.slot
     ·exact .inr ⟨decide_eq_true h6, decide_eq_false (fun h => h2 ⟨h6, h⟩)⟩
     ·exact .inl (decide_eq_false h6)
    clear h2
    rcases hcs with e2 | ⟨e2, e3⟩
    ·clear HCa
     have HCall := keep (HCb2.out)
     unfold CpgPost pgV at HCall
     go_wp2_with fail
     refine HCall.out.mono ?_
     rintro y wc ⟨jv, rfl, hj, hbc⟩
     obtain ⟨ja, jc, rfl⟩ := itemsS_form hj
     have HJ := keep hj
     have HGc := keep (Grow.trans HG2.out hbc)
     have HZx := keep (HZ.out.fits HGc.out)
     clear hj hbc HCall
     go_wp2_with ((refine wpList_store_box sizePage rfl _ _ rfl (w_.heap.size + 2) _ rfl rfl HZx.out rfl rfl rfl ?_); intro wz hset hbz; have Hset := keep hset; have Hbut := keep hbz; clear hset hbz)
     refine bodyPost_ret (v := .tuple #[pgV Z1 (.slice ja Z1.items.length jc), .int .i64 Z2]) ?_ rfl ⟨_, rfl, HJ.out.but Hbut.out (ne_blk HZx.out (by decide)), But.below (Grow.trans HG0.out HGc.out) Hbut.out (by omega) (Grow.trans HG0.out HGc.out).size⟩
     exact deed_res Tryz.results46 _ _ _ _ Z1 _ rfl rfl Hset.out
    ·clear HCa
     have HCall := keep (HCb2.out)
     unfold CpgPost pgV at HCall
     go_wp2_with fail
     refine HCall.out.mono ?_
     rintro y wc ⟨jv, rfl, hj, hbc⟩
     obtain ⟨ja, jc, rfl⟩ := itemsS_form hj
     have HJ := keep hj
     have HGc := keep (Grow.trans HG2.out hbc)
     have HZx := keep (HZ.out.fits HGc.out)
     clear hj hbc HCall
     go_wp2_with ((refine wpList_store_box sizePage rfl _ _ rfl (w_.heap.size + 2) _ rfl rfl HZx.out rfl rfl rfl ?_); intro wz hset hbz; have Hset := keep hset; have Hbut := keep hbz; clear hset hbz)
     refine bodyPost_ret (v := .tuple #[pgV Z1 (.slice ja Z1.items.length jc), .int .i64 Z2]) ?_ rfl ⟨_, rfl, HJ.out.but Hbut.out (ne_blk HZx.out (by decide)), But.below (Grow.trans HG0.out HGc.out) Hbut.out (by omega) (Grow.trans HG0.out HGc.out).size⟩
     exact deed_res Tryz.results46 _ _ _ _ Z1 _ rfl rfl Hset.out
end Go.Proofs.YtmhepfehcakmjaaGreat
namespace Go.Proofs.YtmhepfehcakmjaaGreat
open Go.RowKit
attribute [local go_sem] givesV lookV knAt givesF_none givesF_some evalF_tmp evalF_const evalF_global evalF_func lookL isB_bool isB_undef givesUpon_value givesUpon_skip givesUpon_enter
set_option maxRecDepth 100000 in
set_option maxHeartbeats 4000000 in
theorem mark1_any (T : Tup) (b cb : Nat) (R : Rc) (V : RcV) (u : World) (hT : Blk u b 51 (tupC T)) (hR : Blk u cb 33 (rcC R V)) :
  Calls Tryz.prog 78 #[.pointer (some ⟨b, 0, none⟩), .pointer (some ⟨cb, 0, none⟩)] u fun x w' => x = .returned (.bool (chMark R T).2.2) ∧ Blk w' b 51 [.int .i64 T.xmin, .int .i64 (chMark R T).1, .bool (chMark R T).2.1, .string (str T.key), .string (str T.val)] ∧ But b u w' := by
 have hne : b ≠ cb := by
  rintro rfl
  unfold Blk at hT hR
  rw [hT] at hR
  simp only [Option.some.injEq, Obj.cells.injEq] at hR
  exact absurd hR.2.1 (by decide)
 have hB2 := hT.set 1 (.int .i64 R.new)
 have hk := (But.refl b u).setCell 1 (.int .i64 R.new)
 unfold tupC at hT hB2
 simp only [List.set_cons_succ, List.set_cons_zero] at hB2
 obtain ⟨t0, t1, t2, t3, t4⟩ := tures hT
 have z1 := hT.free 1
 have hR2 := hR.but hk (fun h => hne h.symm)
 unfold rcC at hR hR2
 obtain ⟨⟨c0, c1, c2, c3, c4, c5, c6, c7, c8, c9, c10, c11, c12, c13, c14, c15⟩, _⟩ := recres hR
 have HB2 := keep hB2
 have HK := keep hk
 have HR2 := keep hR2
 obtain ⟨bb, hbb⟩ : ∃ bb, decide ((T.xmax : Int) = R.old) = bb := ⟨_, rfl⟩
 have hb2 : ((T.xmax : Int) == R.old) = bb := by rw [← hbb]; rfl
 have HBB := keep hbb
 clear hT hB2 hk hR hR2 hbb t0 t2 t3 t4
 go_enter Tryz.func78, Tryz.ntmps78
 go_upto_region 3 with fail
 obtain ⟨w1, hw1⟩ : ∃ w1, w1 = u.setCell ⟨b, 1, none⟩ (.int .i64 R.new) := ⟨_, rfl⟩
 rw [← hw1]
 have hB3 := HB2.out
 have hk3 := HK.out
 have hR3 := HR2.out
 rw [← hw1] at hB3 hk3 hR3
 have HB3 := keep hB3
 have HK3 := keep hk3
 clear hw1 hB3 hk3 HB2 HK HR2 c0 c1 c2 c3 c4 c5 c6 c7 c8 c9 c10 c11 c12 c13 c14 c15 t1 z1
 obtain ⟨⟨c0, c1, c2, c3, c4, c5, c6, c7, c8, c9, c10, c11, c12, c13, c14, c15⟩, _⟩ := recres hR3
 clear hR3
 go_wp2_with fail
 go_ret
 exact ⟨by unfold chMark; rw [HBB.out]; rfl, HB3.out, HK3.out⟩
theorem turn_new (P : Pg) (iv : Value) (w_ w0 : World) (h : w0 = (w_.alloc (.cells (pgCells P iv).toArray 24)).alloc (.cells #[.int .i64 0, .int .i64 0, .int .i64 0, .int .i64 0, .string ⟨#[]⟩, .slice none 0 0] 24)) :
  Grow w_ w0 ∧ Blk w0 w_.heap.size 24 (pgCells P iv) ∧ Blk w0 (w_.heap.size + 1) 24 [.int .i64 0, .int .i64 0, .int .i64 0, .int .i64 0, .string ⟨#[]⟩, .slice none 0 0] := by
 refine ⟨?_, ?_, ?_⟩
 ·subst h; exact ((Grow.refl w_).alloc _).alloc _
 ·subst h; exact (Blk.new w_ _ _).alloc _
 ·have := Blk.new (w_.alloc (.cells (pgCells P iv).toArray 24)) 24 [.int .i64 0, .int .i64 0, .int .i64 0, .int .i64 0, .string ⟨#[]⟩, .slice none 0 0]
  have e9 : (w_.alloc (.cells (pgCells P iv).toArray 24)).heap.size = w_.heap.size + 1 := by simp
  rw [e9] at this
  subst h; exact this
set_option maxRecDepth 100000 in
set_option maxHeartbeats 4000000 in
theorem turn_any (P : Pg) (iv : Value) (slot : Int) (k cb : Nat) (ch : Tup → Int × Bool × Bool) (w_ : World) (hin : PgIn w_ iv P) (hl : P.items.length ≤ 8796093021952)
  (hrun : ∀ (u : World) (b : Nat), (callFunc k #[.pointer (some ⟨b, 0, none⟩), .pointer (some ⟨cb, 0, none⟩)]).run Tryz.prog u = .ok (.enter k #[.pointer (some ⟨b, 0, none⟩), .pointer (some ⟨cb, 0, none⟩)]) u)
  (hf : ∀ (u : World) (b : Nat) (T : Tup), Grow w_ u → Blk u b 51 (tupC T) → Calls Tryz.prog k #[.pointer (some ⟨b, 0, none⟩), .pointer (some ⟨cb, 0, none⟩)] u fun x w' => x = .returned (.bool (ch T).2.2) ∧ Blk w' b 51 [.int .i64 T.xmin, .int .i64 (ch T).1, .bool (ch T).2.1, .string (str T.key), .string (str T.val)] ∧ But b u w') :
  Calls Tryz.prog 77 #[pgV P iv, .int .i64 slot, .func (.func k) #[] #[.pointer (some ⟨cb, 0, none⟩)]] w_ (CpgPost (turnD P slot ch).1 (turnD P slot ch).2 w_) := by
 obtain ⟨w0, hw0⟩ : ∃ w0, w0 = (w_.alloc (.cells (pgCells P iv).toArray 24)).alloc (.cells #[.int .i64 0, .int .i64 0, .int .i64 0, .int .i64 0, .string ⟨#[]⟩, .slice none 0 0] 24) := ⟨_, rfl⟩
 obtain ⟨hg0, hP0, hZ0⟩ := turn_new P iv w_ w0 hw0
 obtain ⟨ia, ic, rfl⟩ := items_form hin.1
 obtain ⟨Z, hZ⟩ : ∃ Z, turnD P slot ch = Z := ⟨_, rfl⟩
 rw [hZ]
 have HIn := keep (hin.fits hg0)
 have HL := keep hl
 have HZe := keep hZ
 have HG0 := keep hg0
 have HP := keep (fun (u : World) (hu : Grow w0 u) => pgres (hP0.fits hu))
 have HZ := keep hZ0
 have HRun := keep hrun
 have HF := keep hf
 have hlt := hZ0.lt
 have HGr := keep (Grow.refl w0)
 unfold pgCells at hw0
 clear hin hl hZ hg0 hP0 hZ0 hrun hf
 obtain ⟨Z1, Z2⟩ := Z
 unfold pgV
 go_enter Tryz.func77, Tryz.ntmps77
 go_upto_region 1 with fail
 rw [← hw0]
 clear hw0
 obtain ⟨p0, p1, p2, p3, p4, p5, _⟩ := HP.out w0 (Grow.refl _)
 have hz := HZe.out
 unfold turnD at hz
 by_cases h2 : 0 ≤ slot ∧ slot < P.items.length
 ·rw [if_pos h2] at hz
  obtain ⟨h3, h4⟩ := h2
  obtain ⟨j, rfl⟩ := Int.eq_ofNat_of_zero_le h3
  have hj : j < P.items.length := by omega
  obtain ⟨c, off, cap, e5, hcc⟩ := item_cell HIn.out.1 hj
  simp only [Value.slice.injEq] at e5
  obtain ⟨rfl, -, rfl⟩ := e5
  have q0 := hcc w0 (Grow.refl _)
  have hgd : P.items.getD ((j : Int).toNat) [] = P.items[j] := by simp [hj]
  rw [hgd] at hz
  have hde := tdecode_any (str P.items[j]) w0 (by have := HIn.out.2.1 P.items[j] (List.getElem_mem hj); simp; omega)
  unfold DecPost tupV at hde
  simp only [str_toList] at hde
  obtain ⟨o, ho⟩ : ∃ o, decS P.items[j] = o := ⟨_, rfl⟩
  simp only [ho] at hde hz
  obtain ⟨T, hT⟩ : ∃ T, o.getD noTup = T := ⟨_, rfl⟩
  obtain ⟨cd, hcd⟩ : ∃ cd : Int, (if o.isSome = true then (0 : Int) else 110) = cd := ⟨_, rfl⟩
  have hzz : (o = none ∧ cd = 110 ∧ (Z1, Z2) = (zeroP, 110)) ∨ (cd = 0 ∧ (if (ch T).2.2 = false then (zeroP, 110) else if (encTI T.xmin (ch T).1 (ch T).2.1 T.key T.val).2 ≠ 0 then (zeroP, (encTI T.xmin (ch T).1 (ch T).2.1 T.key T.val).2) else withN P j (encTI T.xmin (ch T).1 (ch T).2.1 T.key T.val).1) = (Z1, Z2)) := by
   subst hcd hT
   cases o with
   | none => exact .inl ⟨rfl, rfl, hz.symm⟩
   | some T0 => exact .inr ⟨rfl, hz⟩
  simp only [hcd, hT] at hde
  have HDe := keep hde
  have HY := keep hzz
  have e1 : decide ((j : Int) < 0) = false := decide_eq_false (by omega)
  have e2 : decide (P.items.length ≤ j) = false := decide_eq_false (by omega)
  generalize P.items[j] = item at *
  clear hde hz hzz ho hT hcd hcc h3 h4 hgd
  go_wp2_with fail
  refine HDe.out.mono ?_
  rintro x w1 ⟨rfl, hb1⟩
  have HG1 := keep (show Grow w0 w1 from hb1)
  clear p0 p1 p2 p3 p4 p5 hb1 HDe q0
  go_upto_region 4 with fail
  obtain ⟨w2, hw2⟩ : ∃ w2, w2 = w1.alloc (.cells #[.int .i64 T.xmin, .int .i64 T.xmax, .bool T.frozen, .string (str T.key), .string (str T.val)] 51) := ⟨_, rfl⟩
  rw [← hw2]
  have hg2 : Grow w1 w2 := by subst hw2; exact (Grow.refl _).alloc _
  have hT2 : Blk w2 w1.heap.size 51 (tupC T) := by subst hw2; exact Blk.new w1 _ _
  have HG2 := keep (Grow.trans HG1.out hg2)
  have HT2 := keep hT2
  have hbt : w0.heap.size ≤ w1.heap.size := HG1.out.size
  generalize w1.heap.size = bt at *
  clear hw2 hg2 hT2
  rcases HY.out with ⟨-, h7, h8⟩ | ⟨h7, h8⟩
  ·subst h7
   have HRes := keep h8
   clear h8
   have HZx := keep (HZ.out.fits HG2.out)
   go_wp2_with ((refine wpList_store_box sizePage rfl _ _ rfl (w_.heap.size + 1) _ rfl rfl HZx.out rfl rfl rfl ?_); intro wz hset hbz; have Hset := keep hset; have Hbut := keep hbz; clear hset hbz)
   refine bodyPost_ret (v := .tuple #[pgV zeroP (.slice none 0 0), .int .i64 (110)]) ?_ rfl (cpg_zero (HRes.out) (But.below (Grow.trans HG0.out HG2.out) Hbut.out (by omega) (Grow.trans HG0.out HG2.out).size))
   exact deed_res Tryz.results77 _ _ _ _ zeroP _ rfl rfl Hset.out
  ·subst h7
   have hca := HF.out w2 bt T (Grow.trans HG0.out HG2.out) HT2.out
   obtain ⟨X, hX⟩ : ∃ X, ch T = X := ⟨_, rfl⟩
   rw [hX] at h8 hca
   obtain ⟨nx, fz, ok⟩ := X
   dsimp only at h8 hca
   have HCa := keep hca
   have HY8 := keep h8
   have hrn := HRun.out
   clear hca h8 hX
   go_wp2_with fail
   refine HCa.out.mono ?_
   rintro x w3 ⟨rfl, hT3, hk3⟩
   have HG3 := keep (show Grow w0 w3 from But.below HG2.out hk3 hbt HG2.out.size)
   have HT3 := keep hT3
   clear hT3 hk3 HCa hrn
   cases ok with
   | false =>
    have HRes := keep (show (Z1, Z2) = (zeroP, 110) by rw [← HY8.out, if_pos rfl])
    have HZx := keep (HZ.out.fits HG3.out)
    go_wp2_with ((refine wpList_store_box sizePage rfl _ _ rfl (w_.heap.size + 1) _ rfl rfl HZx.out rfl rfl rfl ?_); intro wz hset hbz; have Hset := keep hset; have Hbut := keep hbz; clear hset hbz)
    refine bodyPost_ret (v := .tuple #[pgV zeroP (.slice none 0 0), .int .i64 (110)]) ?_ rfl (cpg_zero (HRes.out) (But.below (Grow.trans HG0.out HG3.out) Hbut.out (by omega) (Grow.trans HG0.out HG3.out).size))
    exact deed_res Tryz.results77 _ _ _ _ zeroP _ rfl rfl Hset.out
   | true =>
    have h8 := HY8.out
    rw [if_neg (by simp)] at h8
    have hen := fun (u : World) => tencode_any T.xmin nx fz T.key T.val u
    have hel := encTI_len T.xmin nx fz T.key T.val
    generalize encTI T.xmin nx fz T.key T.val = E at *
    obtain ⟨E1, E2⟩ := E
    dsimp only at hen hel h8
    have HEn := keep (hen w3)
    have HEl := keep hel
    have HY9 := keep h8
    obtain ⟨t0, t1, t2, t3, t4⟩ := tures HT3.out
    clear hen hel h8
    go_wp2_with fail
    refine HEn.out.mono ?_
    rintro x w4 ⟨rfl, hb4⟩
    have HG4 := keep (Grow.trans HG3.out hb4)
    clear hb4 HEn t0 t1 t2 t3 t4
    by_cases hE : E2 = 0
    ·subst hE
     have h9 := HY9.out
     rw [if_neg (by simp)] at h9
     have hca := (with_any P (.slice (some ⟨c, off, none⟩) P.items.length ic) j E1 w4 (HIn.out.fits HG4.out) (by have := HEl.out; omega) (by have := HL.out; omega)).mono fun _ _ h => cpg_of h
     rw [h9] at hca
     have HCw := keep hca
     clear hca h9
     obtain ⟨p0, p1, p2, p3, p4, p5, _⟩ := HP.out w4 HG4.out
     unfold pgV at HCw
     have HCall := keep (HCw.out)
     unfold CpgPost pgV at HCall
     go_wp2_with fail
     refine HCall.out.mono ?_
     rintro y wc ⟨jv, rfl, hj, hbc⟩
     obtain ⟨ja, jc, rfl⟩ := itemsS_form hj
     have HJ := keep hj
     have HGc := keep (Grow.trans HG4.out hbc)
     have HZx := keep (HZ.out.fits HGc.out)
     clear hj hbc HCall
     go_wp2_with ((refine wpList_store_box sizePage rfl _ _ rfl (w_.heap.size + 1) _ rfl rfl HZx.out rfl rfl rfl ?_); intro wz hset hbz; have Hset := keep hset; have Hbut := keep hbz; clear hset hbz)
     refine bodyPost_ret (v := .tuple #[pgV Z1 (.slice ja Z1.items.length jc), .int .i64 Z2]) ?_ rfl ⟨_, rfl, HJ.out.but Hbut.out (ne_blk HZx.out (by decide)), But.below (Grow.trans HG0.out HGc.out) Hbut.out (by omega) (Grow.trans HG0.out HGc.out).size⟩
     exact deed_res Tryz.results77 _ _ _ _ Z1 _ rfl rfl Hset.out
    ·have e3 : (E2 != 0) = true := by simp [hE]
     have HRes := keep (show (Z1, Z2) = (zeroP, E2) by rw [← HY9.out, if_pos hE])
     clear hE
     have HZx := keep (HZ.out.fits HG4.out)
     go_wp2_with ((refine wpList_store_box sizePage rfl _ _ rfl (w_.heap.size + 1) _ rfl rfl HZx.out rfl rfl rfl ?_); intro wz hset hbz; have Hset := keep hset; have Hbut := keep hbz; clear hset hbz)
     refine bodyPost_ret (v := .tuple #[pgV zeroP (.slice none 0 0), .int .i64 (E2)]) ?_ rfl (cpg_zero (HRes.out) (But.below (Grow.trans HG0.out HG4.out) Hbut.out (by omega) (Grow.trans HG0.out HG4.out).size))
     exact deed_res Tryz.results77 _ _ _ _ zeroP _ rfl rfl Hset.out
 ·rw [if_neg h2] at hz
  have HRes := keep hz.symm
  have hc : (decide (slot < 0) = true) ∨ (decide (slot < 0) = false ∧ decide ((P.items.length : Int) ≤ slot) = true) := by
   by_cases h0 : slot < 0
   ·exact .inl (decide_eq_true h0)
   ·refine .inr ⟨decide_eq_false h0, decide_eq_true ?_⟩
    rcases Decidable.em ((P.items.length : Int) ≤ slot) with h | h
    ·exact h
    ·exact absurd ⟨by omega, by omega⟩ h2
  clear h2 hz
  rcases hc with e1 | ⟨e1, e2⟩
  ·skip
   have HZx := keep (HZ.out.fits HGr.out)
   go_wp2_with ((refine wpList_store_box sizePage rfl _ _ rfl (w_.heap.size + 1) _ rfl rfl HZx.out rfl rfl rfl ?_); intro wz hset hbz; have Hset := keep hset; have Hbut := keep hbz; clear hset hbz)
   refine bodyPost_ret (v := .tuple #[pgV zeroP (.slice none 0 0), .int .i64 (110)]) ?_ rfl (cpg_zero (HRes.out) (But.below (Grow.trans HG0.out HGr.out) Hbut.out (by omega) (Grow.trans HG0.out HGr.out).size))
   exact deed_res Tryz.results77 _ _ _ _ zeroP _ rfl rfl Hset.out
  ·skip
   have HZx := keep (HZ.out.fits HGr.out)
   go_wp2_with ((refine wpList_store_box sizePage rfl _ _ rfl (w_.heap.size + 1) _ rfl rfl HZx.out rfl rfl rfl ?_); intro wz hset hbz; have Hset := keep hset; have Hbut := keep hbz; clear hset hbz)
   refine bodyPost_ret (v := .tuple #[pgV zeroP (.slice none 0 0), .int .i64 (110)]) ?_ rfl (cpg_zero (HRes.out) (But.below (Grow.trans HG0.out HGr.out) Hbut.out (by omega) (Grow.trans HG0.out HGr.out).size))
   exact deed_res Tryz.results77 _ _ _ _ zeroP _ rfl rfl Hset.out
set_option maxRecDepth 100000 in
set_option maxHeartbeats 4000000 in
theorem mark_any (m : Int) (P : Pg) (iv : Value) (R : Rc) (V : RcV) (w_ : World) (hin : PgIn w_ iv P) (hl : P.items.length ≤ 8796093021952) (hr : RcIn w_ R V) :
  Calls Tryz.prog 47 #[.int .i64 m, pgV P iv, rcV R V] w_ (CpgPost (markD P R).1 (markD P R).2 w_) := by
 obtain ⟨w0, hw0⟩ : ∃ w0, w0 = ((w_.alloc (.cells (pgCells P iv).toArray 24)).alloc (.cells (rcC R V).toArray 33)).alloc (.cells #[.int .i64 0, .int .i64 0, .int .i64 0, .int .i64 0, .string ⟨#[]⟩, .slice none 0 0] 24) := ⟨_, rfl⟩
 obtain ⟨hg0, hP0, hC0, hZ0⟩ := deed_new P iv R V w_ w0 hw0
 obtain ⟨ia, ic, rfl⟩ := items_form hin.1
 obtain ⟨Z, hZ⟩ : ∃ Z, markD P R = Z := ⟨_, rfl⟩
 rw [hZ]
 have HIn := keep (hin.fits hg0)
 have HR := keep (hr.fits hg0)
 have HL := keep hl
 have HZe := keep hZ
 have HG0 := keep hg0
 have HP := keep (fun (u : World) (hu : Grow w0 u) => pgres (hP0.fits hu))
 have HC := keep (fun (u : World) (hu : Grow w0 u) => recres (hC0.fits hu))
 have HPb := keep hP0
 have HCb := keep hC0
 have HZ := keep hZ0
 have hlt := hZ0.lt
 unfold pgCells rcC at hw0
 clear hin hr hl hZ hg0 hP0 hC0 hZ0
 obtain ⟨Z1, Z2⟩ := Z
 unfold pgV rcV
 go_enter Tryz.func47, Tryz.ntmps47
 go_upto_region 1 with fail
 rw [← hw0]
 clear hw0
 have hmf : ∀ (fn : Fn) (first cap : Array Value) (w : World), (Instr.makeFunc fn first cap).run Tryz.prog w = .ok (.func fn first cap) w := fun _ _ _ _ => rfl
 obtain ⟨p0, p1, p2, p3, p4, p5, _⟩ := HP.out w0 (Grow.refl _)
 obtain ⟨⟨c0, c1, c2, c3, c4, c5, c6, c7, c8, c9, c10, c11, c12, c13, c14, c15⟩, _⟩ := HC.out w0 (Grow.refl _)
 have hca := turn_any P (.slice ia P.items.length ic) R.slot 78 (w_.heap.size + 1) (chMark R) w0 HIn.out HL.out (fun u b => by rfl) (fun u b T hu hT => mark1_any T b (w_.heap.size + 1) R V u hT (HCb.out.fits hu))
 rw [show turnD P R.slot (chMark R) = (Z1, Z2) from HZe.out] at hca
 have HCa := keep hca
 have HGr := keep (Grow.refl w0)
 clear hca
 unfold pgV at HCa
 have HCall := keep (HCa.out)
 unfold CpgPost pgV at HCall
 go_wp2_with fail
 refine HCall.out.mono ?_
 rintro y wc ⟨jv, rfl, hj, hbc⟩
 obtain ⟨ja, jc, rfl⟩ := itemsS_form hj
 have HJ := keep hj
 have HGc := keep (Grow.trans HGr.out hbc)
 have HZx := keep (HZ.out.fits HGc.out)
 clear hj hbc HCall
 go_wp2_with ((refine wpList_store_box sizePage rfl _ _ rfl (w_.heap.size + 2) _ rfl rfl HZx.out rfl rfl rfl ?_); intro wz hset hbz; have Hset := keep hset; have Hbut := keep hbz; clear hset hbz)
 refine bodyPost_ret (v := .tuple #[pgV Z1 (.slice ja Z1.items.length jc), .int .i64 Z2]) ?_ rfl ⟨_, rfl, HJ.out.but Hbut.out (ne_blk HZx.out (by decide)), But.below (Grow.trans HG0.out HGc.out) Hbut.out (by omega) (Grow.trans HG0.out HGc.out).size⟩
 exact deed_res Tryz.results47 _ _ _ _ Z1 _ rfl rfl Hset.out
end Go.Proofs.YtmhepfehcakmjaaGreat
namespace Go.Proofs.YtmhepfehcakmjaaGreat
open Go.RowKit
attribute [local go_sem] givesV lookV knAt givesF_none givesF_some evalF_tmp evalF_const evalF_global evalF_func lookL isB_bool isB_undef givesUpon_value givesUpon_skip givesUpon_enter
set_option maxRecDepth 100000 in
set_option maxHeartbeats 4000000 in
theorem undo_any (m : Int) (P : Pg) (iv : Value) (R : Rc) (V : RcV) (w_ : World) (hin : PgIn w_ iv P) (hl : P.items.length ≤ 8796093021952) (hr : RcIn w_ R V) :
  Calls Tryz.prog 48 #[.int .i64 m, pgV P iv, rcV R V] w_ (CpgPost (undoD P R).1 (undoD P R).2 w_) := by
 obtain ⟨w0, hw0⟩ : ∃ w0, w0 = ((w_.alloc (.cells (pgCells P iv).toArray 24)).alloc (.cells (rcC R V).toArray 33)).alloc (.cells #[.int .i64 0, .int .i64 0, .int .i64 0, .int .i64 0, .string ⟨#[]⟩, .slice none 0 0] 24) := ⟨_, rfl⟩
 obtain ⟨hg0, hP0, hC0, hZ0⟩ := deed_new P iv R V w_ w0 hw0
 obtain ⟨ia, ic, rfl⟩ := items_form hin.1
 obtain ⟨Z, hZ⟩ : ∃ Z, undoD P R = Z := ⟨_, rfl⟩
 rw [hZ]
 have HIn := keep (hin.fits hg0)
 have HR := keep (hr.fits hg0)
 have HL := keep hl
 have HZe := keep hZ
 have HG0 := keep hg0
 have HP := keep (fun (u : World) (hu : Grow w0 u) => pgres (hP0.fits hu))
 have HC := keep (fun (u : World) (hu : Grow w0 u) => recres (hC0.fits hu))
 have HPb := keep hP0
 have HCb := keep hC0
 have HZ := keep hZ0
 have hlt := hZ0.lt
 unfold pgCells rcC at hw0
 clear hin hr hl hZ hg0 hP0 hC0 hZ0
 obtain ⟨Z1, Z2⟩ := Z
 unfold pgV rcV
 go_enter Tryz.func48, Tryz.ntmps48
 go_upto_region 1 with fail
 rw [← hw0]
 clear hw0
 obtain ⟨p0, p1, p2, p3, p4, p5, _⟩ := HP.out w0 (Grow.refl _)
 obtain ⟨⟨c0, c1, c2, c3, c4, c5, c6, c7, c8, c9, c10, c11, c12, c13, c14, c15⟩, _⟩ := HC.out w0 (Grow.refl _)
 have HGr := keep (Grow.refl w0)
 have hz := HZe.out
 unfold undoD at hz
 by_cases h0 : R.old ≠ 0 ∨ R.new ≠ 0
 ·rw [if_pos h0] at hz
  have hca := mark_any m P (.slice ia P.items.length ic) R V w0 HIn.out HL.out HR.out
  rw [hz] at hca
  have HCa := keep hca
  have HCb1 := HCb
  unfold rcC at HCb1
  unfold pgV rcV at HCa
  have hcs : (R.old != 0) = true ∨ ((R.old != 0) = false ∧ (R.new != 0) = true) := by
   by_cases h1 : R.old = 0
   ·exact .inr ⟨by simp [h1], by simpa using h0.resolve_left (fun h => h h1)⟩
   ·exact .inl (by simpa using h1)
  clear hca hz h0
  rcases hcs with e1 | ⟨e1, e2⟩
  ·skip
   have HCall := keep (HCa.out)
   unfold CpgPost pgV at HCall
   go_wp2_with (refine wpList_load_box sizeRecord underRec (by kernel_rfl) rfl _ rfl (w_.heap.size + 1) rfl HCb1.out rfl ?_)
   refine HCall.out.mono ?_
   rintro y wc ⟨jv, rfl, hj, hbc⟩
   obtain ⟨ja, jc, rfl⟩ := itemsS_form hj
   have HJ := keep hj
   have HGc := keep (Grow.trans HGr.out hbc)
   have HZx := keep (HZ.out.fits HGc.out)
   clear hj hbc HCall
   go_wp2_with ((refine wpList_store_box sizePage rfl _ _ rfl (w_.heap.size + 2) _ rfl rfl HZx.out rfl rfl rfl ?_); intro wz hset hbz; have Hset := keep hset; have Hbut := keep hbz; clear hset hbz)
   refine bodyPost_ret (v := .tuple #[pgV Z1 (.slice ja Z1.items.length jc), .int .i64 Z2]) ?_ rfl ⟨_, rfl, HJ.out.but Hbut.out (ne_blk HZx.out (by decide)), But.below (Grow.trans HG0.out HGc.out) Hbut.out (by omega) (Grow.trans HG0.out HGc.out).size⟩
   exact deed_res Tryz.results48 _ _ _ _ Z1 _ rfl rfl Hset.out
  ·skip
   have HCall := keep (HCa.out)
   unfold CpgPost pgV at HCall
   go_wp2_with (refine wpList_load_box sizeRecord underRec (by kernel_rfl) rfl _ rfl (w_.heap.size + 1) rfl HCb1.out rfl ?_)
   refine HCall.out.mono ?_
   rintro y wc ⟨jv, rfl, hj, hbc⟩
   obtain ⟨ja, jc, rfl⟩ := itemsS_form hj
   have HJ := keep hj
   have HGc := keep (Grow.trans HGr.out hbc)
   have HZx := keep (HZ.out.fits HGc.out)
   clear hj hbc HCall
   go_wp2_with ((refine wpList_store_box sizePage rfl _ _ rfl (w_.heap.size + 2) _ rfl rfl HZx.out rfl rfl rfl ?_); intro wz hset hbz; have Hset := keep hset; have Hbut := keep hbz; clear hset hbz)
   refine bodyPost_ret (v := .tuple #[pgV Z1 (.slice ja Z1.items.length jc), .int .i64 Z2]) ?_ rfl ⟨_, rfl, HJ.out.but Hbut.out (ne_blk HZx.out (by decide)), But.below (Grow.trans HG0.out HGc.out) Hbut.out (by omega) (Grow.trans HG0.out HGc.out).size⟩
   exact deed_res Tryz.results48 _ _ _ _ Z1 _ rfl rfl Hset.out
 ·rw [if_neg h0] at hz
  have e1 : (R.old != 0) = false := by simp; exact Decidable.byContradiction fun h => h0 (.inl h)
  have e2 : (R.new != 0) = false := by simp; exact Decidable.byContradiction fun h => h0 (.inr h)
  clear h0
  by_cases h2 : 0 ≤ R.slot ∧ R.slot < P.items.length
  ·obtain ⟨h3, h4⟩ := h2
   obtain ⟨j, hjj⟩ := Int.eq_ofNat_of_zero_le h3
   have hj : j < P.items.length := by omega
   obtain ⟨c, off, cap, e5, hcc⟩ := item_cell HIn.out.1 hj
   simp only [Value.slice.injEq] at e5
   obtain ⟨rfl, -, rfl⟩ := e5
   have HQ := keep hcc
   have q0 := hcc w0 (Grow.refl _)
   have hgd : P.items.getD R.slot.toNat [] = P.items[j] := by rw [hjj]; simp [hj]
   have hst := state_any (str P.items[j]) w0 (by have := HIn.out.2.1 P.items[j] (List.getElem_mem hj); simp; omega)
   have hky := fun (u : World) => key_any (str P.items[j]) u (by have := HIn.out.2.1 P.items[j] (List.getElem_mem hj); simp; omega)
   simp only [str_toList] at hst hky
   rw [hgd] at hz
   have hz2 : (if stateS P.items[j] = 3 then (if (deadTI (keyS P.items[j]).1).2 ≠ 0 then (zeroP, (deadTI (keyS P.items[j]).1).2) else withN P R.slot (deadTI (keyS P.items[j]).1).1) else (zeroP, 110)) = (Z1, Z2) := by
    rw [← hz]
    by_cases h5 : stateS P.items[j] = 3
    ·rw [if_pos h5, if_pos (show 0 ≤ R.slot ∧ R.slot < (P.items.length : Int) ∧ stateS P.items[j] = 3 from ⟨h3, h4, h5⟩)]
    ·rw [if_neg h5, if_neg (fun h => h5 h.2.2)]
   rw [hjj] at c6
   have e3 : decide ((j : Int) < 0) = false := decide_eq_false (by omega)
   have e4 : decide (P.items.length ≤ j) = false := decide_eq_false (by omega)
   obtain ⟨st, hsv⟩ : ∃ st, stateS P.items[j] = st := ⟨_, rfl⟩
   rw [hsv] at hst hz2
   obtain ⟨K, hK⟩ : ∃ K, keyS P.items[j] = K := ⟨_, rfl⟩
   rw [hK] at hky hz2
   obtain ⟨K1, K2⟩ := K
   dsimp only at hky hz2
   have HSt := keep hst
   have HKy := keep hky
   have HY := keep hz2
   have HJ2 := keep hjj
   generalize P.items[j] = item at *
   clear hst hky hz hz2 hcc hgd hsv hK h3 h4
   go_wp2_with fail
   refine HSt.out.mono ?_
   rintro x w3 ⟨rfl, hb3⟩
   have HG3 := keep (show Grow w0 w3 from hb3)
   clear p0 p1 p2 p3 p4 p5 c0 c1 c2 c3 c4 c5 c6 c7 c8 c9 c10 c11 c12 c13 c14 c15 hb3 HSt q0
   by_cases h5 : st = 3
   ·have e6 : ((st : Int) != 3) = false := by simp [h5]
    have hz := HY.out
    rw [if_pos h5] at hz
    have HY5 := keep hz
    obtain ⟨p0, p1, p2, p3, p4, p5, _⟩ := HP.out w3 HG3.out
    obtain ⟨⟨c0, c1, c2, c3, c4, c5, c6, c7, c8, c9, c10, c11, c12, c13, c14, c15⟩, _⟩ := HC.out w3 HG3.out
    rw [HJ2.out] at c6
    have q0 := HQ.out w3 HG3.out
    clear hz h5
    go_wp2_with fail
    refine (HKy.out w3).mono ?_
    rintro x w4 ⟨rfl, hb4⟩
    have HG4 := keep (Grow.trans HG3.out hb4)
    clear p0 p1 p2 p3 p4 p5 c0 c1 c2 c3 c4 c5 c6 c7 c8 c9 c10 c11 c12 c13 c14 c15 hb4 HKy q0
    have hde := fun (u : World) => deadTI_any K1 u
    have hdl := deadTI_len K1
    have hz := HY5.out
    generalize deadTI K1 = E at *
    obtain ⟨E1, E2⟩ := E
    dsimp only at hde hdl hz
    have HDe := keep hde
    have HDl := keep hdl
    have HY6 := keep hz
    clear hde hdl hz
    go_wp2_with fail
    refine (HDe.out w4).mono ?_
    rintro x w5 ⟨rfl, hb5⟩
    have HG5 := keep (Grow.trans HG4.out hb5)
    clear hb5 HDe
    by_cases hE : E2 = 0
    ·subst hE
     have h9 := HY6.out
     rw [if_neg (by simp), HJ2.out] at h9
     have hca := (with_any P (.slice (some ⟨c, off, none⟩) P.items.length ic) j E1 w5 (HIn.out.fits HG5.out) (by have := HDl.out; omega) (by have := HL.out; omega)).mono fun _ _ h => cpg_of h
     rw [h9] at hca
     have HCw := keep hca
     clear hca h9
     obtain ⟨p0, p1, p2, p3, p4, p5, _⟩ := HP.out w5 HG5.out
     obtain ⟨⟨c0, c1, c2, c3, c4, c5, c6, c7, c8, c9, c10, c11, c12, c13, c14, c15⟩, _⟩ := HC.out w5 HG5.out
     rw [HJ2.out] at c6
     unfold pgV at HCw
     have HCall := keep (HCw.out)
     unfold CpgPost pgV at HCall
     go_wp2_with fail
     refine HCall.out.mono ?_
     rintro y wc ⟨jv, rfl, hj, hbc⟩
     obtain ⟨ja, jc, rfl⟩ := itemsS_form hj
     have HJ := keep hj
     have HGc := keep (Grow.trans HG5.out hbc)
     have HZx := keep (HZ.out.fits HGc.out)
     clear hj hbc HCall
     go_wp2_with ((refine wpList_store_box sizePage rfl _ _ rfl (w_.heap.size + 2) _ rfl rfl HZx.out rfl rfl rfl ?_); intro wz hset hbz; have Hset := keep hset; have Hbut := keep hbz; clear hset hbz)
     refine bodyPost_ret (v := .tuple #[pgV Z1 (.slice ja Z1.items.length jc), .int .i64 Z2]) ?_ rfl ⟨_, rfl, HJ.out.but Hbut.out (ne_blk HZx.out (by decide)), But.below (Grow.trans HG0.out HGc.out) Hbut.out (by omega) (Grow.trans HG0.out HGc.out).size⟩
     exact deed_res Tryz.results48 _ _ _ _ Z1 _ rfl rfl Hset.out
    ·have e7 : (E2 != 0) = true := by simp [hE]
     have HRes := keep (show (Z1, Z2) = (zeroP, E2) by rw [← HY6.out, if_pos hE])
     clear hE
     have HZx := keep (HZ.out.fits HG5.out)
     go_wp2_with ((refine wpList_store_box sizePage rfl _ _ rfl (w_.heap.size + 2) _ rfl rfl HZx.out rfl rfl rfl ?_); intro wz hset hbz; have Hset := keep hset; have Hbut := keep hbz; clear hset hbz)
     refine bodyPost_ret (v := .tuple #[pgV zeroP (.slice none 0 0), .int .i64 (E2)]) ?_ rfl (cpg_zero (HRes.out) (But.below (Grow.trans HG0.out HG5.out) Hbut.out (by omega) (Grow.trans HG0.out HG5.out).size))
     exact deed_res Tryz.results48 _ _ _ _ zeroP _ rfl rfl Hset.out
   ·have e6 : ((st : Int) != 3) = true := by simp only [bne_iff_ne, ne_eq]; omega
    have HRes := keep (show (Z1, Z2) = (zeroP, 110) by rw [← HY.out, if_neg h5])
    clear h5
    have HZx := keep (HZ.out.fits HG3.out)
    go_wp2_with ((refine wpList_store_box sizePage rfl _ _ rfl (w_.heap.size + 2) _ rfl rfl HZx.out rfl rfl rfl ?_); intro wz hset hbz; have Hset := keep hset; have Hbut := keep hbz; clear hset hbz)
    refine bodyPost_ret (v := .tuple #[pgV zeroP (.slice none 0 0), .int .i64 (110)]) ?_ rfl (cpg_zero (HRes.out) (But.below (Grow.trans HG0.out HG3.out) Hbut.out (by omega) (Grow.trans HG0.out HG3.out).size))
    exact deed_res Tryz.results48 _ _ _ _ zeroP _ rfl rfl Hset.out
  ·rw [if_neg (fun h => h2 ⟨h.1, h.2.1⟩)] at hz
   have HRes := keep hz.symm
   have hcs : decide (R.slot < 0) = true ∨ (decide (R.slot < 0) = false ∧ decide ((P.items.length : Int) ≤ R.slot) = true) := by
    by_cases h0 : R.slot < 0
    ·exact .inl (decide_eq_true h0)
    ·refine .inr ⟨decide_eq_false h0, decide_eq_true ?_⟩
     rcases Decidable.em ((P.items.length : Int) ≤ R.slot) with h | h
     ·exact h
     ·exact absurd ⟨by omega, by omega⟩ h2
   clear h2 hz
   rcases hcs with e3 | ⟨e3, e4⟩
   ·go_upto_region 4 with fail
    have HZx := keep (HZ.out.fits HGr.out)
    go_wp2_with ((refine wpList_store_box sizePage rfl _ _ rfl (w_.heap.size + 2) _ rfl rfl HZx.out rfl rfl rfl ?_); intro wz hset hbz; have Hset := keep hset; have Hbut := keep hbz; clear hset hbz)
    refine bodyPost_ret (v := .tuple #[pgV zeroP (.slice none 0 0), .int .i64 (110)]) ?_ rfl (cpg_zero (HRes.out) (But.below (Grow.trans HG0.out HGr.out) Hbut.out (by omega) (Grow.trans HG0.out HGr.out).size))
    exact deed_res Tryz.results48 _ _ _ _ zeroP _ rfl rfl Hset.out
   ·go_upto_region 4 with fail
    have HZx := keep (HZ.out.fits HGr.out)
    go_wp2_with ((refine wpList_store_box sizePage rfl _ _ rfl (w_.heap.size + 2) _ rfl rfl HZx.out rfl rfl rfl ?_); intro wz hset hbz; have Hset := keep hset; have Hbut := keep hbz; clear hset hbz)
    refine bodyPost_ret (v := .tuple #[pgV zeroP (.slice none 0 0), .int .i64 (110)]) ?_ rfl (cpg_zero (HRes.out) (But.below (Grow.trans HG0.out HGr.out) Hbut.out (by omega) (Grow.trans HG0.out HGr.out).size))
    exact deed_res Tryz.results48 _ _ _ _ zeroP _ rfl rfl Hset.out
end Go.Proofs.YtmhepfehcakmjaaGreat
namespace Go.Proofs.YtmhepfehcakmjaaGreat
open Go.RowKit
attribute [local go_sem] givesV lookV knAt givesF_none givesF_some evalF_tmp evalF_const evalF_global evalF_func lookL isB_bool isB_undef givesUpon_value givesUpon_skip givesUpon_enter
def clrS (m f : Int) (l : List UInt8) : Nat → List UInt8
 | 0 => l
 | k + 1 => putS (clrS m f l k) (addS m f k) 0
def cutS (m : Int) (p : Pg) (x : Int) : Pg × Int :=
 if openE m p = 0 then if idsB m [x] then (madeP x.toNat (clrS m (openNum m p).1 (p.items.getD 1 []) (gapS m (openNum m p).1 x).toNat) p.lsn, 0) else (zeroP, 1) else (zeroP, openE m p)
theorem putS_length (l : List UInt8) (x : Int) (s : Nat) : (putS l x s).length = l.length := by unfold putS; simp
theorem clrS_length (m f : Int) (l : List UInt8) (k : Nat) : (clrS m f l k).length = l.length := by
 induction k with
 | zero => rfl
 | succ k ih => rw [clrS, putS_length, ih]
set_option maxRecDepth 100000 in
set_option maxHeartbeats 4000000 in
theorem cut_any (m : Int) (P : Pg) (iv : Value) (x : Int) (w_ : World) (hin : PgIn w_ iv P) :
  Calls Tryz.prog 86 #[.int .i64 m, pgV P iv, .int .i64 x] w_ (CpgPost (cutS m P x).1 (cutS m P x).2 w_) := by
 obtain ⟨w0, hw0⟩ : ∃ w0, w0 = (w_.alloc (.cells (pgCells P iv).toArray 24)).alloc (.cells #[.int .i64 0, .int .i64 0, .int .i64 0, .int .i64 0, .string ⟨#[]⟩, .slice none 0 0] 24) := ⟨_, rfl⟩
 obtain ⟨hg0, hP0, hZ0⟩ := turn_new P iv w_ w0 hw0
 obtain ⟨ia, ic, rfl⟩ := items_form hin.1
 have hop := open_any m P (.slice ia P.items.length ic) w0 (hin.fits hg0).1 (fun y hy => by have := hin.2.1 y hy; omega)
 obtain ⟨Z, hZ⟩ : ∃ Z, cutS m P x = Z := ⟨_, rfl⟩
 rw [hZ]
 have HG0 := keep hg0
 have HP := keep (fun (u : World) (hu : Below w0.heap.size w0 u) => pgres (hP0.fits hu))
 have HZ := keep hZ0
 have hlt := hZ0.lt
 unfold cutS at hZ
 have HZe := keep hZ
 unfold pgCells at hw0
 unfold CopenPost pgV at hop
 have HOp := keep hop
 clear hin hZ hg0 hP0 hZ0 hop
 obtain ⟨Z1, Z2⟩ := Z
 unfold pgV
 go_enter Tryz.func86, Tryz.ntmps86
 go_upto_region 1 with fail
 rw [← hw0]
 clear hw0
 obtain ⟨p0, p1, p2, p3, p4, p5, _⟩ := HP.out w0 (Below.refl _ _)
 go_wp2_with fail
 refine HOp.out.mono ?_
 rintro y w1 ⟨bv, rfl, hb1, hbr, ba, bn, bc, rfl⟩
 have HG1 := keep (show Grow w0 w1 from hb1)
 clear p0 p1 p2 p3 p4 p5 hb1 HOp
 by_cases h0 : openE m P = 0
 ·have hnum : 1 ≤ (openNum m P).1 ∧ (openNum m P).1 ≤ m := by
   have hb := (openE_zero h0).2.2
   unfold openBody at hb
   simp only [Bool.and_eq_true, decide_eq_true_eq] at hb
   have := rdNumS_facts m (P.items.getD 0 [])
   have h5 := (this.2.2.2.2 hb.1.1.1).1
   unfold openNum at hb ⊢
   omega
  have hll := (openE_len h0).2.1
  have hmb := (openE_zero h0).1
  obtain ⟨hm1, hm2, _⟩ := modB_bd hmb
  have hR := hbr h0
  have hz := HZe.out
  rw [if_pos h0] at hz
  rw [if_pos h0, h0]
  generalize (openNum m P).1 = f at *
  generalize P.items.getD 1 [] = l at *
  have HR1 := keep hR
  have HY := keep hz
  have HNum := keep hnum
  have HM := keep hmb
  have HL := keep hll
  have HM1 := keep (And.intro hm1 hm2)
  clear h0 hnum hll hmb hR hz hbr hm1 hm2
  go_wp2_with fail
  refine (isID_any _ _ _).mono ?_
  rintro y w2 ⟨rfl, hb2⟩
  have HG2 := keep (Grow.trans HG1.out hb2)
  have HR2 := keep (HR1.out.fits hb2)
  clear hb2 HR1 HG1
  cases hB : idsB m [x] with
  | false =>
   have HRes := keep (show (Z1, Z2) = (zeroP, 1) by rw [← HY.out, hB]; rfl)
   clear hB
   have HZx := keep (HZ.out.fits HG2.out)
   go_wp2_with ((refine wpList_store_box sizePage rfl _ _ rfl (w_.heap.size + 1) _ rfl rfl HZx.out rfl rfl rfl ?_); intro wz hset hbz; have Hset := keep hset; have Hbut := keep hbz; clear hset hbz)
   refine bodyPost_ret (v := .tuple #[pgV zeroP (.slice none 0 0), .int .i64 (1)]) ?_ rfl (cpg_zero (HRes.out) (But.below (Grow.trans HG0.out HG2.out) Hbut.out (by omega) (Grow.trans HG0.out HG2.out).size))
   exact deed_res Tryz.results86 _ _ _ _ zeroP _ rfl rfl Hset.out
  | true =>
   obtain ⟨-, hx1, hx2⟩ := idsB_one hB
   have hids : idsB m [f, x] = true := by
    unfold idsB at hB ⊢
    simp only [List.all_cons, List.all_nil, Bool.and_eq_true, Bool.and_true, decide_eq_true_eq] at hB ⊢
    exact ⟨⟨⟨HNum.out.1, HNum.out.2⟩, hB.1⟩, hB.2⟩
   have hidf : idsB m [f] = true := by
    unfold idsB
    simp only [List.all_cons, List.all_nil, Bool.and_eq_true, Bool.and_true, decide_eq_true_eq]
    exact ⟨⟨HNum.out.1, HNum.out.2⟩, HM.out⟩
   have hgap : gapS m f x = (x - f) % m := by unfold gapS; rw [hids]; rfl
   have hg1 : 0 ≤ gapS m f x := by rw [hgap]; exact Int.emod_nonneg _ (by have := HNum.out; omega)
   have hg2 : gapS m f x < m := by rw [hgap]; exact Int.emod_lt_of_pos _ (by have := HNum.out; omega)
   have hz := HY.out
   rw [hB, if_pos rfl] at hz
   have hga := gap_any m f x w2
   obtain ⟨g, hg⟩ := Int.eq_ofNat_of_zero_le hg1
   rw [hg] at hga hz hg2
   rw [Int.toNat_natCast] at hz
   obtain ⟨xn, hxn⟩ := Int.eq_ofNat_of_zero_le (show 0 ≤ x by omega)
   rw [hxn, Int.toNat_natCast] at hz
   have HY2 := keep hz
   have HGa := keep hga
   have HGl := keep hg2
   have HIf := keep hidf
   have HXn := keep hxn
   have HX2 := keep hx2
   clear hB hx1 hx2 hids hidf hgap hg1 hg2 hg hz hga hxn
   go_wp2_with fail
   refine HGa.out.mono ?_
   rintro y w3 ⟨rfl, hb3⟩
   have HG3 := keep (show Below w0.heap.size w0 w3 from Grow.trans HG2.out hb3)
   have HR3 := keep (HR2.out.fits hb3)
   clear hb3 HG2 HR2 HGa
   go_wp2_with fail
   go_loopw [32] (fun i wr => ∃ k : Nat, k ≤ g ∧ i = .int .i64 k ∧ Kept (BRow wr w0.heap.size (.slice ba bn bc) (clrS m f l k)) ∧ Kept (Below w0.heap.size w0 wr)) (fun i _ => g - (intOf i).toNat)
   case atStart => exact ⟨0, Nat.zero_le _, rfl, HR3, HG3⟩
   case round =>
    obtain ⟨k, hk, rfl, HB, HG⟩ := hrel
    by_cases hlt2 : k < g
    ·have e1 : decide (k < g) = true := decide_eq_true hlt2
     have HK := keep hlt2
     clear hlt2
     go_wp2_with fail
     refine (add_any m f k wr).mono ?_
     rintro y w4 ⟨rfl, hb4⟩
     have hadd : addS m f k = (f - 1 + k) % m + 1 := by unfold addS; rw [HIf.out]; rfl
     have hmp : 0 < m := by have := HNum.out; omega
     have ha0 := Int.emod_nonneg (f - 1 + k) (show m ≠ 0 by omega)
     have ha1 := Int.emod_lt_of_pos (f - 1 + k) hmp
     have hlen : ((clrS m f l k).length : Int) = (m + 3) / 4 := by rw [clrS_length]; exact HL.out
     have hm2 := HM1.out.2
     have hp := cput_any w0.heap.size (.slice ba bn bc) (clrS m f l k) (addS m f k) 0 w4 (HB.out.fits hb4) (by omega) (by omega) (by omega) (by decide) (by omega)
     have HPt := keep hp
     have HG4 := keep (show Below w0.heap.size w0 w4 from Below.trans HG.out (hb4.mono (Below.size HG.out)))
     clear hadd hmp ha0 ha1 hlen hm2 hp hb4
     go_wp2_with fail
     refine HPt.out.mono ?_
     rintro y w5 ⟨rfl, hR5, hb5⟩
     have HR5 := keep hR5
     have HG5 := keep (show Below w0.heap.size w0 w5 from Below.trans HG4.out hb5)
     clear hR5 hb5 HPt
     go_wp2_with fail
     have ew : wrap64 ((k : Int) + 1) = (k : Int) + 1 := by have h1 := HK.out; have h2 := HGl.out; have h3 := HM1.out.2; unfold wrap64; omega
     go_roundw
     case rel => exact ⟨k + 1, by have := HK.out; omega, by rw [ew]; rfl, keep HR5.out, HG5⟩
     case measure => have := HK.out; rw [ew]; simp [intOf]; omega
    ·have e : k = g := by omega
     subst e
     have hrr := HB.out
     have hgw := HG.out
     obtain ⟨p0, p1, p2, p3, p4, p5, _⟩ := HP.out wr HG.out
     have hma := made_any xn (.slice ba bn bc) (clrS m f l k) P.lsn wr (by have h1 := HX2.out; have h2 := HXn.out; have h3 := HM1.out.2; omega) (fun u hu => (hrr.fits hu).converts)
     unfold pgV at hma
     have HMa := keep hma
     have hxv := HXn.out
     subst hxv
     clear hrr hgw hma
     go_wp2_with fail
     refine HMa.out.mono ?_
     rintro y wc ⟨jv, rfl, hj, hbc⟩
     obtain ⟨ja, jc, rfl⟩ := itemsS_form hj
     have HJ := keep hj
     have HGc := keep (show Grow w0 wc from Below.trans HG.out (hbc.mono (Below.size HG.out)))
     have HZx := keep (HZ.out.fits HGc.out)
     clear hj hbc HMa
     go_wp2_with ((refine wpList_store_box sizePage rfl _ _ rfl (w_.heap.size + 1) _ rfl rfl HZx.out rfl rfl rfl ?_); intro wz hset hbz; have Hset := keep hset; have Hbut := keep hbz; clear hset hbz)
     refine bodyPost_ret (v := .tuple #[pgV (madeP xn (clrS m f l k) P.lsn) (.slice ja 2 jc), .int .i64 0]) ?_ rfl ?_
     ·exact deed_res Tryz.results86 _ _ _ _ (madeP xn (clrS m f l k) P.lsn) _ rfl rfl Hset.out
     ·have hy := HY2.out
      simp only [Prod.mk.injEq] at hy
      rw [← hy.1, ← hy.2]
      exact ⟨_, rfl, HJ.out.but Hbut.out (ne_blk HZx.out (by decide)), But.below (Grow.trans HG0.out HGc.out) Hbut.out (by omega) (Grow.trans HG0.out HGc.out).size⟩
 ·have e0 : (openE m P != 0) = true := by simpa using h0
  have HRes := keep (show (Z1, Z2) = (zeroP, openE m P) by rw [← HZe.out, if_neg h0])
  rw [if_neg h0]
  generalize openE m P = oc at *
  clear h0 hbr
  have HZx := keep (HZ.out.fits HG1.out)
  go_wp2_with ((refine wpList_store_box sizePage rfl _ _ rfl (w_.heap.size + 1) _ rfl rfl HZx.out rfl rfl rfl ?_); intro wz hset hbz; have Hset := keep hset; have Hbut := keep hbz; clear hset hbz)
  refine bodyPost_ret (v := .tuple #[pgV zeroP (.slice none 0 0), .int .i64 (oc)]) ?_ rfl (cpg_zero (HRes.out) (But.below (Grow.trans HG0.out HG1.out) Hbut.out (by omega) (Grow.trans HG0.out HG1.out).size))
  exact deed_res Tryz.results86 _ _ _ _ zeroP _ rfl rfl Hset.out
set_option maxRecDepth 100000 in
set_option maxHeartbeats 4000000 in
theorem cut16_any (m : Int) (P : Pg) (iv : Value) (R : Rc) (V : RcV) (w_ : World) (hin : PgIn w_ iv P) (hl : P.items.length ≤ 8796093021952) (hr : RcIn w_ R V) :
  Calls Tryz.prog 54 #[.int .i64 m, pgV P iv, rcV R V] w_ (CpgPost (cutS m P R.new).1 (cutS m P R.new).2 w_) := by
 obtain ⟨w0, hw0⟩ : ∃ w0, w0 = ((w_.alloc (.cells (pgCells P iv).toArray 24)).alloc (.cells (rcC R V).toArray 33)).alloc (.cells #[.int .i64 0, .int .i64 0, .int .i64 0, .int .i64 0, .string ⟨#[]⟩, .slice none 0 0] 24) := ⟨_, rfl⟩
 obtain ⟨hg0, hP0, hC0, hZ0⟩ := deed_new P iv R V w_ w0 hw0
 obtain ⟨ia, ic, rfl⟩ := items_form hin.1
 obtain ⟨Z, hZ⟩ : ∃ Z, cutS m P R.new = Z := ⟨_, rfl⟩
 rw [hZ]
 have HIn := keep (hin.fits hg0)
 have HR := keep (hr.fits hg0)
 have HL := keep hl
 have HZe := keep hZ
 have HG0 := keep hg0
 have HP := keep (fun (u : World) (hu : Grow w0 u) => pgres (hP0.fits hu))
 have HC := keep (fun (u : World) (hu : Grow w0 u) => recres (hC0.fits hu))
 have HPb := keep hP0
 have HCb := keep hC0
 have HZ := keep hZ0
 have hlt := hZ0.lt
 unfold pgCells rcC at hw0
 clear hin hr hl hZ hg0 hP0 hC0 hZ0
 obtain ⟨Z1, Z2⟩ := Z
 unfold pgV rcV
 go_enter Tryz.func54, Tryz.ntmps54
 go_upto_region 1 with fail
 rw [← hw0]
 clear hw0
 obtain ⟨p0, p1, p2, p3, p4, p5, _⟩ := HP.out w0 (Grow.refl _)
 obtain ⟨⟨c0, c1, c2, c3, c4, c5, c6, c7, c8, c9, c10, c11, c12, c13, c14, c15⟩, _⟩ := HC.out w0 (Grow.refl _)
 have hca := cut_any m P (.slice ia P.items.length ic) R.new w0 HIn.out
 rw [show cutS m P R.new = (Z1, Z2) from HZe.out] at hca
 have HCa := keep hca
 have HGr := keep (Grow.refl w0)
 clear hca
 unfold pgV at HCa
 have HCall := keep (HCa.out)
 unfold CpgPost pgV at HCall
 go_wp2_with fail
 refine HCall.out.mono ?_
 rintro y wc ⟨jv, rfl, hj, hbc⟩
 obtain ⟨ja, jc, rfl⟩ := itemsS_form hj
 have HJ := keep hj
 have HGc := keep (Grow.trans HGr.out hbc)
 have HZx := keep (HZ.out.fits HGc.out)
 clear hj hbc HCall
 go_wp2_with ((refine wpList_store_box sizePage rfl _ _ rfl (w_.heap.size + 2) _ rfl rfl HZx.out rfl rfl rfl ?_); intro wz hset hbz; have Hset := keep hset; have Hbut := keep hbz; clear hset hbz)
 refine bodyPost_ret (v := .tuple #[pgV Z1 (.slice ja Z1.items.length jc), .int .i64 Z2]) ?_ rfl ⟨_, rfl, HJ.out.but Hbut.out (ne_blk HZx.out (by decide)), But.below (Grow.trans HG0.out HGc.out) Hbut.out (by omega) (Grow.trans HG0.out HGc.out).size⟩
 exact deed_res Tryz.results54 _ _ _ _ Z1 _ rfl rfl Hset.out
end Go.Proofs.YtmhepfehcakmjaaGreat
namespace Go.Proofs.YtmhepfehcakmjaaGreat
open Go.RowKit
attribute [local go_sem] givesV lookV knAt givesF_none givesF_some evalF_tmp evalF_const evalF_global evalF_func lookL isB_bool isB_undef givesUpon_value givesUpon_skip givesUpon_enter
def PgS (P : Pg) : Prop := (∀ x ∈ P.items, (x.length : Int) ≤ 140737488355328) ∧ (P.high.length : Int) ≤ 140737488355328 ∧ P.items.length ≤ 8796093021952 ∧ P.lsn ≤ 9223372036854775807
theorem pgS_in {w : World} {iv : Value} {P : Pg} (h : Items w iv P.items) (k : PgS P) : PgIn w iv P := ⟨h, k.1, k.2.1, by have := k.2.2.1; omega, k.2.2.2⟩
theorem pgS_of {w : World} {iv : Value} {P : Pg} (h : PgIn w iv P) (k : P.items.length ≤ 8796093021952) : PgS P := ⟨h.2.1, h.2.2.1, k, h.2.2.2.2⟩
theorem with_S {P : Pg} {i : Int} {x : List UInt8} (h : PgS P) (hx : (x.length : Int) ≤ 140737488355328) (h0 : (withN P i x).2 = 0) : PgS (withN P i x).1 := by
 unfold withN turnedN at h0 ⊢
 split
 ·rename_i hi
  rw [if_pos hi] at h0
  split
  ·refine ⟨fun y hy => ?_, h.2.1, by rw [List.length_set]; exact h.2.2.1, h.2.2.2⟩
   rcases List.mem_or_eq_of_mem_set hy with h1 | rfl
   ·exact h.1 y h1
   ·exact hx
  ·rename_i hf
   rw [if_neg hf] at h0
   cases h0
 ·rename_i hi
  rw [if_neg hi] at h0
  cases h0
theorem but_grow {b : Nat} {u v : World} (h : Grow u v) : But b u v := ⟨h.os, h.tape, h.output, h.size, fun k hk _ => h.block k hk⟩
def cleanGo : Pg → List Int → Pg × Int
 | Q, [] => (Q, 0)
 | Q, s :: l => if 0 ≤ s ∧ s < Q.items.length then (if (withN Q s []).2 ≠ 0 then (zeroP, (withN Q s []).2) else cleanGo (withN Q s []).1 l) else (zeroP, 110)
def ClRel (N : Nat) (S : List Int) (Z : Pg × Int) (w0 : World) (i : Value) (wr : World) : Prop := ∃ (n : Nat) (Q : Pg) (jv : Value), n ≤ S.length ∧ i = .int .i64 n ∧ Kept (Blk wr N 24 (pgCells Q jv)) ∧ Kept (ItemsS wr jv Q.items) ∧ Kept (PgS Q) ∧ Kept (cleanGo Q (S.drop n) = Z) ∧ Kept (But N w0 wr)
def lk8 (j : Nat) : Nat := if j = 8 then 7 else j
set_option maxRecDepth 100000 in
set_option maxHeartbeats 4000000 in
theorem clean_any (m : Int) (P : Pg) (iv : Value) (R : Rc) (V : RcV) (w_ : World) (hin : PgIn w_ iv P) (hl : P.items.length ≤ 8796093021952) (hr : RcIn w_ R V) :
  Calls Tryz.prog 52 #[.int .i64 m, pgV P iv, rcV R V] w_ (CpgPost (cleanGo P R.slots).1 (cleanGo P R.slots).2 w_) := by
 obtain ⟨w0, hw0⟩ : ∃ w0, w0 = ((w_.alloc (.cells (pgCells P iv).toArray 24)).alloc (.cells (rcC R V).toArray 33)).alloc (.cells #[.int .i64 0, .int .i64 0, .int .i64 0, .int .i64 0, .string ⟨#[]⟩, .slice none 0 0] 24) := ⟨_, rfl⟩
 obtain ⟨hg0, hP0, hC0, hZ0⟩ := deed_new P iv R V w_ w0 hw0
 obtain ⟨ia, ic, rfl⟩ := items_form hin.1
 obtain ⟨Z, hZ⟩ : ∃ Z, cleanGo P R.slots = Z := ⟨_, rfl⟩
 rw [hZ]
 have HIn := keep (hin.fits hg0)
 have HR := keep (hr.fits hg0)
 have HR_ := keep hr
 have HL := keep hl
 have HZe := keep hZ
 have HG0 := keep hg0
 have HP := keep (fun (u : World) (hu : Grow w0 u) => pgres (hP0.fits hu))
 have HC := keep (fun (u : World) (hu : Grow w0 u) => recres (hC0.fits hu))
 have HPb := keep hP0
 have HCb := keep hC0
 have HZ := keep hZ0
 have hlt := hZ0.lt
 unfold pgCells rcC at hw0
 clear hin hr hl hZ hg0 hP0 hC0 hZ0
 obtain ⟨Z1, Z2⟩ := Z
 unfold pgV rcV
 go_enter Tryz.func52, Tryz.ntmps52
 go_upto_region 1 with fail
 rw [← hw0]
 clear hw0
 obtain ⟨p0, p1, p2, p3, p4, p5, _⟩ := HP.out w0 (Grow.refl _)
 obtain ⟨⟨c0, c1, c2, c3, c4, c5, c6, c7, c8, c9, c10, c11, c12, c13, c14, c15⟩, _⟩ := HC.out w0 (Grow.refl _)
 have HCl := keep (clone_any (.slice ia P.items.length ic) P.items w0 HIn.out.1 (by have := HL.out; omega))
 have HS0 := keep (pgS_of HIn.out HL.out)
 go_wp2_with fail
 refine HCl.out.mono ?_
 rintro y w1 ⟨v', rfl, ho, hb1⟩
 have ho : OwnS w0.heap.size w1 v' P.items := ho
 obtain ⟨a', c', rfl⟩ := ho.form
 have HG1 := keep (show Grow w0 w1 from hb1)
 have hP1 := HPb.out.fits hb1
 have hP1s := hP1.set 5 (.slice a' P.items.length c')
 have hk1 := (But.refl w_.heap.size w1).setCell 5 (.slice a' P.items.length c')
 have hi1 := ho.items.1.but hk1 (ne_blk hP1 (by decide))
 unfold pgCells at hP1 hP1s
 simp only [List.set_cons_succ, List.set_cons_zero] at hP1s
 clear p0 p1 p2 p3 p4 p5 c0 c1 c2 c3 c4 c5 c6 c7 c8 c9 c10 c11 c12 c13 c14 c15 hb1 ho HCl
 obtain ⟨p0, p1, p2, p3, p4, p5, f0, f1, f2, f3, f4, f5⟩ := pgres hP1
 go_upto_region 2 with fail
 obtain ⟨w2, hw2⟩ : ∃ w2, w2 = w1.setCell ⟨w_.heap.size, 5, none⟩ (.slice a' P.items.length c') := ⟨_, rfl⟩
 rw [← hw2]
 rw [← hw2] at hP1s hk1 hi1
 have HB2 := keep (show Blk w2 w_.heap.size 24 (pgCells P (.slice a' P.items.length c')) from hP1s)
 have HI2 := keep (show ItemsS w2 (.slice a' P.items.length c') P.items from hi1)
 have HK2 := keep (But.trans (but_grow HG1.out) hk1)
 clear hP1 hP1s hk1 hi1 hw2 p0 p1 p2 p3 p4 p5 f0 f1 f2 f3 f4 f5 HG1
 have HRs := keep (HR_.out.slots)
 have HSl := keep (HR_.out.slotl)
 have HCx := keep (show Blk w2 (w_.heap.size + 1) 33 (rcC R V) from HCb.out.but HK2.out (by omega))
 have hrc := HCx.out
 unfold rcC at hrc
 obtain ⟨⟨c0, c1, c2, c3, c4, c5, c6, c7, c8, c9, c10, c11, c12, c13, c14, c15⟩, _⟩ := recres hrc
 have HZg := keep (show cleanGo P R.slots = (Z1, Z2) from HZe.out)
 clear hrc
 generalize R.slots = S at *
 generalize V.sa = sa at *
 generalize V.sc = sc at *
 go_wp2_with fail
 go_loopw [19] (fun i wr => ClRel w_.heap.size S (Z1, Z2) w0 i wr) (fun i _ => S.length - (intOf i).toNat)
 case atStart => exact show ClRel _ _ _ _ _ _ from ⟨0, P, _, Nat.zero_le _, rfl, HB2, HI2, HS0, keep (by rw [List.drop_zero]; exact HZg.out), HK2⟩
 case round =>
  clear c0 c1 c2 c3 c4 c5 c6 c7 c8 c9 c10 c11 c12 c13 c14 c15 HB2 HI2 HK2 HCx HZg
  obtain ⟨n, Q, jv, hn, rfl, HB, HI, HS, HY, HK⟩ := hrel
  obtain ⟨qa, qc, rfl⟩ := itemsS_form HI.out
  have HGw := keep (show Grow w_ wr from But.below HG0.out HK.out (Nat.le_refl _) HG0.out.size)
  have HGr := keep (Grow.refl wr)
  by_cases hlt2 : n < S.length
  ·obtain ⟨c, off, cap, e5, hcc⟩ := ints_at HRs.out hlt2
   simp only [Value.slice.injEq] at e5
   obtain ⟨rfl, -, rfl⟩ := e5
   have q0 := hcc wr HGw.out
   have hy := HY.out
   rw [List.drop_eq_getElem_cons hlt2] at hy
   generalize S[n] = s at *
   have e1 : decide (n < S.length) = true := decide_eq_true hlt2
   have HLt := keep hlt2
   obtain ⟨p0, p1, p2, p3, p4, p5, _⟩ := pgres HB.out
   clear hcc hn
   by_cases h2 : 0 ≤ s ∧ s < Q.items.length
   ·unfold cleanGo at hy
    rw [if_pos h2] at hy
    obtain ⟨h3, h4⟩ := h2
    obtain ⟨j, rfl⟩ := Int.eq_ofNat_of_zero_le h3
    have e3 : decide ((j : Int) < 0) = false := decide_eq_false (by omega)
    have e4 : decide (Q.items.length ≤ j) = false := decide_eq_false (by omega)
    have hwi := fun (u : World) (hu : ItemsS u (.slice qa Q.items.length qc) Q.items) => with_any Q (.slice qa Q.items.length qc) j [] u (pgS_in hu.weak HS.out) (by simp) (by have := HS.out.2.2.1; omega)
    have hws := fun h => with_S (x := []) (i := (j : Int)) HS.out (by simp) h
    generalize withN Q (j : Int) [] = X at *
    obtain ⟨R1, cd⟩ := X
    dsimp only at hy hwi hws
    rw [show str [] = ⟨#[]⟩ from rfl] at hwi
    unfold PgPost pgV at hwi
    have HWi := keep hwi
    have HWs := keep hws
    have HY2 := keep hy
    have HP7 := keep (fun (u : World) (hu : Fill wr.heap.size 24 (GoodC R1) wr.drew u) => Blk.below HB.out.drew hu.below HB.out.lt)
    have HI7 := keep (fun (u : World) (hu : Fill wr.heap.size 24 (GoodC R1) wr.drew u) => (show ItemsS u (.slice qa Q.items.length qc) Q.items from hu.row HI.out (by decide)))
    clear hwi hws hy h3 h4 HY
    unfold pgCells at HP7
    go_upto_region 7 with fail
    clear p0 p1 p2 p3 p4 p5 q0
    refine wp_region_link_named (by kernel_rfl) 9 lk8 (Fill wr.heap.size 24 (GoodC R1)) (Fill.refl _) (fun _ _ _ => Fill.trans (goodC_stays R1)) (by kernel_rfl) (by kernel_rfl) [(34, 0), (35, 1), (36, 2), (37, 3), (33, 4), (38, 5), (39, 6), (10, 7)] (by kernel_rfl) [(0, true), (1, true), (2, true), (3, true), (4, true), (5, true), (6, true), (7, true), (8, true)] (by kernel_rfl) rfl rfl ?_
    intro a0 ha0
    have hsz : a0.tmps.size = 47 := (size_at ha0).trans rfl
    have s4 := slot_at ha0 4 rfl
    have s9 := slot_at ha0 9 rfl
    have HA0 := keep ha0
    clear ha0
    apply lexkf_eq hsz [] [(35, 1), (36, 2), (33, 4), (38, 5), (39, 6), (10, 7)] none (by kernel_rfl) (by kernel_rfl) (by kernel_rfl) (by kernel_rfl) rfl rfl
    ·intro xs w hw hp K hK
     obtain ⟨p0, p1, p2, p3, p4, p5, _⟩ := pgres (HP7.out w hw)
     go_simp
     exact hK _ (Fill.refl _)
    apply lexkf_eq hsz [] [(34, 0), (36, 2), (33, 4), (38, 5), (39, 6), (10, 7)] none (by kernel_rfl) (by kernel_rfl) (by kernel_rfl) (by kernel_rfl) rfl rfl
    ·intro xs w hw hp K hK
     go_simp
     exact hK _ (Fill.refl _)
    refine lexkf_says hsz (fun v _ => v = .string ⟨#[]⟩) (fun _ _ _ _ h => h) [] [(34, 0), (35, 1), (33, 4), (38, 5), (39, 6), (10, 7)] none (by kernel_rfl) (by kernel_rfl) (by kernel_rfl) (by kernel_rfl) rfl rfl ?_ ?_
    ·intro xs w hw hp K hK
     go_simp
     exact (free_any w).mono fun e w' ⟨h1, h2⟩ => ⟨_, h1, hK _ _ rfl (by subst h2; exact Fill.refl _)⟩
    refine lexkf_says hsz (fun v u => ∃ iv, v = .tuple #[pgV R1 iv, .int .i64 cd] ∧ ItemsC u iv R1.items) (fun _ _ _ g h => h.elim fun iv h => ⟨iv, h.1, g.itemsC h.2⟩) [(0, true), (1, true), (2, true)] [(34, 0), (35, 1), (36, 2), (38, 5), (39, 6), (10, 7)] none (by kernel_rfl) (by kernel_rfl) (by kernel_rfl) (by kernel_rfl) rfl rfl ?_ ?_
    ·intro xs w hw hp K hK
     simp only [holdsK, lk8, reduceIte, Nat.reduceEqDiff, List.nil_append, List.cons_append, List.getD_cons_succ, List.getD_cons_zero, if_true, and_true] at hp
     go_simp
     exact (HWi.out w (HI7.out w hw)).mono fun e w' ⟨iv, h1, h2, h3⟩ => ⟨_, h1, hK _ _ ⟨iv, rfl, h2⟩ (Fill.of_grow h3 hw.below.size)⟩
    refine lexkf_says hsz (fun v u => ∃ iv, v = .tuple #[pgV R1 iv, .int .i64 cd] ∧ ItemsC u iv R1.items) (fun _ _ _ g h => h.elim fun iv h => ⟨iv, h.1, g.itemsC h.2⟩) [(3, true)] [(34, 0), (35, 1), (36, 2), (37, 3), (10, 7)] none (by kernel_rfl) (by kernel_rfl) (by kernel_rfl) (by kernel_rfl) rfl rfl ?_ ?_
    ·intro xs w hw hp K hK
     simp only [holdsK, lk8, reduceIte, Nat.reduceEqDiff, List.nil_append, List.cons_append, List.getD_cons_succ, List.getD_cons_zero, if_true, and_true] at hp
     obtain ⟨iv8, h8, hit⟩ := hp
     go_simp
     exact hK _ _ ⟨iv8, rfl, hit⟩ (Fill.refl _)
    refine lexkf_says hsz (fun v u => ∃ iv, v = pgV R1 iv ∧ ItemsC u iv R1.items) (fun _ _ _ g h => h.elim fun iv h => ⟨iv, h.1, g.itemsC h.2⟩) [(4, true)] [(34, 0), (35, 1), (36, 2), (37, 3), (33, 4), (39, 6), (10, 7)] none (by kernel_rfl) (by kernel_rfl) (by kernel_rfl) (by kernel_rfl) rfl rfl ?_ ?_
    ·intro xs w hw hp K hK
     simp only [holdsK, lk8, reduceIte, Nat.reduceEqDiff, List.nil_append, List.cons_append, List.getD_cons_succ, List.getD_cons_zero, if_true, and_true] at hp
     obtain ⟨iv8, h8, hit⟩ := hp
     go_simp
     exact hK _ _ ⟨iv8, rfl, hit⟩ (Fill.refl _)
    refine lexkf_says hsz (fun v _ => v = .int .i64 cd) (fun _ _ _ _ h => h) [(4, true)] [(34, 0), (35, 1), (36, 2), (37, 3), (33, 4), (38, 5), (10, 7)] none (by kernel_rfl) (by kernel_rfl) (by kernel_rfl) (by kernel_rfl) rfl rfl ?_ ?_
    ·intro xs w hw hp K hK
     simp only [holdsK, lk8, reduceIte, Nat.reduceEqDiff, List.nil_append, List.cons_append, List.getD_cons_succ, List.getD_cons_zero, if_true, and_true] at hp
     obtain ⟨iv8, h8, hit⟩ := hp
     go_simp
     exact hK _ _ rfl (Fill.refl _)
    refine lexkf_says hsz (fun v u => ∃ b, v = .pointer (some ⟨b, 0, none⟩) ∧ wr.heap.size ≤ b ∧ ∃ a0 a1 a2 a3 a4 a5, Blk u b 24 [a0, a1, a2, a3, a4, a5]) (fun _ _ _ g ⟨b, h1, h2, h3⟩ => ⟨b, h1, h2, fill_six g h3⟩) [] [(34, 0), (35, 1), (36, 2), (37, 3), (33, 4), (38, 5), (39, 6)] none (by kernel_rfl) (by kernel_rfl) (by kernel_rfl) (by kernel_rfl) rfl rfl ?_ ?_
    ·intro xs w hw hp K hK
     go_simp
     exact hK _ _ ⟨_, rfl, hw.below.size, _, _, _, _, _, _, Blk.new w _ [_, _, _, _, _, _]⟩ (Fill.of_grow ((Grow.refl w).alloc _) hw.below.size)
    refine lexkf_link hsz (fun v u => ∃ b, v = .pointer (some ⟨b, 0, none⟩) ∧ wr.heap.size ≤ b ∧ ∃ iv', Blk u b 24 (pgCells R1 iv') ∧ ItemsC u iv' R1.items) (fun _ _ _ hg ⟨b, h1, h2, iv', h3, h4⟩ => ⟨b, h1, h2, goodC_lasts hg h3 h4⟩) [(5, true), (7, true)] [(34, 0), (35, 1), (36, 2), (37, 3), (33, 4), (38, 5), (39, 6), (10, 7)] none (by kernel_rfl) (by kernel_rfl) (by kernel_rfl) (by kernel_rfl) rfl (by decide) ?_ ?_
    ·intro xs w hw hp K hK
     simp only [holdsK, lk8, reduceIte, Nat.reduceEqDiff, List.nil_append, List.cons_append, List.getD_cons_succ, List.getD_cons_zero, if_true, and_true] at hp
     obtain ⟨⟨iv', h17, hit⟩, b, h19, hbN, a0_, a1_, a2_, a3_, a4_, a5_, hB⟩ := hp
     obtain ⟨c0, c1, c2, c3, c4, c5, f0, f1, f2, f3, f4, f5⟩ := pgres hB
     obtain ⟨iva', ivc', rfl⟩ := itemsS_form hit.1
     have Hset := keep (pgset hB (.int .i64 R1.lsn) (.int .i64 R1.kind) (.int .i64 R1.level) (.int .i64 R1.right) (.string (str R1.high)) (.slice iva' R1.items.length ivc'))
     have Hbut := keep (pgbut w b (.int .i64 R1.lsn) (.int .i64 R1.kind) (.int .i64 R1.level) (.int .i64 R1.right) (.string (str R1.high)) (.slice iva' R1.items.length ivc'))
     have Hit2 := keep (itemsC_but hit Hbut.out hB (by decide))
     have HB := keep hB
     unfold pgV at h17
     clear hB hit
     go_simp
     exact hK _ _ ⟨b, h19, hbN, _, Hset.out, Hit2.out⟩ (Fill.but (cs' := pgCells R1 (.slice iva' R1.items.length ivc')) Hbut.out hbN hw.below.size HB.out rfl Hset.out ⟨_, rfl, Hit2.out⟩)
    intro xs w hw hp
    have ha0 := HA0.out
    clear HA0 hsz s4 s9
    simp only [holdsK, lk8, reduceIte, Nat.reduceEqDiff, List.nil_append, List.cons_append, List.getD_cons_succ, List.getD_cons_zero, if_true, and_true] at hp
    have hM := hp.2.2.2.2.2.2.1
    obtain ⟨b, h19, hbN, ivQ, hQ, hiQ⟩ := hp.2.2.2.2.2.2.2.2
    clear hp
    subst ha0
    simp only [putAll, hM, h19]
    have hwU := hw.undrew
    have HGf := keep (show Grow wr w from hwU.below)
    obtain ⟨ra, rc, rfl⟩ := itemsS_form hiQ.1
    have HQ := keep hQ
    have HiQ := keep hiQ
    have hbne : b ≠ w_.heap.size := by have h7 := HB.out.lt; omega
    have hbne2 : w_.heap.size + 2 ≠ b := by have h7 := HK.out.size; omega
    clear hw hwU hiQ HP7 HI7 HWi
    by_cases hcd : cd = 0
    ·subst hcd
     have hy := HY2.out
     rw [if_neg (by simp)] at hy
     have HY3 := keep hy
     have HS3 := keep (HWs.out rfl)
     have hQ3 := HQ.out
     unfold pgCells at hQ3
     obtain ⟨p0, p1, p2, p3, p4, p5, _⟩ := pgres hQ3
     have hPw := HB.out.fits HGf.out
     have HPw := keep hPw
     clear hQ hQ3 hy
     go_wp2_with ((refine wpList_store_box sizePage rfl _ _ rfl w_.heap.size (pgCells R1 (.slice ra R1.items.length rc)) rfl rfl HPw.out rfl rfl rfl ?_); intro wz hset hbz; have Hset := keep hset; have Hbut := keep hbz; clear hset hbz)
     have ew : wrap64 ((n : Int) + 1) = (n : Int) + 1 := by have h1 := HLt.out; have h2 := HSl.out; unfold wrap64; omega
     go_roundw
     case rel => exact show ClRel _ _ _ _ _ _ from ⟨n + 1, R1, _, HLt.out, by rw [ew]; rfl, Hset, keep (HiQ.out.1.but Hbut.out (ne_blk HPw.out (by decide))), HS3, HY3, keep (But.trans HK.out (But.trans (but_grow HGf.out) Hbut.out))⟩
     case measure => have := HLt.out; rw [ew]; simp [intOf]; omega
    ·have e6 : (cd != 0) = true := by simpa using hcd
     have HRes := keep (show (Z1, Z2) = (zeroP, cd) by rw [← HY2.out, if_pos hcd])
     clear hcd hQ
     have HZy := keep ((HZ.out.but HK.out (by omega)).fits HGf.out)
     have HGz := keep (Grow.trans (But.below HG0.out HK.out (Nat.le_refl _) HG0.out.size) HGf.out)
     go_wp2_with ((refine wpList_store_box sizePage rfl _ _ rfl (w_.heap.size + 2) _ rfl rfl HZy.out rfl rfl rfl ?_); intro wz hset hbz; have Hset := keep hset; have Hbut := keep hbz; clear hset hbz)
     refine bodyPost_ret (v := .tuple #[pgV zeroP (.slice none 0 0), .int .i64 (cd)]) ?_ rfl (cpg_zero (HRes.out) (But.below HGz.out Hbut.out (by omega) HGz.out.size))
     exact deed_res Tryz.results52 _ _ _ _ zeroP _ rfl rfl Hset.out
   ·have HRes := keep (show (Z1, Z2) = (zeroP, 110) by rw [← hy]; unfold cleanGo; rw [if_neg h2])
    have hcs : decide (s < 0) = true ∨ (decide (s < 0) = false ∧ decide ((Q.items.length : Int) ≤ s) = true) := by
     by_cases h0 : s < 0
     ·exact .inl (decide_eq_true h0)
     ·refine .inr ⟨decide_eq_false h0, decide_eq_true ?_⟩
      rcases Decidable.em ((Q.items.length : Int) ≤ s) with h | h
      ·exact h
      ·exact absurd ⟨by omega, by omega⟩ h2
    clear h2 hy
    rcases hcs with e3 | ⟨e3, e4⟩
    ·skip
     have HZy := keep ((HZ.out.but HK.out (by omega)).fits HGr.out)
     have HGz := keep (Grow.trans (But.below HG0.out HK.out (Nat.le_refl _) HG0.out.size) HGr.out)
     go_wp2_with ((refine wpList_store_box sizePage rfl _ _ rfl (w_.heap.size + 2) _ rfl rfl HZy.out rfl rfl rfl ?_); intro wz hset hbz; have Hset := keep hset; have Hbut := keep hbz; clear hset hbz)
     refine bodyPost_ret (v := .tuple #[pgV zeroP (.slice none 0 0), .int .i64 (110)]) ?_ rfl (cpg_zero (HRes.out) (But.below HGz.out Hbut.out (by omega) HGz.out.size))
     exact deed_res Tryz.results52 _ _ _ _ zeroP _ rfl rfl Hset.out
    ·skip
     have HZy := keep ((HZ.out.but HK.out (by omega)).fits HGr.out)
     have HGz := keep (Grow.trans (But.below HG0.out HK.out (Nat.le_refl _) HG0.out.size) HGr.out)
     go_wp2_with ((refine wpList_store_box sizePage rfl _ _ rfl (w_.heap.size + 2) _ rfl rfl HZy.out rfl rfl rfl ?_); intro wz hset hbz; have Hset := keep hset; have Hbut := keep hbz; clear hset hbz)
     refine bodyPost_ret (v := .tuple #[pgV zeroP (.slice none 0 0), .int .i64 (110)]) ?_ rfl (cpg_zero (HRes.out) (But.below HGz.out Hbut.out (by omega) HGz.out.size))
     exact deed_res Tryz.results52 _ _ _ _ zeroP _ rfl rfl Hset.out
  ·have e : n = S.length := by omega
   subst e
   have hy := HY.out
   rw [List.drop_length] at hy
   have HRs2 := keep (show (Q, 0) = (Z1, Z2) from hy)
   have hB9 := HB.out
   unfold pgCells at hB9
   obtain ⟨p0, p1, p2, p3, p4, p5, _⟩ := pgres hB9
   have HZy := keep (HZ.out.but HK.out (by omega))
   clear hy hB9
   go_wp2_with ((refine wpList_store_box sizePage rfl _ _ rfl (w_.heap.size + 2) _ rfl rfl HZy.out rfl rfl rfl ?_); intro wz hset hbz; have Hset := keep hset; have Hbut := keep hbz; clear hset hbz)
   refine bodyPost_ret (v := .tuple #[pgV Q (.slice qa Q.items.length qc), .int .i64 0]) ?_ rfl ?_
   ·exact deed_res Tryz.results52 _ _ _ _ Q _ rfl rfl Hset.out
   ·have hy := HRs2.out
    simp only [Prod.mk.injEq] at hy
    rw [← hy.1, ← hy.2]
    exact ⟨_, rfl, HI.out.but Hbut.out (ne_blk HZy.out (by decide)), But.below HGw.out Hbut.out (by omega) HGw.out.size⟩
end Go.Proofs.YtmhepfehcakmjaaGreat
namespace Go.Proofs.YtmhepfehcakmjaaGreat
open Go.RowKit
attribute [local go_sem] givesV lookV knAt givesF_none givesF_some evalF_tmp evalF_const evalF_global evalF_func lookL isB_bool isB_undef givesUpon_value givesUpon_skip givesUpon_enter
def chFrz (i0 : Bool) (T : Tup) : Int × Bool × Bool := if i0 then ((T.xmax : Int), true, true) else (0, T.frozen, true)
def frzGo (i0 : Bool) : Pg → List Int → Pg × Int
 | Q, [] => (Q, 0)
 | Q, s :: l => if (turnD Q s (chFrz i0)).2 ≠ 0 then (zeroP, (turnD Q s (chFrz i0)).2) else frzGo i0 (turnD Q s (chFrz i0)).1 l
def frzRest (R : Rc) : Nat → Pg → Pg × Int
 | 0, Q => if (frzGo true Q R.slots).2 ≠ 0 then (zeroP, (frzGo true Q R.slots).2) else (if (frzGo false (frzGo true Q R.slots).1 R.more).2 ≠ 0 then (zeroP, (frzGo false (frzGo true Q R.slots).1 R.more).2) else ((frzGo false (frzGo true Q R.slots).1 R.more).1, 0))
 | 1, Q => if (frzGo false Q R.more).2 ≠ 0 then (zeroP, (frzGo false Q R.more).2) else ((frzGo false Q R.more).1, 0)
 | _, Q => (Q, 0)
def freezeD (P : Pg) (R : Rc) : Pg × Int := frzRest R 0 P
theorem turn_S {P : Pg} {i : Int} {ch : Tup → Int × Bool × Bool} (h : PgS P) (h0 : (turnD P i ch).2 = 0) : PgS (turnD P i ch).1 := by
 unfold turnD at h0 ⊢
 split
 ·rename_i hi
  rw [if_pos hi] at h0
  cases hd : decS (P.items.getD i.toNat []) with
  | none => rw [hd] at h0; cases h0
  | some T =>
   rw [hd] at h0
   dsimp only at h0 ⊢
   split
   ·rename_i hb
    rw [if_pos hb] at h0
    cases h0
   ·rename_i hb
    rw [if_neg hb] at h0
    split
    ·rename_i he
     rw [if_pos he] at h0
     exact absurd h0 he
    ·rename_i he
     rw [if_neg he] at h0
     exact with_S h (by have := encTI_len T.xmin (ch T).1 (ch T).2.1 T.key T.val; omega) h0
 ·rename_i hi
  rw [if_neg hi] at h0
  cases h0
set_option maxRecDepth 100000 in
set_option maxHeartbeats 4000000 in
theorem frz1_any (i0 : Bool) (n : Int) (hn : (n == 0) = i0) (T : Tup) (b cb : Nat) (u : World) (hT : Blk u b 51 (tupC T)) (hI : Blk u cb 3 [.int .i64 n]) :
  Calls Tryz.prog 85 #[.pointer (some ⟨b, 0, none⟩), .pointer (some ⟨cb, 0, none⟩)] u fun x w' => x = .returned (.bool (chFrz i0 T).2.2) ∧ Blk w' b 51 [.int .i64 T.xmin, .int .i64 (chFrz i0 T).1, .bool (chFrz i0 T).2.1, .string (str T.key), .string (str T.val)] ∧ But b u w' := by
 have c0 := hI.cell 0 (by simp)
 simp only [List.getElem_cons_zero] at c0
 cases i0 with
 | true =>
  have hB2 := hT.set 2 (.bool true)
  have hk := (But.refl b u).setCell 2 (.bool true)
  unfold tupC at hT hB2
  simp only [List.set_cons_succ, List.set_cons_zero] at hB2
  obtain ⟨t0, t1, t2, t3, t4⟩ := tures hT
  have z2 := hT.free 2
  have HB2 := keep hB2
  have HK := keep hk
  clear hT hB2 hk hI t0 t1 t3 t4
  go_enter Tryz.func85, Tryz.ntmps85
  go_wp2_with fail
  go_ret
  exact ⟨rfl, HB2.out, HK.out⟩
 | false =>
  have hB2 := hT.set 1 (.int .i64 0)
  have hk := (But.refl b u).setCell 1 (.int .i64 0)
  unfold tupC at hT hB2
  simp only [List.set_cons_succ, List.set_cons_zero] at hB2
  obtain ⟨t0, t1, t2, t3, t4⟩ := tures hT
  have z1 := hT.free 1
  have HB2 := keep hB2
  have HK := keep hk
  clear hT hB2 hk hI t0 t2 t3 t4
  go_enter Tryz.func85, Tryz.ntmps85
  go_wp2_with fail
  go_ret
  exact ⟨rfl, HB2.out, HK.out⟩
def FzO (N : Nat) (R : Rc) (Z : Pg × Int) (w0 : World) (i : Value) (wr : World) : Prop := ∃ (n : Nat) (Q : Pg) (jv : Value), n ≤ 2 ∧ i = .int .i64 n ∧ Kept (Blk wr N 24 (pgCells Q jv)) ∧ Kept (ItemsS wr jv Q.items) ∧ Kept (PgS Q) ∧ Kept (frzRest R n Q = Z) ∧ Kept (But N w0 wr)
def FzI (N : Nat) (i0 : Bool) (S : List Int) (Z : Pg × Int) (G : Pg × Int → Pg × Int) (bx : Nat) (k : Int) (w0 : World) (i : Value) (wr : World) : Prop := ∃ (n : Nat) (Q : Pg) (jv : Value), n ≤ S.length ∧ i = .int .i64 n ∧ Kept (Blk wr N 24 (pgCells Q jv)) ∧ Kept (ItemsS wr jv Q.items) ∧ Kept (PgS Q) ∧ Kept (G (frzGo i0 Q (S.drop n)) = Z) ∧ Kept (But N w0 wr) ∧ Kept (Blk wr bx 3 [.int .i64 k])
set_option maxRecDepth 100000 in
set_option maxHeartbeats 4000000 in
theorem freeze16_any (m : Int) (P : Pg) (iv : Value) (R : Rc) (V : RcV) (w_ : World) (hin : PgIn w_ iv P) (hl : P.items.length ≤ 8796093021952) (hr : RcIn w_ R V) :
  Calls Tryz.prog 53 #[.int .i64 m, pgV P iv, rcV R V] w_ (CpgPost (freezeD P R).1 (freezeD P R).2 w_) := by
 obtain ⟨w0, hw0⟩ : ∃ w0, w0 = ((w_.alloc (.cells (pgCells P iv).toArray 24)).alloc (.cells (rcC R V).toArray 33)).alloc (.cells #[.int .i64 0, .int .i64 0, .int .i64 0, .int .i64 0, .string ⟨#[]⟩, .slice none 0 0] 24) := ⟨_, rfl⟩
 obtain ⟨hg0, hP0, hC0, hZ0⟩ := deed_new P iv R V w_ w0 hw0
 obtain ⟨ia, ic, rfl⟩ := items_form hin.1
 obtain ⟨Z, hZ⟩ : ∃ Z, freezeD P R = Z := ⟨_, rfl⟩
 rw [hZ]
 have HIn := keep (hin.fits hg0)
 have HR := keep (hr.fits hg0)
 have HR_ := keep hr
 have HL := keep hl
 have HZe := keep hZ
 have HG0 := keep hg0
 have HP := keep (fun (u : World) (hu : Grow w0 u) => pgres (hP0.fits hu))
 have HC := keep (fun (u : World) (hu : Grow w0 u) => recres (hC0.fits hu))
 have HPb := keep hP0
 have HCb := keep hC0
 have HZ := keep hZ0
 have hlt := hZ0.lt
 unfold pgCells rcC at hw0
 clear hin hr hl hZ hg0 hP0 hC0 hZ0
 obtain ⟨Z1, Z2⟩ := Z
 unfold pgV rcV
 go_enter Tryz.func53, Tryz.ntmps53
 go_upto_region 1 with fail
 rw [← hw0]
 clear hw0
 obtain ⟨p0, p1, p2, p3, p4, p5, _⟩ := HP.out w0 (Grow.refl _)
 obtain ⟨⟨c0, c1, c2, c3, c4, c5, c6, c7, c8, c9, c10, c11, c12, c13, c14, c15⟩, _⟩ := HC.out w0 (Grow.refl _)
 have HCl := keep (clone_any (.slice ia P.items.length ic) P.items w0 HIn.out.1 (by have := HL.out; omega))
 have HS0 := keep (pgS_of HIn.out HL.out)
 go_wp2_with fail
 refine HCl.out.mono ?_
 rintro y w1 ⟨v', rfl, ho, hb1⟩
 have ho : OwnS w0.heap.size w1 v' P.items := ho
 obtain ⟨a', c', rfl⟩ := ho.form
 have HG1 := keep (show Grow w0 w1 from hb1)
 have hP1 := HPb.out.fits hb1
 have hP1s := hP1.set 5 (.slice a' P.items.length c')
 have hk1 := (But.refl w_.heap.size w1).setCell 5 (.slice a' P.items.length c')
 have hi1 := ho.items.1.but hk1 (ne_blk hP1 (by decide))
 unfold pgCells at hP1 hP1s
 simp only [List.set_cons_succ, List.set_cons_zero] at hP1s
 clear p0 p1 p2 p3 p4 p5 c0 c1 c2 c3 c4 c5 c6 c7 c8 c9 c10 c11 c12 c13 c14 c15 hb1 ho HCl
 obtain ⟨p0, p1, p2, p3, p4, p5, f0, f1, f2, f3, f4, f5⟩ := pgres hP1
 go_upto_region 2 with fail
 obtain ⟨w2, hw2⟩ : ∃ w2, w2 = w1.setCell ⟨w_.heap.size, 5, none⟩ (.slice a' P.items.length c') := ⟨_, rfl⟩
 rw [← hw2]
 rw [← hw2] at hP1s hk1 hi1
 have HB2 := keep (show Blk w2 w_.heap.size 24 (pgCells P (.slice a' P.items.length c')) from hP1s)
 have HI2 := keep (show ItemsS w2 (.slice a' P.items.length c') P.items from hi1)
 have HK2 := keep (But.trans (but_grow HG1.out) hk1)
 clear hP1 hP1s hk1 hi1 hw2 p0 p1 p2 p3 p4 p5 f0 f1 f2 f3 f4 f5 HG1
 have HRs := keep HR_.out
 have HRa0 := keep HR_.out.slots
 have HRa1 := keep HR_.out.more
 have HCx := keep (show Blk w2 (w_.heap.size + 1) 33 (rcC R V) from HCb.out.but HK2.out (by omega))
 have hrc := HCx.out
 unfold rcC at hrc
 obtain ⟨⟨c0, c1, c2, c3, c4, c5, c6, c7, c8, c9, c10, c11, c12, c13, c14, c15⟩, _⟩ := recres hrc
 have HZg := keep (show frzRest R 0 P = (Z1, Z2) from HZe.out)
 clear hrc
 generalize V.sa = sa at *
 generalize V.sc = sc at *
 generalize V.ma = ma at *
 generalize V.mc = mc at *
 go_wp2_with fail
 go_loopw [23] (fun i wr => FzO w_.heap.size R (Z1, Z2) w0 i wr) (fun i _ => 2 - (intOf i).toNat)
 case atStart => exact show FzO _ _ _ _ _ _ from ⟨0, P, _, by decide, rfl, HB2, HI2, HS0, HZg, HK2⟩
 case round =>
  clear c0 c1 c2 c3 c4 c5 c6 c7 c8 c9 c10 c11 c12 c13 c14 c15 HB2 HI2 HK2 HCx HZg HS0 HZe
  obtain ⟨n, Q, jv, hn, rfl, HB, HI, HS, HY, HK⟩ := hrel
  obtain ⟨qa, qc, rfl⟩ := itemsS_form HI.out
  obtain rfl | rfl | rfl : n = 0 ∨ n = 1 ∨ n = 2 := by omega
  ·clear hn
   have hix : ∀ (a b : Value) (w : World), (Instr.index 144 (.agg #[a, b]) (.int .i64 0)).run Tryz.prog w = .ok a w := by
    intro a b w
    kernel_rfl
   go_upto_region 5 with fail
   obtain ⟨w3, hw3⟩ : ∃ w3, w3 = wr.alloc (.cells #[.int .i64 0] 3) := ⟨_, rfl⟩
   rw [← hw3]
   have hg3 : Grow wr w3 := by subst hw3; exact (Grow.refl _).alloc _
   have hX3 : Blk w3 wr.heap.size 3 [.int .i64 0] := by subst hw3; exact Blk.new wr _ [_]
   have HX3 := keep hX3
   have HB3 := keep (HB.out.fits hg3)
   have HI3 := keep (RowS.fits HI.out hg3)
   have HK3 := keep (But.trans HK.out (but_grow hg3))
   have HYG := keep (show (fun A : Pg × Int => if A.2 ≠ 0 then (zeroP, A.2) else frzRest R 1 A.1) (frzGo true Q R.slots) = (Z1, Z2) from HY.out)
   have hbx : w_.heap.size + 2 < wr.heap.size := by have h1 := HK.out.size; have h2 := hlt; omega
   have HRl := HRa0
   have HSl := keep HRs.out.slotl
   generalize wr.heap.size = bx at *
   clear hw3 hg3 hX3 HB HI HK HY
   obtain ⟨G, hG⟩ : ∃ G : Pg × Int → Pg × Int, (fun A : Pg × Int => if A.2 ≠ 0 then (zeroP, A.2) else frzRest R 1 A.1) = G := ⟨_, rfl⟩
   rw [hG] at HYG
   have HG := keep hG
   clear hG
   have HPo := keep (fun (m : Nat) (Q' : Pg) => (rfl : (fun A : Pg × Int => if A.2 ≠ 0 then (zeroP, A.2) else frzRest R 1 A.1) = (fun A : Pg × Int => if A.2 ≠ 0 then (zeroP, A.2) else frzRest R 1 A.1)))
   go_wp2_with fail
   go_loopw [29] (fun i u => FzI w_.heap.size true R.slots (Z1, Z2) G bx 0 w0 i u) (fun i _ => R.slots.length - (intOf i).toNat)
   case atStart => exact show FzI _ _ _ _ _ _ _ _ _ _ from ⟨0, Q, _, Nat.zero_le _, rfl, HB3, HI3, HS, keep (by rw [List.drop_zero]; exact HYG.out), HK3, HX3⟩
   case round =>
    clear HB3 HI3 HS HYG HK3 HX3 HPo
    obtain ⟨j, Q, jv, hj, rfl, HB, HI, HS, HY, HK, HX⟩ := hrel
    obtain ⟨qa, qc, rfl⟩ := itemsS_form HI.out
    have HGw := keep (show Grow w_ wr from But.below HG0.out HK.out (Nat.le_refl _) HG0.out.size)
    by_cases hlt2 : j < R.slots.length
    ·obtain ⟨c, off, cap, e5, hcc⟩ := ints_at HRl.out hlt2
     simp only [Value.slice.injEq] at e5
     obtain ⟨rfl, -, rfl⟩ := e5
     have q0 := hcc wr HGw.out
     have hy := HY.out
     rw [List.drop_eq_getElem_cons hlt2] at hy
     unfold frzGo at hy
     generalize R.slots[j] = s at *
     have e1 : decide (j < R.slots.length) = true := decide_eq_true hlt2
     have HLt := keep hlt2
     have hB9 := HB.out
     unfold pgCells at hB9
     obtain ⟨p0, p1, p2, p3, p4, p5, _⟩ := pgres hB9
     have hca := turn_any Q (.slice qa Q.items.length qc) s 85 bx (chFrz true) wr (pgS_in HI.out.weak HS.out) HS.out.2.2.1 (fun u b => by rfl) (fun u b T hu hT => frz1_any true 0 rfl T b bx u hT (HX.out.fits hu))
     have hts := fun h => turn_S (i := s) (ch := chFrz true) HS.out h
     generalize turnD Q s (chFrz true) = X at *
     obtain ⟨R1, cd⟩ := X
     dsimp only at hy hca hts
     unfold CpgPost pgV at hca
     have HCa := keep hca
     have HTs := keep hts
     have HY2 := keep hy
     clear hcc hj hca hts hy HY hB9
     have hmf : ∀ (fn : Fn) (first cap : Array Value) (w : World), (Instr.makeFunc fn first cap).run Tryz.prog w = .ok (.func fn first cap) w := fun _ _ _ _ => rfl
     go_wp2_with fail
     refine HCa.out.mono ?_
     rintro y w4 ⟨iv4, rfl, hj4, hb4⟩
     obtain ⟨ra, rc, rfl⟩ := itemsS_form hj4
     clear p0 p1 p2 p3 p4 p5 q0 HCa
     go_upto_region 9 with fail
     obtain ⟨w5, hw5⟩ : ∃ w5, w5 = w4.alloc (.cells #[.int .i64 R1.lsn, .int .i64 R1.kind, .int .i64 R1.level, .int .i64 R1.right, .string (str R1.high), .slice ra R1.items.length rc] 24) := ⟨_, rfl⟩
     rw [← hw5]
     have hg5 : Grow w4 w5 := by subst hw5; exact (Grow.refl _).alloc _
     have hQ5 : Blk w5 w4.heap.size 24 (pgCells R1 (.slice ra R1.items.length rc)) := by subst hw5; exact Blk.new w4 _ [_, _, _, _, _, _]
     have HGf := keep (show Grow wr w5 from Grow.trans hb4 hg5)
     have HiQ := keep (RowS.fits hj4 hg5)
     have hbn : w_.heap.size + 2 < w4.heap.size := by have h1 := HK.out.size; have h2 := hlt; have h3 := hb4.size; omega
     have HQ := keep hQ5
     generalize w4.heap.size = b at *
     clear hw5 hg5 hQ5 hb4 hj4
     by_cases hcd : cd = 0
     ·subst hcd
      have hy := HY2.out
      rw [if_neg (by simp)] at hy
      have HY3 := keep hy
      have HS3 := keep (HTs.out rfl)
      have hQ3 := HQ.out
      unfold pgCells at hQ3
      obtain ⟨p0, p1, p2, p3, p4, p5, _⟩ := pgres hQ3
      have HPw := keep (HB.out.fits HGf.out)
      have HXw := keep (HX.out.fits HGf.out)
      clear hQ3 hy
      go_wp2_with ((refine wpList_store_box sizePage rfl _ _ rfl w_.heap.size (pgCells R1 (.slice ra R1.items.length rc)) rfl rfl HPw.out rfl rfl rfl ?_); intro wz hset hbz; have Hset := keep hset; have Hbut := keep hbz; clear hset hbz)
      have ew : wrap64 ((j : Int) + 1) = (j : Int) + 1 := by have h1 := HLt.out; have h2 := HSl.out; unfold wrap64; omega
      go_roundw
      case rel => exact show FzI _ _ _ _ _ _ _ _ _ _ from ⟨j + 1, R1, _, HLt.out, by rw [ew]; rfl, Hset, keep (HiQ.out.but Hbut.out (ne_blk HPw.out (by decide))), HS3, HY3, keep (But.trans HK.out (But.trans (but_grow HGf.out) Hbut.out)), keep (HXw.out.but Hbut.out (by omega))⟩
      case measure => have := HLt.out; rw [ew]; simp [intOf]; omega
     ·have e6 : (cd != 0) = true := by simpa using hcd
      have HRes := keep (show (Z1, Z2) = (zeroP, cd) by rw [← HY2.out, if_pos hcd, ← HG.out]; dsimp only; rw [if_pos hcd])
      clear hcd
      have HZy := keep ((HZ.out.but HK.out (by omega)).fits HGf.out)
      have HGz := keep (Grow.trans (But.below HG0.out HK.out (Nat.le_refl _) HG0.out.size) HGf.out)
      go_wp2_with ((refine wpList_store_box sizePage rfl _ _ rfl (w_.heap.size + 2) _ rfl rfl HZy.out rfl rfl rfl ?_); intro wz hset hbz; have Hset := keep hset; have Hbut := keep hbz; clear hset hbz)
      refine bodyPost_ret (v := .tuple #[pgV zeroP (.slice none 0 0), .int .i64 (cd)]) ?_ rfl (cpg_zero (HRes.out) (But.below HGz.out Hbut.out (by omega) HGz.out.size))
      exact deed_res Tryz.results53 _ _ _ _ zeroP _ rfl rfl Hset.out
    ·have e : j = R.slots.length := by omega
     have hy := HY.out
     rw [e, List.drop_length, ← HG.out] at hy
     have HY9 := keep (show frzRest R 1 Q = (Z1, Z2) by unfold frzGo at hy; dsimp only at hy; rw [if_neg (by simp)] at hy; exact hy)
     have e1 : decide (j < R.slots.length) = false := decide_eq_false (by omega)
     clear hy e hlt2 hj
     go_wp2_with fail
     go_roundw
     case rel => exact show FzO _ _ _ _ _ _ from ⟨1, Q, _, by decide, by go_num, HB, HI, HS, HY9, HK⟩
     case measure => simp [intOf]
  ·clear hn
   have hix : ∀ (a b : Value) (w : World), (Instr.index 144 (.agg #[a, b]) (.int .i64 1)).run Tryz.prog w = .ok b w := by
    intro a b w
    kernel_rfl
   go_upto_region 5 with fail
   obtain ⟨w3, hw3⟩ : ∃ w3, w3 = wr.alloc (.cells #[.int .i64 1] 3) := ⟨_, rfl⟩
   rw [← hw3]
   have hg3 : Grow wr w3 := by subst hw3; exact (Grow.refl _).alloc _
   have hX3 : Blk w3 wr.heap.size 3 [.int .i64 1] := by subst hw3; exact Blk.new wr _ [_]
   have HX3 := keep hX3
   have HB3 := keep (HB.out.fits hg3)
   have HI3 := keep (RowS.fits HI.out hg3)
   have HK3 := keep (But.trans HK.out (but_grow hg3))
   have HYG := keep (show (fun A : Pg × Int => if A.2 ≠ 0 then (zeroP, A.2) else frzRest R 2 A.1) (frzGo false Q R.more) = (Z1, Z2) from HY.out)
   have hbx : w_.heap.size + 2 < wr.heap.size := by have h1 := HK.out.size; have h2 := hlt; omega
   have HRl := HRa1
   have HSl := keep HRs.out.morel
   generalize wr.heap.size = bx at *
   clear hw3 hg3 hX3 HB HI HK HY
   obtain ⟨G, hG⟩ : ∃ G : Pg × Int → Pg × Int, (fun A : Pg × Int => if A.2 ≠ 0 then (zeroP, A.2) else frzRest R 2 A.1) = G := ⟨_, rfl⟩
   rw [hG] at HYG
   have HG := keep hG
   clear hG
   have HPo := keep (fun (m : Nat) (Q' : Pg) => (rfl : (fun A : Pg × Int => if A.2 ≠ 0 then (zeroP, A.2) else frzRest R 2 A.1) = (fun A : Pg × Int => if A.2 ≠ 0 then (zeroP, A.2) else frzRest R 2 A.1)))
   go_wp2_with fail
   go_loopw [29] (fun i u => FzI w_.heap.size false R.more (Z1, Z2) G bx 1 w0 i u) (fun i _ => R.more.length - (intOf i).toNat)
   case atStart => exact show FzI _ _ _ _ _ _ _ _ _ _ from ⟨0, Q, _, Nat.zero_le _, rfl, HB3, HI3, HS, keep (by rw [List.drop_zero]; exact HYG.out), HK3, HX3⟩
   case round =>
    clear HB3 HI3 HS HYG HK3 HX3 HPo
    obtain ⟨j, Q, jv, hj, rfl, HB, HI, HS, HY, HK, HX⟩ := hrel
    obtain ⟨qa, qc, rfl⟩ := itemsS_form HI.out
    have HGw := keep (show Grow w_ wr from But.below HG0.out HK.out (Nat.le_refl _) HG0.out.size)
    by_cases hlt2 : j < R.more.length
    ·obtain ⟨c, off, cap, e5, hcc⟩ := ints_at HRl.out hlt2
     simp only [Value.slice.injEq] at e5
     obtain ⟨rfl, -, rfl⟩ := e5
     have q0 := hcc wr HGw.out
     have hy := HY.out
     rw [List.drop_eq_getElem_cons hlt2] at hy
     unfold frzGo at hy
     generalize R.more[j] = s at *
     have e1 : decide (j < R.more.length) = true := decide_eq_true hlt2
     have HLt := keep hlt2
     have hB9 := HB.out
     unfold pgCells at hB9
     obtain ⟨p0, p1, p2, p3, p4, p5, _⟩ := pgres hB9
     have hca := turn_any Q (.slice qa Q.items.length qc) s 85 bx (chFrz false) wr (pgS_in HI.out.weak HS.out) HS.out.2.2.1 (fun u b => by rfl) (fun u b T hu hT => frz1_any false 1 rfl T b bx u hT (HX.out.fits hu))
     have hts := fun h => turn_S (i := s) (ch := chFrz false) HS.out h
     generalize turnD Q s (chFrz false) = X at *
     obtain ⟨R1, cd⟩ := X
     dsimp only at hy hca hts
     unfold CpgPost pgV at hca
     have HCa := keep hca
     have HTs := keep hts
     have HY2 := keep hy
     clear hcc hj hca hts hy HY hB9
     have hmf : ∀ (fn : Fn) (first cap : Array Value) (w : World), (Instr.makeFunc fn first cap).run Tryz.prog w = .ok (.func fn first cap) w := fun _ _ _ _ => rfl
     go_wp2_with fail
     refine HCa.out.mono ?_
     rintro y w4 ⟨iv4, rfl, hj4, hb4⟩
     obtain ⟨ra, rc, rfl⟩ := itemsS_form hj4
     clear p0 p1 p2 p3 p4 p5 q0 HCa
     go_upto_region 9 with fail
     obtain ⟨w5, hw5⟩ : ∃ w5, w5 = w4.alloc (.cells #[.int .i64 R1.lsn, .int .i64 R1.kind, .int .i64 R1.level, .int .i64 R1.right, .string (str R1.high), .slice ra R1.items.length rc] 24) := ⟨_, rfl⟩
     rw [← hw5]
     have hg5 : Grow w4 w5 := by subst hw5; exact (Grow.refl _).alloc _
     have hQ5 : Blk w5 w4.heap.size 24 (pgCells R1 (.slice ra R1.items.length rc)) := by subst hw5; exact Blk.new w4 _ [_, _, _, _, _, _]
     have HGf := keep (show Grow wr w5 from Grow.trans hb4 hg5)
     have HiQ := keep (RowS.fits hj4 hg5)
     have hbn : w_.heap.size + 2 < w4.heap.size := by have h1 := HK.out.size; have h2 := hlt; have h3 := hb4.size; omega
     have HQ := keep hQ5
     generalize w4.heap.size = b at *
     clear hw5 hg5 hQ5 hb4 hj4
     by_cases hcd : cd = 0
     ·subst hcd
      have hy := HY2.out
      rw [if_neg (by simp)] at hy
      have HY3 := keep hy
      have HS3 := keep (HTs.out rfl)
      have hQ3 := HQ.out
      unfold pgCells at hQ3
      obtain ⟨p0, p1, p2, p3, p4, p5, _⟩ := pgres hQ3
      have HPw := keep (HB.out.fits HGf.out)
      have HXw := keep (HX.out.fits HGf.out)
      clear hQ3 hy
      go_wp2_with ((refine wpList_store_box sizePage rfl _ _ rfl w_.heap.size (pgCells R1 (.slice ra R1.items.length rc)) rfl rfl HPw.out rfl rfl rfl ?_); intro wz hset hbz; have Hset := keep hset; have Hbut := keep hbz; clear hset hbz)
      have ew : wrap64 ((j : Int) + 1) = (j : Int) + 1 := by have h1 := HLt.out; have h2 := HSl.out; unfold wrap64; omega
      go_roundw
      case rel => exact show FzI _ _ _ _ _ _ _ _ _ _ from ⟨j + 1, R1, _, HLt.out, by rw [ew]; rfl, Hset, keep (HiQ.out.but Hbut.out (ne_blk HPw.out (by decide))), HS3, HY3, keep (But.trans HK.out (But.trans (but_grow HGf.out) Hbut.out)), keep (HXw.out.but Hbut.out (by omega))⟩
      case measure => have := HLt.out; rw [ew]; simp [intOf]; omega
     ·have e6 : (cd != 0) = true := by simpa using hcd
      have HRes := keep (show (Z1, Z2) = (zeroP, cd) by rw [← HY2.out, if_pos hcd, ← HG.out]; dsimp only; rw [if_pos hcd])
      clear hcd
      have HZy := keep ((HZ.out.but HK.out (by omega)).fits HGf.out)
      have HGz := keep (Grow.trans (But.below HG0.out HK.out (Nat.le_refl _) HG0.out.size) HGf.out)
      go_wp2_with ((refine wpList_store_box sizePage rfl _ _ rfl (w_.heap.size + 2) _ rfl rfl HZy.out rfl rfl rfl ?_); intro wz hset hbz; have Hset := keep hset; have Hbut := keep hbz; clear hset hbz)
      refine bodyPost_ret (v := .tuple #[pgV zeroP (.slice none 0 0), .int .i64 (cd)]) ?_ rfl (cpg_zero (HRes.out) (But.below HGz.out Hbut.out (by omega) HGz.out.size))
      exact deed_res Tryz.results53 _ _ _ _ zeroP _ rfl rfl Hset.out
    ·have e : j = R.more.length := by omega
     have hy := HY.out
     rw [e, List.drop_length, ← HG.out] at hy
     have HY9 := keep (show frzRest R 2 Q = (Z1, Z2) by unfold frzGo at hy; dsimp only at hy; rw [if_neg (by simp)] at hy; exact hy)
     have e1 : decide (j < R.more.length) = false := decide_eq_false (by omega)
     clear hy e hlt2 hj
     go_wp2_with fail
     go_roundw
     case rel => exact show FzO _ _ _ _ _ _ from ⟨2, Q, _, by decide, by go_num, HB, HI, HS, HY9, HK⟩
     case measure => simp [intOf]
  ·have HRs2 := keep (show (Q, 0) = (Z1, Z2) from HY.out)
   have HGw := keep (show Grow w_ wr from But.below HG0.out HK.out (Nat.le_refl _) HG0.out.size)
   have hB9 := HB.out
   unfold pgCells at hB9
   obtain ⟨p0, p1, p2, p3, p4, p5, _⟩ := pgres hB9
   have HZy := keep (HZ.out.but HK.out (by omega))
   clear hB9
   go_wp2_with ((refine wpList_store_box sizePage rfl _ _ rfl (w_.heap.size + 2) _ rfl rfl HZy.out rfl rfl rfl ?_); intro wz hset hbz; have Hset := keep hset; have Hbut := keep hbz; clear hset hbz)
   refine bodyPost_ret (v := .tuple #[pgV Q (.slice qa Q.items.length qc), .int .i64 0]) ?_ rfl ?_
   ·exact deed_res Tryz.results53 _ _ _ _ Q _ rfl rfl Hset.out
   ·have hy := HRs2.out
    simp only [Prod.mk.injEq] at hy
    rw [← hy.1, ← hy.2]
    exact ⟨_, rfl, HI.out.but Hbut.out (ne_blk HZy.out (by decide)), But.below HGw.out Hbut.out (by omega) HGw.out.size⟩
end Go.Proofs.YtmhepfehcakmjaaGreat
namespace Go.Proofs.YtmhepfehcakmjaaGreat
open Go.RowKit
attribute [local go_sem] givesV lookV knAt givesF_none givesF_some evalF_tmp evalF_const evalF_global evalF_func lookL isB_bool isB_undef givesUpon_value givesUpon_skip givesUpon_enter
theorem isKey_u8 (k : Int) : MapKept.IsKey (.int .u8) (.int .u8 k) := by simp [MapKept.IsKey]
def KMap (w : World) (r : Nat) (l : List (Int × Value)) : Prop := ∃ es clock, w.heap[r]? = some (.map es clock) ∧ es.toList.map (fun e => (e.key, e.val)) = l.map fun p => (Value.int .u8 p.1, p.2)
theorem KMap.fits {u v : World} {r : Nat} {l : List (Int × Value)} (h : KMap u r l) (g : Grow u v) : KMap v r l := by
 obtain ⟨es, c, h1, h2⟩ := h
 exact ⟨es, c, by rw [g.block r (Array.getElem?_eq_some_iff.1 h1).1]; exact h1, h2⟩
theorem kfind (k : Int) : ∀ (es : List MapEntry) (l : List (Int × Value)) (i : Nat), es.map (fun e => (e.key, e.val)) = l.map (fun p => (Value.int .u8 p.1, p.2)) → ∃ r, Instr.findNow (.int .u8) (.int .u8 k) es i = some r ∧ r.map (·.2) = (l.find? (fun p => p.1 == k)).map (·.2)
 | [], [], _, _ => ⟨none, rfl, rfl⟩
 | [], _ :: _, _, h => by simp at h
 | _ :: _, [], _, h => by simp at h
 | e :: es, p :: l, i, h => by
  simp only [List.map_cons, List.cons.injEq, Prod.mk.injEq] at h
  obtain ⟨⟨h1, h2⟩, h3⟩ := h
  by_cases hk : k = p.1
  ·refine ⟨some (i, e.val), ?_, ?_⟩
   ·simp [Instr.findNow, h1, Instr.sameNow, hk]
   ·simp [h2, hk]
  ·obtain ⟨r, hr1, hr2⟩ := kfind k es l (i + 1) h3
   refine ⟨r, ?_, ?_⟩
   ·have hkk : (k == p.1) = false := by simpa using hk
    simp [Instr.findNow, h1, Instr.sameNow, hkk, hr1]
   ·rw [hr2, List.find?_cons_of_neg (by simpa using fun h => hk h.symm)]
theorem run_look_k {w : World} {r : Nat} {l : List (Int × Value)} (h : KMap w r l) (k : Int) : (Instr.lookup 83 (.map (some r)) (.int .u8 k) false).run Tryz.prog w = .ok (((l.find? (fun p => p.1 == k)).map (·.2)).getD .nilFunc) w := by
 obtain ⟨es, c, h1, h2⟩ := h
 obtain ⟨a, h3, h4⟩ := kfind k es.toList l 0 h2
 have hz : (zeroValue 82).run Tryz.prog w = .ok .nilFunc w := Tryz.zeroValue82 w
 rw [← h4]
 cases a with
 | none => simp [Instr.lookup, run_underlying Tryz.underlying83, MapKept.run_getObj_map h1, MapKept.run_checkKey Tryz.underlying27 (isKey_u8 k), MapKept.run_findKey Tryz.underlying27 h3, hz, Result.andThen]
 | some x => simp [Instr.lookup, run_underlying Tryz.underlying83, MapKept.run_getObj_map h1, MapKept.run_checkKey Tryz.underlying27 (isKey_u8 k), MapKept.run_findKey Tryz.underlying27 h3, Result.andThen]
theorem run_ins_k {w : World} {r : Nat} {l : List (Int × Value)} (h : KMap w r l) (k : Int) (v : Value) (hno : (l.map (·.1)).all (· != k) = true) : ∃ w', (Instr.mapUpdate 83 (.map (some r)) (.int .u8 k) v).run Tryz.prog w = .ok () w' ∧ KMap w' r (l ++ [(k, v)]) ∧ But r w w' := by
 obtain ⟨es, c, h1, h2⟩ := h
 obtain ⟨a, h3, h4⟩ := kfind k es.toList l 0 h2
 have hf : l.find? (fun p => p.1 == k) = none := by
  rw [List.find?_eq_none]
  intro p hp
  have := List.all_eq_true.1 hno p.1 (List.mem_map_of_mem hp)
  simpa using this
 rw [hf] at h4
 have ha : a = none := by cases a with | none => rfl | some x => cases h4
 subst ha
 refine ⟨{ w with heap := w.heap.setIfInBounds r (.map (es.push { key := .int .u8 k, val := v, born := c }) (c + 1)) }, ?_, ⟨_, _, (MapKept.heap_set h1).1, ?_⟩, ⟨rfl, rfl, rfl, by simp, fun j _ hne => (MapKept.heap_set h1).2 j hne⟩⟩
 ·simp [Instr.mapUpdate, run_underlying Tryz.underlying83, MapKept.run_getObj_map h1, MapKept.run_checkKey Tryz.underlying27 (isKey_u8 k), MapKept.run_findKey Tryz.underlying27 h3, MapKept.run_setObj_map _ h1, Result.andThen]
 ·simp [h2]
theorem wpList_ins_k {ops : Array Oper} {rest : List Oper} {o : Oper} {a : Act} {Q : Exit → Act → World → Prop} {w : World} (hgd : o.guard = none) (m k x : Operand) (ho : o.op = .insert 83 m k x) (r : Nat) (kk : Int) (v : Value) (l : List (Int × Value))
  (hm : a.eval m = .map (some r)) (hk : a.eval k = .int .u8 kk) (hx : a.eval x = v) (hK : KMap w r l) (hno : (l.map (·.1)).all (· != kk) = true) (h : ∀ w', KMap w' r (l ++ [(kk, v)]) → But r w w' → wpList Tryz.prog ops Q rest (a.put o.dst undef) w') : wpList Tryz.prog ops Q (o :: rest) a w := by
 obtain ⟨w', h1, h2, h3⟩ := run_ins_k hK kk v hno
 refine wpList_plain hgd fun K hKK => ?_
 unfold Oper.wp execOp
 simp only [ho, hm, hk, hx, Sem.run_bind, Sem.run_pure, Result.andThen_ok, h1]
 exact hKK _ _ (h w' h2 h3)
def setV (cb : Nat) : Value := .func (.func 84) #[] #[.pointer (some ⟨cb, 0, none⟩)]
def fnV (k : Nat) : Value := .func (.func k) #[] #[]
theorem settle_any (s : Int) (w_ : World) : Calls Tryz.prog 51 #[.int .u8 s] w_ fun e w' => ∃ cb, e = .returned (setV cb) ∧ Blk w' cb 96 [.int .u8 s] ∧ w_.heap.size ≤ cb ∧ Below w_.heap.size w_ w' := by
 have hmf : ∀ (fn : Fn) (first cap : Array Value) (w : World), (Instr.makeFunc fn first cap).run Tryz.prog w = .ok (.func fn first cap) w := fun _ _ _ _ => rfl
 obtain ⟨w0, hw0⟩ : ∃ w0, w0 = w_.alloc (.cells #[.int .u8 s] 96) := ⟨_, rfl⟩
 have hg0 : Grow w_ w0 := by subst hw0; exact (Grow.refl _).alloc _
 have hB : Blk w0 w_.heap.size 96 [.int .u8 s] := by subst hw0; exact Blk.new w_ _ [_]
 have HG := keep hg0
 have HB := keep hB
 clear hg0 hB
 go_enter Tryz.func51, Tryz.ntmps51
 go_upto_region 1 with fail
 rw [← hw0]
 clear hw0
 go_wp2_with fail
 go_ret
 exact ⟨_, rfl, HB.out, Nat.le_refl _, HG.out⟩
def deedL (c2 c3 : Nat) : List (Int × Value) := [(1, fnV 46), (2, fnV 47), (6, fnV 48), (3, fnV 49), (4, fnV 50), (7, setV c2), (8, setV c3), (9, fnV 52), (10, fnV 53), (11, fnV 54)]
def DeedsPost (w : World) (e : Ending) (w' : World) : Prop := ∃ r c2 c3, e = .returned (.map (some r)) ∧ KMap w' r (deedL c2 c3) ∧ Blk w' c2 96 [.int .u8 2] ∧ Blk w' c3 96 [.int .u8 3] ∧ Below w.heap.size w w'
set_option maxRecDepth 100000 in
set_option maxHeartbeats 4000000 in
theorem deeds_any (w_ : World) : Calls Tryz.prog 27 #[] w_ (DeedsPost w_) := by
 have hmm := @run_makeMap Tryz.prog
 have hk0 : KMap (w_.alloc (.map #[] 0)) w_.heap.size [] := ⟨#[], 0, (MapKept.heap_alloc w_ _).1, rfl⟩
 have hg0 : Below w_.heap.size w_ (w_.alloc (.map #[] 0)) := (Below.refl _ _).alloc (Nat.le_refl _) _
 have hs0 : w_.heap.size < (w_.alloc (.map #[] 0)).heap.size := by simp
 have HKm := keep hk0
 have HGm := keep hg0
 have HSm := keep hs0
 clear hk0 hg0 hs0
 go_enter Tryz.func27, Tryz.ntmps27
 go_wp2_with (refine wpList_ins_k rfl _ _ _ rfl w_.heap.size _ _ _ rfl rfl rfl HKm.out rfl ?_; intro wz hkz hbz; have hgz := But.below HGm.out hbz (Nat.le_refl _) (Below.size HGm.out); have hsz := Nat.lt_of_lt_of_le HSm.out hbz.size; clear HKm HGm HSm; have HKm := keep hkz; have HGm := keep hgz; have HSm := keep hsz; clear hkz hbz hgz hsz)
 refine (settle_any 2 _).mono ?_
 rintro x w2 ⟨c2, rfl, hc2, hz2, hb2⟩
 have hgz := Below.trans HGm.out (hb2.mono (Below.size HGm.out))
 have hkz := HKm.out.fits hb2
 have hn2 : w_.heap.size < c2 := Nat.lt_of_lt_of_le HSm.out hz2
 have hs2 := Nat.lt_of_lt_of_le HSm.out hb2.size
 have HC2 := keep hc2
 clear HKm HGm HSm
 have HKm := keep hkz
 have HGm := keep hgz
 have HSm := keep hs2
 clear hkz hgz hb2 hc2 hz2 hs2
 unfold setV
 go_wp2_with (refine wpList_ins_k rfl _ _ _ rfl w_.heap.size _ _ _ rfl rfl rfl HKm.out rfl ?_; intro wz hkz hbz; have hgz := But.below HGm.out hbz (Nat.le_refl _) (Below.size HGm.out); have hsz := Nat.lt_of_lt_of_le HSm.out hbz.size; have hcz := HC2.out.but hbz (by omega); clear HC2; have HC2 := keep hcz; clear hcz; clear HKm HGm HSm; have HKm := keep hkz; have HGm := keep hgz; have HSm := keep hsz; clear hkz hbz hgz hsz)
 refine (settle_any 3 _).mono ?_
 rintro x w3 ⟨c3, rfl, hc3, hz3, hb3⟩
 have hgz := Below.trans HGm.out (hb3.mono (Below.size HGm.out))
 have hkz := HKm.out.fits hb3
 have hn3 : w_.heap.size < c3 := Nat.lt_of_lt_of_le HSm.out hz3
 have hs3 := Nat.lt_of_lt_of_le HSm.out hb3.size
 have hcz := HC2.out.fits hb3
 have HC3 := keep hc3
 clear HKm HGm HSm HC2
 have HKm := keep hkz
 have HGm := keep hgz
 have HSm := keep hs3
 have HC2 := keep hcz
 clear hkz hgz hb3 hc3 hz3 hs3 hcz
 unfold setV
 go_wp2_with (refine wpList_ins_k rfl _ _ _ rfl w_.heap.size _ _ _ rfl rfl rfl HKm.out rfl ?_; intro wz hkz hbz; have hgz := But.below HGm.out hbz (Nat.le_refl _) (Below.size HGm.out); have hsz := Nat.lt_of_lt_of_le HSm.out hbz.size; have hcz := HC2.out.but hbz (by omega); clear HC2; have HC2 := keep hcz; clear hcz; have hcz := HC3.out.but hbz (by omega); clear HC3; have HC3 := keep hcz; clear hcz; clear HKm HGm HSm; have HKm := keep hkz; have HGm := keep hgz; have HSm := keep hsz; clear hkz hbz hgz hsz)
 go_ret
 exact ⟨_, _, _, rfl, HKm.out, HC2.out, HC3.out, HGm.out⟩
end Go.Proofs.YtmhepfehcakmjaaGreat
