import Derived.Test.YtcdapdcablnhpaaGreatKFq1
import Derived.Test.YtcdapdcablnhpaaGreatKBe9
import Derived.Deep.CutRange
import Derived.Test.YtcdapdcablnhpaaGreatKLexn
namespace Go.Proofs.YtcdapdcablnhpaaGreat
open Go.RowKit
attribute [local go_sem] hgs
def aboveI (k : Int) (L : List (Int × Pg)) : En × Int × Bool := match L with
 | [a, b] => if k = 5 then (if (decN a.2.high).2 ≠ 0 then (leastE, 0, false) else ((decN a.2.high).1, b.1, true)) else (leastE, 0, false)
 | _ => (leastE, 0, false)
end Go.Proofs.YtcdapdcablnhpaaGreat
namespace Go.Proofs.YtcdapdcablnhpaaGreat
open Go.RowKit
def IvOk (L : List (Int × Pg)) (w : World) (iv : Value) : Prop := ∃ T : List Im, T.map dropV = L /\ ImgsC w iv T /\ (T = [] -> iv = .slice none 0 0)
theorem imgsC_move {w w' : World} {v : Value} {T : List Im} (h : ImgsC w v T) (hk : ∀ (c : Nat) (blk : Array Value) (t : Nat) (f : Nat × Nat), (t = 132 \/ t = 9) -> w.heap[c]? = some (.cells blk t f) -> w'.heap[c]? = some (.cells blk t f)) : ImgsC w' v T :=
 ⟨RowS.move h.1 (fun c blk f e => hk c blk _ f (.inl rfl) e), fun x hx => ⟨⟨RowS.move (h.2 x hx).1.1 (fun c blk f e => hk c blk _ f (.inr rfl) e), (h.2 x hx).1.2⟩, (h.2 x hx).2⟩⟩
theorem IvOk.move {L : List (Int × Pg)} {w w' : World} {iv : Value} (h : IvOk L w iv) (hk : ∀ (c : Nat) (blk : Array Value) (t : Nat) (f : Nat × Nat), (t = 132 \/ t = 9) -> w.heap[c]? = some (.cells blk t f) -> w'.heap[c]? = some (.cells blk t f)) : IvOk L w' iv :=
 h.elim fun T h => ⟨T, h.1, imgsC_move h.2.1 hk, h.2.2⟩
theorem IvOk.fits {L : List (Int × Pg)} {w w' : World} {iv : Value} (h : IvOk L w iv) (g : Grow w w') : IvOk L w' iv := h.elim fun T h => ⟨T, h.1, h.2.1.fits g, h.2.2⟩
theorem IvOk.sel {bs pb : Nat} {L : List (Int × Pg)} {w w' : World} {iv : Value} (h : IvOk L w iv) (g : Sel bs pb w w') : IvOk L w' iv :=
 h.move fun c blk t f ht hb => g.typ c blk t f hb (by rcases ht with rfl | rfl <;> decide) (by rcases ht with rfl | rfl <;> decide)
theorem IvOk.but {b : Nat} {L : List (Int × Pg)} {w w' : World} {iv : Value} {cs : List Value} (h : IvOk L w iv) (k : But b w w') (hb : Blk w b 71 cs) : IvOk L w' iv :=
 h.elim fun T h => ⟨T, h.1, imgsC_but h.2.1 k hb (by decide) (by decide), h.2.2⟩
theorem IvOk.form {L : List (Int × Pg)} {w : World} {iv : Value} (h : IvOk L w iv) : ∃ a n c, iv = .slice a n c := by
 obtain ⟨T, _, h2, _⟩ := h;obtain ⟨a, c, e⟩ := imgs_form h2.weak;exact ⟨a, _, c, e⟩
def Pl.entered (S : Pl) (R : Rcd) (b : Bool) : Pl × Rcd × Bool :=
 if (aboveI R.kind R.imgs).2.2 = false then (S.fin 0 S.hit [] [], R, b)
 else ({ S with level := S.level + 1, ent := (aboveI R.kind R.imgs).1, item := (sepN (aboveI R.kind R.imgs).1 (aboveI R.kind R.imgs).2.1).1 }.down 6, R, true)
def Pl.enters (S : Pl) (R : Rc) : Pl × Rcd × Bool :=
 if R.2 = 0 then S.entered (rdOf R.1 S.own) true
 else if R.2 = 150 then (S.fin 0 S.hit [] [], noRd, false)
 else if R.2 = 1 then (S.fin 224 false [] [], noRd, false)
 else (S.odd, noRd, false)
def Pl.enter (S : Pl) (P : Pg) (fr : List Int) : Pl × Rcd × Bool :=
 if (S.way P S.level S.ent).2 = false then ((S.way P S.level S.ent).1, noRd, false)
 else (S.way P S.level S.ent).1.enters (enterN P (S.way P S.level S.ent).1.wpg (S.way P S.level S.ent).1.item fr)
attribute [local go_sem] givesV lookV knAt hgs
theorem PlR.other {bs b t : Nat} {w w' : World} {S : Pl} {rv ov lv : Value} {cs : List Value} (h : PlR bs w S rv ov lv) (k : But b w w') (hb : Blk w b t cs) (h2 : t ≠ 46) (h3 : t ≠ 103) : PlR bs w' S rv ov lv :=
 ⟨rowS_typ h.rr k hb h2, owns_but h.rows k (own_ne_typ h.rows hb h2), ⟨rowS_typ h.left.1 k hb h3, h.left.2⟩, h.none⟩
theorem st_img {bs pb b : Nat} {S : Pl} {R : Rcd} {g : Bool} {iv : Value} {w w3 w4 : World} {cs : List Value} (hT : PlT bs pb w3 S) (hS : Sel bs pb w w3) (k : But b w3 w4) (hb : w.heap.size <= b) (hB : Blk w3 b 71 cs) (hl : bs <= w.heap.size) (hi : IvOk R.imgs w3 iv) :
  StPost bs pb S R g w (.returned (.tuple #[rdV R iv, .bool g])) w4 := by
 obtain ⟨T, h1, h2, h3⟩ := hi.but k hB;exact ⟨iv, T, rfl, h1, h2, h3, hT.other k hB (by decide) (by decide) (by decide), hS.other k hb hl⟩
end Go.Proofs.YtcdapdcablnhpaaGreat
namespace Go.Proofs.YtcdapdcablnhpaaGreat
open Go.RowKit
set_option maxRecDepth 100000 in
theorem isKey_any (k : List UInt8) (w : World) : Calls Tryz.prog 90 #[.string (str k)] w fun x w' => x = .returned (.bool (isKeyB k)) /\ Below w.heap.size w w' := by
 obtain ⟨R, hR⟩ : ∃ R, isKeyB k = R := ⟨_, rfl⟩;have hr : R = (decide (0 < k.length) && decide (k.length <= 24)) := by rw [<- hR]; rfl
 rw [hR];have HR := keep hr;clear hR hr;go_enter Tryz.func90, Tryz.ntmps90;cases h1 : decide (0 < k.length) with
 | false =>
  go_wp2_with fail;go_ret;exact ⟨by rw [HR.out, h1]; rfl, Below.refl _ _⟩
 | true =>
  have ih2 : decide ((k.length : Int) <= 24) = decide (k.length <= 24) := decide_eq_decide.2 (by omega);cases h2 : decide (k.length <= 24) with
  | false =>
   rw [h2] at ih2;go_wp2_with fail;go_ret;exact ⟨by rw [HR.out, h1, h2]; rfl, Below.refl _ _⟩
  | true =>
   rw [h2] at ih2;go_wp2_with fail;go_ret;exact ⟨by rw [HR.out, h1, h2]; rfl, Below.refl _ _⟩
def askV (call : Int) (key upk val : List UInt8) (n : Int) : Value := .agg #[.int .u8 call, .string (str key), .string (str upk), .string (str val), .int .i64 n]
def askC (call : Int) (key upk val : List UInt8) (n : Int) : List Value := [.int .u8 call, .string (str key), .string (str upk), .string (str val), .int .i64 n]
set_option maxRecDepth 100000 in
set_option maxHeartbeats 2000000 in
theorem right_any (call : Int) (key upk val : List UInt8) (n own : Int) (w_ : World) :
  Calls Tryz.prog 45 #[askV call key upk val n, .int .i64 own] w_ fun x w' => x = .returned (.bool (rightB call key upk val n own)) /\ Below w_.heap.size w_ w' := by
 obtain ⟨w0, hw0⟩ : ∃ w0, w0 = w_.alloc (.cells (askC call key upk val n).toArray 52) := ⟨_, rfl⟩;have hg0 : Grow w_ w0 := by subst hw0; exact (Grow.refl w_).alloc _
 have hB0 : Blk w0 w_.heap.size 52 (askC call key upk val n) := by subst hw0; exact Blk.new w_ _ _
 have hk := fun u => isKey_any key u
 obtain ⟨R, hR⟩ : ∃ R, rightB call key upk val n own = R := ⟨_, rfl⟩;have hr : R = if call = 2 then isKeyB key else if call = 3 then (isKeyB key && decide (val.length <= 64)) && decide (0 < own) else if call = 4 then isKeyB key && decide (0 < own)
  else if call = 5 then ((decide (key.length <= 24) && decide (upk.length <= 24)) && decide (0 < n)) && decide (n <= 16) else false := by rw [<- hR]; rfl
 rw [hR];generalize isKeyB key = K at *;have HK := keep hk;have HR := keep hr;have HG0 := keep hg0
 have HB0 := keep (fun (u : World) (hu : Grow w0 u) => (show u.cell? ⟨w_.heap.size, 0, none⟩ = some (.int .u8 call) /\ u.cell? ⟨w_.heap.size, 1, none⟩ = some (.string (str key)) /\ u.cell? ⟨w_.heap.size, 2, none⟩ = some (.string (str upk)) /\ u.cell? ⟨w_.heap.size, 3, none⟩ = some (.string (str val)) /\ u.cell? ⟨w_.heap.size, 4, none⟩ = some (.int .i64 n) from
  ⟨(hB0.fits hu).cell 0 (by simp [askC]), (hB0.fits hu).cell 1 (by simp [askC]), (hB0.fits hu).cell 2 (by simp [askC]), (hB0.fits hu).cell 3 (by simp [askC]), (hB0.fits hu).cell 4 (by simp [askC])⟩))
 clear hR hr hk hg0 hB0;obtain ⟨c0, c1, c2, c3, c4⟩ := HB0.out w0 (Grow.refl _);unfold askC at hw0;unfold askV;go_enter Tryz.func45, Tryz.ntmps45;go_upto_region 1 with fail;rw [<- hw0];clear hw0
 by_cases h2 : call = 2
 ·have HRR := keep (show R = K by rw [HR.out, if_pos h2]);have e2 : (call == 2) = true := by simp [h2]
  clear h2;go_wp2_with fail;refine (HK.out w0).mono ?_;rintro x w1 ⟨rfl, hb⟩;have HG := keep (Grow.trans HG0.out hb);clear c0 c1 c2 c3 c4 hb HK;go_wp2_with fail;go_ret;exact ⟨by rw [HRR.out]; rfl, HG.out⟩
 ·have e2 : (call == 2) = false := by simpa using h2
  by_cases h3 : call = 3
  ·have HRR := keep (show R = ((K && decide (val.length <= 64)) && decide (0 < own)) by rw [HR.out, if_neg h2, if_pos h3]);have e3 : (call == 3) = true := by simp [h3]
   clear h2 h3;go_wp2_with fail;refine (HK.out w0).mono ?_;rintro x w1 ⟨rfl, hb⟩;obtain ⟨c0', c1', c2', c3', c4'⟩ := HB0.out w1 hb;have HG := keep (Grow.trans HG0.out hb);clear c0 c1 c2 c3 c4 hb HK c0' c1' c2' c4';cases K with
   | false =>
    clear c3';go_wp2_with fail;go_ret;exact ⟨by rw [HRR.out]; rfl, HG.out⟩
   | true =>
    have ihv : decide ((val.length : Int) <= 64) = decide (val.length <= 64) := decide_eq_decide.2 (by omega);cases hv : decide (val.length <= 64) with
    | false =>
     rw [hv] at ihv;go_wp2_with fail;go_ret;exact ⟨by rw [HRR.out, hv]; rfl, HG.out⟩
    | true =>
     rw [hv] at ihv;cases ho : decide (0 < own) with
     | false =>
      go_wp2_with fail;go_ret;exact ⟨by rw [HRR.out, hv, ho]; rfl, HG.out⟩
     | true =>
      go_wp2_with fail;go_ret;exact ⟨by rw [HRR.out, hv, ho]; rfl, HG.out⟩
  ·have e3 : (call == 3) = false := by simpa using h3
   by_cases h4 : call = 4
   ·have HRR := keep (show R = (K && decide (0 < own)) by rw [HR.out, if_neg h2, if_neg h3, if_pos h4]);have e4 : (call == 4) = true := by simp [h4]
    clear h2 h3 h4;go_wp2_with fail;refine (HK.out w0).mono ?_;rintro x w1 ⟨rfl, hb⟩;have HG := keep (Grow.trans HG0.out hb);clear c0 c1 c2 c3 c4 hb HK;cases K with
    | false =>
     go_wp2_with fail;go_ret;exact ⟨by rw [HRR.out]; rfl, HG.out⟩
    | true =>
     cases ho : decide (0 < own) with
     | false =>
      go_wp2_with fail;go_ret;exact ⟨by rw [HRR.out, ho]; rfl, HG.out⟩
     | true =>
      go_wp2_with fail;go_ret;exact ⟨by rw [HRR.out, ho]; rfl, HG.out⟩
   ·have e4 : (call == 4) = false := by simpa using h4
    by_cases h5 : call = 5
    ·have HRR := keep (show R = (((decide (key.length <= 24) && decide (upk.length <= 24)) && decide (0 < n)) && decide (n <= 16)) by rw [HR.out, if_neg h2, if_neg h3, if_neg h4, if_pos h5]);have e5 : (call == 5) = true := by simp [h5]
     clear h2 h3 h4 h5;have ihv1 : decide ((key.length : Int) <= 24) = decide (key.length <= 24) := decide_eq_decide.2 (by omega);cases hv1 : decide (key.length <= 24) with
     | false =>
      rw [hv1] at ihv1;go_wp2_with fail;go_ret;exact ⟨by rw [HRR.out, hv1]; rfl, HG0.out⟩
     | true =>
      rw [hv1] at ihv1;have ihv2 : decide ((upk.length : Int) <= 24) = decide (upk.length <= 24) := decide_eq_decide.2 (by omega);cases hv2 : decide (upk.length <= 24) with
      | false =>
       rw [hv2] at ihv2;go_wp2_with fail;go_ret;exact ⟨by rw [HRR.out, hv1, hv2]; rfl, HG0.out⟩
      | true =>
       rw [hv2] at ihv2;cases hv3 : decide (0 < n) with
       | false =>
        go_wp2_with fail;go_ret;exact ⟨by rw [HRR.out, hv1, hv2, hv3]; rfl, HG0.out⟩
       | true =>
        cases hv4 : decide (n <= 16) with
        | false =>
         go_wp2_with fail;go_ret;exact ⟨by rw [HRR.out, hv1, hv2, hv3, hv4]; rfl, HG0.out⟩
        | true =>
         go_wp2_with fail;go_ret;exact ⟨by rw [HRR.out, hv1, hv2, hv3, hv4]; rfl, HG0.out⟩
    ·have e5 : (call == 5) = false := by simpa using h5
     have HRR := keep (show R = false by rw [HR.out, if_neg h2, if_neg h3, if_neg h4, if_neg h5]);clear h2 h3 h4 h5;go_wp2_with fail;go_ret;exact ⟨by rw [HRR.out]; rfl, HG0.out⟩
def NewPost (call : Int) (key upk val : List UInt8) (n own : Int) (w : World) (x : Ending) (w' : World) : Prop :=
 (rightB call key upk val n own = false /\ x = .returned (.tuple #[.pointer none, .int .i64 1]) /\ Below w.heap.size w w') \/
 (rightB call key upk val n own = true /\ ∃ pb, x = .returned (.tuple #[.pointer (some ⟨pb, 0, none⟩), .int .i64 0]) /\ w.heap.size <= pb /\ PlT w.heap.size pb w' (startS call key upk val n own) /\ Below w.heap.size w w')
theorem Sel.below {bs pb : Nat} {w w' : World} (h : Sel bs pb w w') (hp : bs <= pb) : Below bs w w' := ⟨h.os, h.tape, h.output, h.size, fun k hk => h.low k hk (by omega)⟩
theorem ensS_nil (w : World) : EnsS w (.slice none 0 0) [] := RowS.nil _ _ _ _
set_option maxRecDepth 100000 in
set_option maxHeartbeats 4000000 in
theorem plnew_any (call : Int) (key upk val : List UInt8) (n own : Int) (w_ : World) :
  Calls Tryz.prog 14 #[askV call key upk val n, .int .i64 own] w_ (NewPost call key upk val n own w_) := by
 obtain ⟨w0, hw0⟩ : ∃ w0, w0 = w_.alloc (.cells (askC call key upk val n).toArray 52) := ⟨_, rfl⟩;have hg0 : Grow w_ w0 := by subst hw0; exact (Grow.refl w_).alloc _
 have hB0 : Blk w0 w_.heap.size 52 (askC call key upk val n) := by subst hw0; exact Blk.new w_ _ _
 have hri := fun u => right_any call key upk val n own u
 have hst : startS call key upk val n own = if (Pl.new call key upk val n own).writes then { Pl.new call key upk val n own with wk := 1, wkey := key, wsz := 0, wpg := 0 } else (Pl.new call key upk val n own).look := rfl
 obtain ⟨R, hR⟩ : ∃ R, rightB call key upk val n own = R := ⟨_, rfl⟩;rw [hR] at hri;have HRb := keep hR;unfold askV at hri;have HRi := keep hri;have HSt := keep hst;have HG0 := keep hg0
 have HB0 := keep (fun (u : World) (hu : Grow w0 u) => (show u.cell? ⟨w_.heap.size, 0, none⟩ = some (.int .u8 call) /\ u.cell? ⟨w_.heap.size, 1, none⟩ = some (.string (str key)) /\ u.cell? ⟨w_.heap.size, 2, none⟩ = some (.string (str upk)) /\ u.cell? ⟨w_.heap.size, 3, none⟩ = some (.string (str val)) /\ u.cell? ⟨w_.heap.size, 4, none⟩ = some (.int .i64 n) from
  ⟨(hB0.fits hu).cell 0 (by simp [askC]), (hB0.fits hu).cell 1 (by simp [askC]), (hB0.fits hu).cell 2 (by simp [askC]), (hB0.fits hu).cell 3 (by simp [askC]), (hB0.fits hu).cell 4 (by simp [askC])⟩))
 clear hst hri hR hg0 hB0;obtain ⟨c0, c1, c2, c3, c4⟩ := HB0.out w0 (Grow.refl _);unfold askC at hw0;unfold askV;go_enter Tryz.func14, Tryz.ntmps14;go_upto_region 1 with fail;rw [<- hw0];clear hw0;go_wp2_with fail;refine (HRi.out w0).mono ?_;rintro x w1 ⟨rfl, hb1⟩;have HG1 := keep hb1;clear c0 c1 c2 c3 c4 hb1 HRi;cases R with
 | false =>
  go_wp2_with fail;go_ret2;exact (show NewPost _ _ _ _ _ _ _ _ _ from .inl ⟨HRb.out, rfl, Grow.trans HG0.out HG1.out⟩)
 | true =>
  obtain ⟨c0, c1, c2, c3, c4⟩ := HB0.out w1 HG1.out;go_upto_region 4 with fail;obtain ⟨w2, hw2⟩ : ∃ w2, w2 = w1.alloc (.cells (plCells (Pl.new call key upk val n own) .nilFunc (.slice none 0 0) (.slice none 0 0) (.slice none 0 0)).toArray 111) := ⟨_, rfl⟩;have hg2 : Grow w1 w2 := by subst hw2; exact (Grow.refl _).alloc _
  have hB2 : Blk w2 w1.heap.size 111 (plCells (Pl.new call key upk val n own) .nilFunc (.slice none 0 0) (.slice none 0 0) (.slice none 0 0)) := by subst hw2; exact Blk.new w1 _ _
  simp only [plCells, Pl.new, leastE, str_nilS] at hw2;rw [<- hw2];have HG2 := keep (Grow.trans HG1.out hg2);have hpb : w_.heap.size <= w1.heap.size := (Grow.trans HG0.out HG1.out).size;have HPb := keep hpb;have hT2 : PlT w_.heap.size w1.heap.size w2 (Pl.new call key upk val n own) := ⟨(Grow.trans HG0.out HG2.out).size, _, _, _, hB2, ⟨rows_nilS _, World.ownsRow_nil _ _ _ _, ⟨ensS_nil _, Nat.le_refl _⟩, fun _ => rfl⟩⟩;have HB2 := keep hB2;have HT2 := keep hT2;have hwr := writes_any w_.heap.size w1.heap.size (Pl.new call key upk val n own) w2 hT2;have hlo := fun (u : World) (hu : Grow w2 u) => pllook_any w_.heap.size w1.heap.size (Pl.new call key upk val n own) u (hT2.fits hu)
  have hst := HSt.out;generalize w1.heap.size = pb at *;generalize hS0 : Pl.new call key upk val n own = S0 at *;generalize hW : S0.writes = W at *;unfold PlPost at hlo;have HWr := keep hwr;have HLo := keep hlo;have HSt2 := keep hst;have HS0 := keep hS0;clear c0 c1 c2 c3 c4 hw2 hg2 hB2 hT2 hpb hwr hlo hst hS0 HSt hW;go_wp2_with fail;refine HWr.out.mono ?_;rintro x w3 ⟨rfl, hb3⟩;have HG3 := keep hb3;clear hb3 HWr;cases W with
  | true =>
   obtain ⟨c0, c1, c2, c3, c4⟩ := HB0.out w3 (Grow.trans HG2.out HG3.out);have hB3 := HB2.out.fits HG3.out;have c6 := hB3.cell 6 (by simp [plCells]);have c7 := hB3.cell 7 (by simp [plCells]);have c8 := hB3.cell 8 (by simp [plCells]);have c9 := hB3.cell 9 (by simp [plCells]);simp only [plCells, List.getElem_cons_zero, List.getElem_cons_succ] at c6 c7 c8 c9;have z6 := hB3.free 6;have z7 := hB3.free 7;have z8 := hB3.free 8;have z9 := hB3.free 9;have hfin : ∀ w', w' = (((w3.setCell ⟨pb, 6, none⟩ (.int .i64 1)).setCell ⟨pb, 7, none⟩ (.string (str key))).setCell ⟨pb, 8, none⟩ (.int .i64 0)).setCell ⟨pb, 9, none⟩ (.int .i64 0) -> NewPost call key upk val n own w_ (.returned (.tuple #[.pointer (some ⟨pb, 0, none⟩), .int .i64 0])) w' := by
    rintro w' rfl;have k := ((((But.refl pb w3).setCell 6 (.int .i64 1)).setCell 7 (.string (str key))).setCell 8 (.int .i64 0)).setCell 9 (.int .i64 0);have hB' := (((hB3.set 6 (.int .i64 1)).set 7 (.string (str key))).set 8 (.int .i64 0)).set 9 (.int .i64 0);refine .inr ⟨HRb.out, pb, rfl, HPb.out, ?_, But.below (Grow.trans HG0.out (Grow.trans HG2.out HG3.out)) k HPb.out (Grow.trans HG0.out (Grow.trans HG2.out HG3.out)).size⟩;rw [HSt2.out, if_pos rfl, <- HS0.out];rw [<- HS0.out] at hB';exact ⟨Nat.le_trans (Grow.trans HG0.out (Grow.trans HG2.out HG3.out)).size k.size, _, _, _, hB', ⟨rows_nilS _, World.ownsRow_nil _ _ _ _, ⟨ensS_nil _, Nat.le_refl _⟩, fun _ => rfl⟩⟩
   have HFin := keep hfin;clear hB3 hfin c0 c2 c3 c4;go_wp2_with fail;go_ret2;exact HFin.out _ rfl
  | false =>
   go_wp2_with fail;refine (HLo.out w3 HG3.out).mono ?_;rintro x w4 ⟨rfl, h1, h2⟩;have HT4 := keep h1;have HS4 := keep h2;clear h1 h2 HLo;go_wp2_with fail;go_ret2;exact (show NewPost _ _ _ _ _ _ _ _ _ from .inr ⟨HRb.out, pb, rfl, HPb.out, by rw [HSt2.out, if_neg (by simp)]; exact HT4.out, Below.trans (Grow.trans HG0.out (Grow.trans HG2.out HG3.out)) (HS4.out.below HPb.out)⟩)
attribute [local go_sem] hgs
theorem rw_one {u : Value} {l : List Rw} (h : u ∈ rwCells l) : u.oneCell' = true := by
 unfold rwCells at h;obtain ⟨e, _, he⟩ := List.mem_flatMap.1 h;unfold rwC at he;simp at he;rcases he with rfl | rfl <;> rfl
set_option maxRecDepth 100000 in
set_option maxHeartbeats 2000000 in
theorem rclone_any (v : Value) (l : List Rw) (w_ : World) (h : RowS w_ 46 v l.length (rwCells l)) (hl : l.length <= 1000) :
  Calls Tryz.prog 49 #[v] w_ fun x w' => ∃ a c, x = .returned (.slice a l.length c) /\ RowS w' 46 (.slice a l.length c) l.length (rwCells l) /\ Below w_.heap.size w_ w' := by
 obtain ⟨iR, hiR, hzR0, hzR1, hzR2⟩ := info_parts infoRowR;have hv : (l = [] /\ ∃ c, v = .slice none 0 c) \/ ∃ ad c, v = .slice (some ad) l.length c /\ ∀ j u, (rwCells l)[j]? = some u -> w_.cell? (ad.add j) = some u := by
  rcases h with ⟨h1, _, a, c, rfl⟩ | ⟨c, off, cap, blk, f, rfl, h2, h3⟩
  ·have e : l = [] := List.eq_nil_of_length_eq_zero h1;subst e;cases a with
   | none => exact .inl ⟨rfl, c, rfl⟩
   | some ad => exact .inr ⟨ad, c, rfl, by intro j u hj; cases hj⟩
  ·refine .inr ⟨_, _, rfl, fun j u hj => ?_⟩;obtain ⟨hj2, rfl⟩ := List.getElem?_eq_some_iff.1 hj;have h4 := h3 j hj2;rw [List.getElem?_eq_getElem hj2] at h4;have h5 : w_.cell? ⟨c, off + j, none⟩ = some (rwCells l)[j] := by
    unfold World.cell?;simp only [h2];exact h4
   unfold Addr.add
   split
   ·rename_i h0
    have h9 : j = 0 := by simpa using h0
    subst h9;exact h5
   ·exact h5
 rcases hv with ⟨rfl, c, rfl⟩ | ⟨ad, c, rfl, hc⟩
 ·have hne : ∀ w : World, (binOp .eql 41 (.slice none 0 c) (.slice none 0 0)).run Tryz.prog w = .ok (.bool true) w := fun _ => rfl
  clear h;go_enter Tryz.func49, Tryz.ntmps49;go_wp2_with fail;go_ret;exact ⟨none, 0, rfl, rows_nilS _, Below.refl _ _⟩
 ·have HC := keep hc;have hne : ∀ w : World, (binOp .eql 41 (.slice (some ad) l.length c) (.slice none 0 0)).run Tryz.prog w = .ok (.bool false) w := fun _ => rfl
  clear h hc;go_enter Tryz.func49, Tryz.ntmps49;go_wp2_with ((at_builtin; go_must (refine wpList_append_own_at _ rfl _ _ 41 rfl w_.heap.size 46 iR (.agg #[.string ⟨#[]⟩, .string ⟨#[]⟩]) 2 32 Tryz.underlying41 hiR hzR0 hzR1 hzR2 rfl (by decide) _ 0 [] rfl (World.ownsRow_made w_ #[] 0 (Nat.le_refl _) (Nat.zero_le _) rfl) ad l.length c (rwCells l) rfl (by rw [rwCells_length]; omega) (by intro j u hj; have h9 := HC.out j u hj; exact (Below.cell ((Grow.refl w_).alloc _) (World.block_lt_of_cell? w_ _ h9)).trans h9) (fun u hu => rw_one hu) (by unfold maxLen; omega) (by omega) (by simp) ?_)); intro v' xa hown' hgrow _ _; rw [Nat.zero_add, List.nil_append] at hown'; obtain ⟨a', cap', rfl⟩ := own_form hown')
  have hb := Below.grown ((Grow.refl w_).alloc (.cells #[] 46)) hgrow (by simp) (fun g e => by have e9 : w_.heap.size = g := Option.some.inj e; omega);go_ret;exact ⟨a', cap', rfl, own_rowO hown', hb⟩
abbrev Rp := Int × Bool × List UInt8 × List Rw
def RpPost (q : Rp) (w : World) (x : Ending) (w' : World) : Prop := ∃ rv, x = .returned (rpV q.1 q.2.1 q.2.2.1 rv) /\ RowS w' 46 rv q.2.2.2.length (rwCells q.2.2.2) /\ Below w.heap.size w w'
def Pl.rep (S : Pl) : Rp := if S.wk = 4 then (S.re, S.rf, S.rv, S.rr) else (0, false, [], [])
theorem rp4 {w : World} {b t : Nat} {v0 v1 v2 v3 : Value} (h : Blk w b t [v0, v1, v2, v3]) : (w.cell? ⟨b, 0, none⟩ = some v0 /\ w.cell? ⟨b, 1, none⟩ = some v1 /\ w.cell? ⟨b, 2, none⟩ = some v2 /\ w.cell? ⟨b, 3, none⟩ = some v3) /\ ∀ i, w.frozen? ⟨b, i, none⟩ = false :=
 ⟨⟨h.cell 0 (by simp), h.cell 1 (by simp), h.cell 2 (by simp), h.cell 3 (by simp)⟩, fun i => h.free i⟩
theorem rowS_sl {w : World} {t n : Nat} {v : Value} {cs : List Value} (h : RowS w t v n cs) : ∃ a m c, v = .slice a m c := by
 rcases h with ⟨_, _, a, c, e⟩ | ⟨c, off, cap, blk, f, e, _⟩
 ·exact ⟨a, 0, c, e⟩
 ·exact ⟨_, _, _, e⟩
set_option maxRecDepth 100000 in
set_option maxHeartbeats 4000000 in
theorem plreply_any (bs pb : Nat) (S : Pl) (w_ : World) (h : PlT bs pb w_ S) (hl : S.rr.length <= 1000) :
  Calls Tryz.prog 17 #[.pointer (some ⟨pb, 0, none⟩)] w_ (RpPost S.rep w_) := by
 obtain ⟨w0, hw0⟩ : ∃ w0, w0 = w_.alloc (.cells #[.int .i64 0, .bool false, .string ⟨#[]⟩, .slice none 0 0] 56) := ⟨_, rfl⟩;have hg0 : Grow w_ w0 := by subst hw0; exact (Grow.refl w_).alloc _
 have hR0 : Blk w0 w_.heap.size 56 [.int .i64 0, .bool false, .string ⟨#[]⟩, .slice none 0 0] := by subst hw0; exact Blk.new w_ _ [_, _, _, _]
 have h0 := h.fits hg0;obtain ⟨rv, ov, lv, hB, hP⟩ := h0.tab;obtain ⟨ra, rn, rc, hrv⟩ := rowS_sl hP.rr;subst hrv;obtain ⟨Q, hQ⟩ : ∃ Q, S.rep = Q := ⟨_, rfl⟩;have hq : Q = if S.wk = 4 then (S.re, S.rf, S.rv, S.rr) else (0, false, [], []) := by rw [<- hQ]; rfl
 rw [hQ];have c6 := hB.cell 6 (by simp [plCells]);have c11 := hB.cell 11 (by simp [plCells]);have c12 := hB.cell 12 (by simp [plCells]);have c13 := hB.cell 13 (by simp [plCells]);have c14 := hB.cell 14 (by simp [plCells]);simp only [plCells, List.getElem_cons_zero, List.getElem_cons_succ] at c6 c11 c12 c13 c14;obtain ⟨⟨r0, r1, r2, r3⟩, hz⟩ := rp4 hR0;have z0 := hz 0;have z1 := hz 1;have z2 := hz 2;have z3 := hz 3;have HRow := keep hP.rr;have HG0 := keep hg0;have HR0 := keep hR0;have HQ := keep hq;have HL := keep hl;clear h h0 hB hP hQ hq hg0 hR0 hz hl;go_enter Tryz.func17, Tryz.ntmps17;go_upto_region 1 with fail;rw [<- hw0];clear hw0
 by_cases h4 : S.wk = 4
 ·have e4 : (S.wk != 4) = false := by simp [h4]
  have HQ2 := keep (show Q = (S.re, S.rf, S.rv, S.rr) by rw [HQ.out, if_pos h4]);clear h4;go_upto_region 4 with fail;obtain ⟨w1, hw1⟩ : ∃ w1, w1 = w0.alloc (.cells #[.int .i64 S.re, .bool S.rf, .string (str S.rv), .slice ra rn rc] 56) := ⟨_, rfl⟩;rw [<- hw1];have hg1 : Grow w0 w1 := by subst hw1; exact (Grow.refl _).alloc _
  have hB1 : Blk w1 w0.heap.size 56 [.int .i64 S.re, .bool S.rf, .string (str S.rv), .slice ra rn rc] := by subst hw1; exact Blk.new w0 _ [_, _, _, _]
  have hlt := HR0.out.lt;have hne : w0.heap.size ≠ w_.heap.size := by omega
  have hN0 : w_.heap.size <= w0.heap.size := by omega
  have HN0 := keep hN0;have HNe := keep hne;have HG1 := keep hg1;have HB1 := keep hB1;have hcl := rclone_any (.slice ra rn rc) S.rr w1 (HRow.out.fits hg1) HL.out;have HCl := keep hcl;clear c6 c11 c12 c13 c14 r0 r1 r2 r3 z0 z1 z2 z3;obtain ⟨⟨b0, b1, b2, b3⟩, -⟩ := rp4 hB1;generalize w0.heap.size = bx at *;clear hw1 hg1 hB1 hcl hlt hne hN0;go_wp2_with fail;refine HCl.out.mono ?_;rintro x w2 ⟨a, c, rfl, hr2, hb2⟩;have HR2 := keep hr2;have HB2 := keep (HB1.out.fits hb2);have HRz := keep (HR0.out.fits (Grow.trans HG1.out hb2));have HG2 := keep (Grow.trans HG0.out (Grow.trans HG1.out hb2));clear b0 b1 b2 b3 hr2 hb2 HCl;obtain ⟨⟨b0, b1, b2, b3⟩, hz⟩ := rp4 HB2.out;have y3 := hz 3;clear hz;go_upto_region 5 with fail;obtain ⟨w3, hw3⟩ : ∃ w3, w3 = w2.setCell ⟨bx, 3, none⟩ (.slice a S.rr.length c) := ⟨_, rfl⟩;rw [<- hw3];have kk := (But.refl bx w2).setCell 3 (.slice a S.rr.length c);have hB3 := HB2.out.set 3 (.slice a S.rr.length c);rw [<- hw3] at kk hB3;simp only [List.set_cons_succ, List.set_cons_zero] at hB3;have HR3 := keep (rowS_typ HR2.out kk HB2.out (by decide));have HRz3 := keep (HRz.out.but kk (fun h => HNe.out h.symm));have HG3 := keep (But.below HG2.out kk HN0.out HG2.out.size);clear b0 b1 b2 b3 y3 hw3 kk HB2 HRz HR2;obtain ⟨⟨b0, b1, b2, b3⟩, -⟩ := rp4 hB3;obtain ⟨⟨r0, r1, r2, r3⟩, hz⟩ := rp4 HRz3.out;have z0 := hz 0;have z1 := hz 1;have z2 := hz 2;have z3 := hz 3;clear hz hB3;go_wp2_with fail
  have Hset := keep ((((HRz3.out.set 0 (.int .i64 S.re)).set 1 (.bool S.rf)).set 2 (.string (str S.rv))).set 3 (.slice a S.rr.length c));have Hbut := keep (((((But.refl w_.heap.size w3).setCell 0 (.int .i64 S.re)).setCell 1 (.bool S.rf)).setCell 2 (.string (str S.rv))).setCell 3 (.slice a S.rr.length c));refine bodyPost_ret (v := rpV S.re S.rf S.rv (.slice a S.rr.length c)) ?_ rfl ⟨.slice a S.rr.length c, by rw [HQ2.out], by rw [HQ2.out]; exact rowS_typ HR3.out Hbut.out HRz3.out (by decide), But.below HG3.out Hbut.out (Nat.le_refl _) HG3.out.size⟩;simp only [List.set_cons_succ, List.set_cons_zero] at Hset;obtain ⟨⟨s0, s1, s2, s3⟩, -⟩ := rp4 Hset.out;clear b0 b1 b2 b3 r0 r1 r2 r3 z0 z1 z2 z3;simp [results, Tryz.results17, go_sem, s0, s1, s2, s3, rpV]
 ·have e4 : (S.wk != 4) = true := by simpa using h4
  have HQ2 := keep (show Q = (0, false, [], []) by rw [HQ.out, if_neg h4]);clear h4;go_wp2_with fail;have Hset := keep ((((HR0.out.set 0 (.int .i64 0)).set 1 (.bool false)).set 2 (.string ⟨#[]⟩)).set 3 (.slice none 0 0));have Hbut := keep (((((But.refl w_.heap.size w0).setCell 0 (.int .i64 0)).setCell 1 (.bool false)).setCell 2 (.string ⟨#[]⟩)).setCell 3 (.slice none 0 0));refine bodyPost_ret (v := rpV 0 false [] (.slice none 0 0)) ?_ rfl ⟨.slice none 0 0, by rw [HQ2.out], by rw [HQ2.out]; exact rows_nilS _, But.below HG0.out Hbut.out (Nat.le_refl _) HG0.out.size⟩;simp only [List.set_cons_succ, List.set_cons_zero] at Hset;obtain ⟨⟨s0, s1, s2, s3⟩, -⟩ := rp4 Hset.out;clear c6 c11 c12 c13 c14 r0 r1 r2 r3 z0 z1 z2 z3;simp [results, Tryz.results17, go_sem, s0, s1, s2, s3, rpV, str_nilS]
end Go.Proofs.YtcdapdcablnhpaaGreat
namespace Go.Proofs.YtcdapdcablnhpaaGreat
open Go.RowKit
def Pl.page (S : Pl) (v : Vw) (P : Pg) (fr : List Int) : Pl × Rcd × Bool := match S.st with
 | 1 => (S.descend P, noRd, false)
 | 2 => (S.gather P, noRd, false)
 | 3 => (S.inspect v P, noRd, false)
 | 4 => S.finish P
 | 5 => S.lay P
 | 6 => S.enter P fr
 | _ => (S, noRd, false)
structure PlC (S : Pl) : Prop where
 call : S.call = 2 \/ S.call = 3 \/ S.call = 4 \/ S.call = 5
 num : S.call = 5 -> 0 < S.n /\ S.n <= 16
 key : S.key.length <= 24
 seen : 0 <= S.seen /\ S.seen <= 4096
 item : S.item.length <= 1000
 rows : S.call ≠ 5 -> S.rows = []
 rown : S.call = 5 -> (S.rows.length : Int) < S.n
 rr : S.rr = []
structure PlOk (S : Pl) : Prop where
 going : S.wk ≠ 4 -> PlC S
 over : S.wk = 4 -> S.st = 0 /\ ((S.call ≠ 5 /\ S.rr = []) \/ (S.call = 5 /\ (S.rr.length : Int) <= S.n /\ S.n <= 16))
 st : S.st ≠ 0 -> S.wk = 3
 six : S.st <= 6
 left : S.st = 3 -> S.left ≠ []
 way : S.st = 1 \/ S.st = 6 -> S.seen <= 4095
theorem PlC.see {S : Pl} (h : PlC S) {p : Int} {s : Nat} (h6 : s <= 6) (h3 : s = 3 -> S.left ≠ []) (h1 : s = 1 \/ s = 6 -> S.seen <= 4095) : PlOk (S.see p s) :=
 ⟨fun _ => ⟨h.call, h.num, h.key, h.seen, h.item, h.rows, h.rown, h.rr⟩, (fun h => absurd h (by show ¬ (3 : Int) = 4; decide)), fun _ => rfl, h6, h3, h1⟩
theorem PlC.fin {S : Pl} (h : PlC S) {e : Int} {f : Bool} {v : List UInt8} {r : List Rw} (hr : (S.call ≠ 5 -> r = []) /\ (S.call = 5 -> (r.length : Int) <= S.n)) : PlOk (S.fin e f v r) :=
 ⟨fun h => absurd rfl h, fun _ => ⟨rfl, by
  by_cases h5 : S.call = 5
  ·exact .inr ⟨h5, hr.2 h5, (h.num h5).2⟩
  ·exact .inl ⟨h5, hr.1 h5⟩⟩, fun h => absurd rfl h, Nat.zero_le _, (fun h => by cases h), (fun h => by rcases h with h | h <;> cases h)⟩
theorem PlC.fin0 {S : Pl} (h : PlC S) {e : Int} {f : Bool} {v : List UInt8} : PlOk (S.fin e f v []) := h.fin ⟨fun _ => rfl, fun h5 => by have := (h.num h5).1; simp; omega⟩
theorem PlC.odd {S : Pl} (h : PlC S) : PlOk S.odd := h.fin0
theorem PlC.down {S : Pl} (h : PlC S) {s : Nat} (h6 : s <= 6) (h3 : s ≠ 3) : PlOk (S.down s) :=
 (⟨h.call, h.num, h.key, ⟨Int.le_refl _, by show (0 : Int) <= 4096; decide⟩, h.item, h.rows, h.rown, h.rr⟩ : PlC { S with seen := 0 }).see h6 (fun e => absurd e h3) (fun _ => by show (0 : Int) <= 4095; decide)
theorem PlC.write {S : Pl} (h : PlC S) : PlOk S.write := by
 unfold Pl.write
 split
 ·exact h.fin0
 ·exact ⟨fun _ => ⟨h.call, h.num, h.key, h.seen, h.item, h.rows, h.rown, h.rr⟩, (fun h => absurd h (by show ¬ (2 : Int) = 4; decide)), (fun h => absurd rfl h), Nat.zero_le _, (fun h => by cases h), (fun h => by rcases h with h | h <;> cases h)⟩
theorem PlC.next {S : Pl} (h : PlC S) : PlOk S.next := by
 unfold Pl.next
 split
 ·rename_i e l he
  exact h.see (by decide) (fun _ hn => by rw [he] at hn; cases hn) (fun hh => by rcases hh with hh | hh <;> cases hh)
 ·split
  ·exact h.see (by decide) (fun hh => by cases hh) (fun hh => by rcases hh with hh | hh <;> cases hh)
  ·split
   ·refine h.fin ⟨h.rows, fun h5 => by have := h.rown h5; omega⟩
   ·split
    ·exact h.see (by decide) (fun hh => by cases hh) (fun hh => by rcases hh with hh | hh <;> cases hh)
    ·exact h.write
theorem PlC.more {S : Pl} (h : PlC S) {l : List En} {r : Int} : PlC { S with left := l, right := r } := ⟨h.call, h.num, h.key, h.seen, h.item, h.rows, h.rown, h.rr⟩
theorem PlC.rest {S : Pl} (h : PlC S) {l : List En} : PlC { S with left := l } := ⟨h.call, h.num, h.key, h.seen, h.item, h.rows, h.rown, h.rr⟩
theorem PlC.gather {S : Pl} (h : PlC S) (P : Pg) : PlOk (S.gather P) := by
 unfold Pl.gather
 split
 ·exact h.odd
 ·exact h.more.next
theorem PlC.way {S : Pl} (h : PlC S) (hs : S.seen <= 4095) (P : Pg) (l : Int) (e : En) : ((S.way P l e).2 = true -> PlC (S.way P l e).1) /\ ((S.way P l e).2 = false -> PlOk S -> PlOk (S.way P l e).1) := by
 have h1 : PlC { S with seen := S.seen + 1 } := ⟨h.call, h.num, h.key, ⟨by have := h.seen; show 0 <= S.seen + 1; omega, by show S.seen + 1 <= 4096; omega⟩, h.item, h.rows, h.rown, h.rr⟩;unfold Pl.way
 split
 ·exact ⟨(fun h => by cases h), fun _ _ => h1.odd⟩
 ·rename_i hn
  split
  ·rename_i hw
   refine ⟨fun h => (by cases h), fun _ ho => ?_⟩;have hlt : S.seen + 1 < 4096 := by
    rcases Int.lt_or_le (S.seen + 1) 4096 with h | h
    ·exact h
    ·exact absurd (.inr ⟨hw, h⟩) hn
   exact ⟨fun _ => ⟨h1.call, h1.num, h1.key, h1.seen, h1.item, h1.rows, h1.rown, h1.rr⟩, ho.over, ho.st, ho.six, ho.left, fun _ => by show S.seen + 1 <= 4095; omega⟩
  ·exact ⟨fun _ => h1, fun h => by cases h⟩
theorem PlOk.c {S : Pl} (h : PlOk S) (hs : S.st ≠ 0) : PlC S := h.going (by rw [h.st hs]; decide)
theorem encN_short (e : En) : (encN e).1.length <= 1000 := by
 unfold encN
 split
 ·rename_i h
  have := enBytes_length e h;show (enBytes e []).length <= 1000;omega
 ·simp
theorem sepN_short (e : En) (c : Int) : (sepN e c).1.length <= 1000 := by
 unfold sepN
 split
 ·rename_i h
  simp only [Bool.and_eq_true, Bool.or_eq_true, decide_eq_true_eq] at h;have hk : e.1.length <= 24 := by
   rcases h.2 with h2 | h2
   ·rw [h2]; simp [leastE]
   ·unfold enOk inB at h2; simp at h2; omega
  have h1 := sev_length e.1.length;have h2 := sevs_length [e.2.1, e.2.2, c];show (enBytes e [c]).length <= 1000;simp [enBytes, txt, sevs] at *;omega
 ·simp
theorem PlOk.page {S : Pl} (h : PlOk S) (v : Vw) (P : Pg) (fr : List Int) : PlOk (S.page v P fr).1 := by
 unfold Pl.page
 split
 ·rename_i hst
  have hc := h.c (by rw [hst]; decide);show PlOk (S.descend P);unfold Pl.descend;have hw := hc.way (h.way (.inl hst)) P 0 (S.begins, 0, 0)
  split
  ·rename_i h2
   exact (hw.1 h2).gather P
  ·rename_i h2
   exact hw.2 (by simpa using h2) h
 ·rename_i hst
  exact (h.c (by rw [hst]; decide)).gather P
 ·rename_i hst
  have hc := h.c (by rw [hst]; decide);show PlOk (S.inspect v P);unfold Pl.inspect
  split
  ·rename_i he
   exact h
  ·rename_i e l he
   split
   ·exact hc.rest.fin0
   ·split
    ·exact hc.rest.next
    ·split
     ·exact (⟨hc.call, hc.num, hc.key, hc.seen, hc.item, hc.rows, hc.rown, hc.rr⟩ : PlC { S with left := l, hit := true, one := e }).next
     ·rename_i hwr
      split
      ·exact hc.rest.fin0
      ·rename_i h2
       have h5 : S.call = 5 := by
        unfold Pl.writes at hwr;simp only [Bool.or_eq_true, decide_eq_true_eq] at hwr;rcases hc.call with h | h | h | h
        ·exact absurd h h2
        ·exact absurd (.inl h) hwr
        ·exact absurd (.inr h) hwr
        ·exact h
       have hlen := hc.rown h5
       split
       ·rename_i hn
        exact ⟨fun h => absurd rfl h, fun _ => ⟨rfl, .inr ⟨h5, by show ((S.rows ++ _).length : Int) <= S.n; rw [hn]; exact Int.le_refl _, (hc.num h5).2⟩⟩, fun h => absurd rfl h, Nat.zero_le _, (fun h => by cases h), (fun h => by rcases h with h | h <;> cases h)⟩
       ·rename_i hn
        refine (⟨hc.call, hc.num, hc.key, hc.seen, hc.item, fun h => absurd h5 h, fun _ => ?_, hc.rr⟩ : PlC { S with left := l, rows := S.rows ++ [((lookS P e.2.2 e.1).1.key, (lookS P e.2.2 e.1).1.val)] }).next;show ((S.rows ++ _).length : Int) < S.n;rw [List.length_append, List.length_singleton] at hn ⊢;omega
 ·rename_i hst
  have hc := h.c (by rw [hst]; decide);show PlOk (S.finish P).1;unfold Pl.finish
  split
  ·exact hc.fin0
  ·exact hc.write
 ·rename_i hst
  have hc := h.c (by rw [hst]; decide);show PlOk (S.lay P).1;unfold Pl.lay
  split
  ·exact hc.write
  ·split
   ·exact hc.odd
   ·exact (⟨hc.call, hc.num, hc.key, hc.seen, encN_short _, hc.rows, hc.rown, hc.rr⟩ : PlC { S with level := 0, ent := (S.key, S.wpg, (insH P S.wpg S.own S.key S.val).1.slot), item := (encN (S.key, S.wpg, (insH P S.wpg S.own S.key S.val).1.slot)).1 }).down (by decide) (by decide)
 ·rename_i hst
  have hc := h.c (by rw [hst]; decide);show PlOk (S.enter P fr).1;unfold Pl.enter;have hw := hc.way (h.way (.inr hst)) P S.level S.ent
  split
  ·rename_i h2
   exact hw.2 h2 h
  ·rename_i h2
   have hc2 := hw.1 (by simpa using h2);generalize (S.way P S.level S.ent).1 = X at *;generalize enterN P X.wpg X.item fr = R at *;show PlOk (X.enters R).1;unfold Pl.enters
   split
   ·unfold Pl.entered
    split
    ·exact hc2.fin0
    ·exact (⟨hc2.call, hc2.num, hc2.key, hc2.seen, sepN_short _ _, hc2.rows, hc2.rown, hc2.rr⟩ : PlC { X with level := X.level + 1, ent := (aboveI (rdOf R.1 X.own).kind (rdOf R.1 X.own).imgs).1, item := (sepN (aboveI (rdOf R.1 X.own).kind (rdOf R.1 X.own).imgs).1 (aboveI (rdOf R.1 X.own).kind (rdOf R.1 X.own).imgs).2.1).1 }).down (by decide) (by decide)
   ·split
    ·exact hc2.fin0
    ·split
     ·exact hc2.fin0
     ·exact hc2.odd
 ·exact h
theorem PlOk.locked {S : Pl} (h : PlOk S) (got : Bool) (e : Int) : PlOk (S.lock got e) := by
 unfold Pl.lock
 split
 ·exact h
 ·rename_i h1
  have hc := h.going (by rw [Decidable.not_not.1 h1]; decide)
  split
  ·exact hc.fin0
  ·split
   ·exact hc.down (by decide) (by decide)
   ·exact h
theorem PlOk.spaced {S : Pl} (h : PlOk S) (p : Int) : PlOk (S.space p) := by
 unfold Pl.space
 split
 ·rename_i h1
  exact (h.going (by rw [h1]; decide)).see (by decide) (fun hh => by cases hh) (fun hh => by rcases hh with hh | hh <;> cases hh)
 ·exact h
theorem PlOk.failed {S : Pl} (h : PlOk S) (e : Int) : PlOk (S.fail e) := by
 unfold Pl.fail
 split
 ·exact h
 ·rename_i h1
  exact (h.going h1).fin0
theorem PlOk.start {call : Int} {key upk val : List UInt8} {n own : Int} (h : rightB call key upk val n own = true) : PlOk (startS call key upk val n own) := by
 have h0 : PlC (Pl.new call key upk val n own) := by
  unfold rightB isKeyB at h;unfold Pl.new
  split at h
  ·rename_i hc
   simp only [Bool.and_eq_true, decide_eq_true_eq] at h;exact ⟨.inl hc, (fun h5 => absurd (hc.symm.trans h5) (by decide)), h.2, ⟨Int.le_refl _, by show (0 : Int) <= 4096; decide⟩, Nat.zero_le _, fun _ => rfl, (fun h5 => absurd (hc.symm.trans h5) (by decide)), rfl⟩
  ·split at h
   ·rename_i hc
    simp only [Bool.and_eq_true, decide_eq_true_eq] at h;exact ⟨.inr (.inl hc), (fun h5 => absurd (hc.symm.trans h5) (by decide)), h.1.1.2, ⟨Int.le_refl _, by show (0 : Int) <= 4096; decide⟩, Nat.zero_le _, fun _ => rfl, (fun h5 => absurd (hc.symm.trans h5) (by decide)), rfl⟩
   ·split at h
    ·rename_i hc
     simp only [Bool.and_eq_true, decide_eq_true_eq] at h;exact ⟨.inr (.inr (.inl hc)), (fun h5 => absurd (hc.symm.trans h5) (by decide)), h.1.2, ⟨Int.le_refl _, by show (0 : Int) <= 4096; decide⟩, Nat.zero_le _, fun _ => rfl, (fun h5 => absurd (hc.symm.trans h5) (by decide)), rfl⟩
    ·split at h
     ·rename_i hc
      simp only [Bool.and_eq_true, decide_eq_true_eq] at h;exact ⟨.inr (.inr (.inr hc)), fun _ => ⟨h.1.2, h.2⟩, h.1.1.1, ⟨Int.le_refl _, by show (0 : Int) <= 4096; decide⟩, Nat.zero_le _, fun _ => rfl, fun _ => h.1.2, rfl⟩
     ·cases h
 unfold startS
 split
 ·exact ⟨fun _ => ⟨h0.call, h0.num, h0.key, h0.seen, h0.item, h0.rows, h0.rown, h0.rr⟩, (fun h => absurd h (by show ¬ (1 : Int) = 4; decide)), (fun h => absurd rfl h), Nat.zero_le _, (fun h => by cases h), (fun h => by rcases h with h | h <;> cases h)⟩
 ·exact h0.down (by decide) (by decide)
structure PlZ (bs pb : Nat) (w : World) (S : Pl) : Prop where
 low : bs <= w.heap.size
 blk : Blk w pb 111 (plCells S (stageV pb S.st) (.slice none 0 0) (.slice none 0 0) (.slice none 0 0))
 rr : S.rr = []
 rows : S.rows = []
 left : S.left = []
theorem PlZ.tab {bs pb : Nat} {w : World} {S : Pl} (h : PlZ bs pb w S) : PlT bs pb w S := by
 refine ⟨h.low, _, _, _, h.blk, ⟨?_, ?_, ?_, fun _ => rfl⟩⟩
 ·rw [h.rr]; exact rows_nilS _
 ·unfold OwnR; rw [h.rows]; exact World.ownsRow_nil _ _ _ _
 ·rw [h.left]; exact ⟨ensS_nil _, Nat.le_refl _⟩
theorem PlZ.fits {bs pb : Nat} {w w' : World} {S : Pl} (h : PlZ bs pb w S) (g : Grow w w') : PlZ bs pb w' S := ⟨Nat.le_trans h.low g.size, h.blk.fits g, h.rr, h.rows, h.left⟩
theorem PlZ.sel {bs pb bs' pb' : Nat} {w w' : World} {S : Pl} (h : PlZ bs pb w S) (g : Sel bs' pb' w w') (hne : pb ≠ pb') : PlZ bs pb w' S := ⟨Nat.le_trans h.low g.size, g.plans _ _ _ h.blk hne, h.rr, h.rows, h.left⟩
def PlPostZ (bs pb : Nat) (S : Pl) (w : World) (x : Ending) (w' : World) : Prop := x = .returned (.tuple #[]) /\ PlZ bs pb w' S /\ Sel bs pb w w'
def NewPostZ (call : Int) (key upk val : List UInt8) (n own : Int) (w : World) (x : Ending) (w' : World) : Prop :=
 (rightB call key upk val n own = false /\ x = .returned (.tuple #[.pointer none, .int .i64 1]) /\ Below w.heap.size w w') \/
 (rightB call key upk val n own = true /\ ∃ pb, x = .returned (.tuple #[.pointer (some ⟨pb, 0, none⟩), .int .i64 0]) /\ w.heap.size <= pb /\ PlZ w.heap.size pb w' (startS call key upk val n own) /\ Below w.heap.size w w')
set_option maxRecDepth 100000 in
set_option maxHeartbeats 2000000 in
theorem see_nil (bs pb : Nat) (S : Pl) (p : Int) (st : Nat) (w_ : World) (h : PlZ bs pb w_ S) :
  Calls Tryz.prog 52 #[.pointer (some ⟨pb, 0, none⟩), .int .i64 p, stageV pb st] w_ (PlPostZ bs pb (S.see p st) w_) := by
 have hB := h.blk;have HB := keep hB;have HL := keep h.low;have c6 := hB.cell 6 (by simp [plCells]);have c7 := hB.cell 7 (by simp [plCells]);have c8 := hB.cell 8 (by simp [plCells]);have c9 := hB.cell 9 (by simp [plCells]);have c10 := hB.cell 10 (by simp [plCells]);simp only [plCells, List.getElem_cons_zero, List.getElem_cons_succ] at c6 c7 c8 c9 c10;have z6 := hB.free 6;have z7 := hB.free 7;have z8 := hB.free 8;have z9 := hB.free 9;have z10 := hB.free 10;obtain ⟨sv, hsv⟩ : ∃ sv, stageV pb st = sv := ⟨_, rfl⟩;have hfin : ∀ w', w' = ((((w_.setCell ⟨pb, 6, none⟩ (.int .i64 3)).setCell ⟨pb, 7, none⟩ (.string ⟨#[]⟩)).setCell ⟨pb, 8, none⟩ (.int .i64 0)).setCell ⟨pb, 9, none⟩ (.int .i64 p)).setCell ⟨pb, 10, none⟩ sv -> PlPostZ bs pb (S.see p st) w_ (.returned (.tuple #[])) w' := by
  rintro w' rfl;have k := (((((But.refl pb w_).setCell 6 (.int .i64 3)).setCell 7 (.string ⟨#[]⟩)).setCell 8 (.int .i64 0)).setCell 9 (.int .i64 p)).setCell 10 sv;have hB' := ((((hB.set 6 (.int .i64 3)).set 7 (.string ⟨#[]⟩)).set 8 (.int .i64 0)).set 9 (.int .i64 p)).set 10 sv;refine ⟨rfl, ⟨Nat.le_trans h.low k.size, ?_, h.rr, h.rows, h.left⟩, Sel.but k hB (.inl ⟨rfl, rfl⟩) h.low⟩;rw [show (S.see p st).st = st from rfl, hsv];exact hB'
 rw [hsv];have HFin := keep hfin;have hsv2 : sv = .nilFunc \/ ∃ f, sv = .func (.func f) #[.pointer (some ⟨pb, 0, none⟩)] #[] := by
  rw [<- hsv];unfold stageV
  split
  all_goals first | exact .inl rfl | exact .inr ⟨_, rfl⟩
 clear hB h hsv hfin;rcases hsv2 with rfl | ⟨f, rfl⟩
 ·go_enter Tryz.func52, Tryz.ntmps52;go_wp2_with fail;refine bodyPost_ret (v := .tuple #[]) ?_ rfl (HFin.out _ rfl);simp [results, Tryz.results52, go_sem]
 ·go_enter Tryz.func52, Tryz.ntmps52;go_wp2_with fail;refine bodyPost_ret (v := .tuple #[]) ?_ rfl (HFin.out _ rfl);simp [results, Tryz.results52, go_sem]
set_option maxRecDepth 100000 in
set_option maxHeartbeats 2000000 in
theorem down_nil (bs pb : Nat) (S : Pl) (st : Nat) (w_ : World) (h : PlZ bs pb w_ S) :
  Calls Tryz.prog 91 #[.pointer (some ⟨pb, 0, none⟩), stageV pb st] w_ (PlPostZ bs pb (S.down st) w_) := by
 have hB := h.blk;have c16 := hB.cell 16 (by simp [plCells]);simp only [plCells, List.getElem_cons_zero, List.getElem_cons_succ] at c16;have z16 := hB.free 16;obtain ⟨w1, hw1⟩ : ∃ w1, w1 = w_.setCell ⟨pb, 16, none⟩ (.int .i64 0) := ⟨_, rfl⟩;have hT : PlZ bs pb w1 { S with seen := 0 } /\ Sel bs pb w_ w1 := by
  have k := (But.refl pb w_).setCell 16 (.int .i64 0);have hB' := hB.set 16 (.int .i64 0);subst hw1;exact ⟨⟨Nat.le_trans h.low k.size, hB', h.rr, h.rows, h.left⟩, Sel.but k hB (.inl ⟨rfl, rfl⟩) h.low⟩
 have hse := see_nil bs pb { S with seen := 0 } 1 st w1 hT.1;have HSl := keep hT.2;unfold PlPostZ at hse;unfold Pl.down;obtain ⟨sv, hsv⟩ : ∃ sv, stageV pb st = sv := ⟨_, rfl⟩;have hsv2 : sv = .nilFunc \/ ∃ f, sv = .func (.func f) #[.pointer (some ⟨pb, 0, none⟩)] #[] := by
  rw [<- hsv];unfold stageV
  split
  all_goals first | exact .inl rfl | exact .inr ⟨_, rfl⟩
 rw [hsv] at hse ⊢;have HSe := keep hse;clear hsv hse hT hB h;rcases hsv2 with rfl | ⟨f, rfl⟩
 ·go_enter Tryz.func91, Tryz.ntmps91;go_upto_region 1 with fail;rw [<- hw1];clear hw1;go_wp2_with fail;refine HSe.out.mono ?_;rintro x w2 ⟨rfl, h1, h2⟩;go_wp2_with fail;refine bodyPost_ret (v := .tuple #[]) ?_ rfl (show PlPostZ _ _ _ _ _ _ from ⟨rfl, h1, HSl.out.trans h2⟩);simp [results, Tryz.results91, go_sem]
 ·go_enter Tryz.func91, Tryz.ntmps91;go_upto_region 1 with fail;rw [<- hw1];clear hw1;go_wp2_with fail;refine HSe.out.mono ?_;rintro x w2 ⟨rfl, h1, h2⟩;go_wp2_with fail;refine bodyPost_ret (v := .tuple #[]) ?_ rfl (show PlPostZ _ _ _ _ _ _ from ⟨rfl, h1, HSl.out.trans h2⟩);simp [results, Tryz.results91, go_sem]
set_option maxRecDepth 100000 in
set_option maxHeartbeats 2000000 in
theorem pllook_nil (bs pb : Nat) (S : Pl) (w_ : World) (h : PlZ bs pb w_ S) :
  Calls Tryz.prog 47 #[.pointer (some ⟨pb, 0, none⟩)] w_ (PlPostZ bs pb S.look w_) := by
 have hmf : ∀ (fn : Fn) (first cap : Array Value) (w : World), (Instr.makeFunc fn first cap).run Tryz.prog w = .ok (.func fn first cap) w := fun _ _ _ _ => rfl
 have hd := down_nil bs pb S 1 w_ h;unfold stageV PlPostZ at hd;have HD := keep hd;clear hd h;unfold Pl.look;go_enter Tryz.func47, Tryz.ntmps47;go_wp2_with fail;refine HD.out.mono ?_;rintro x w1 ⟨rfl, h1, h2⟩;go_wp2_with fail;refine bodyPost_ret (v := .tuple #[]) ?_ rfl (show PlPostZ _ _ _ _ _ _ from ⟨rfl, h1, h2⟩);simp [results, Tryz.results47, go_sem]
set_option maxRecDepth 100000 in
set_option maxHeartbeats 4000000 in
theorem plnew_nil (call : Int) (key upk val : List UInt8) (n own : Int) (w_ : World) :
  Calls Tryz.prog 14 #[askV call key upk val n, .int .i64 own] w_ (NewPostZ call key upk val n own w_) := by
 obtain ⟨w0, hw0⟩ : ∃ w0, w0 = w_.alloc (.cells (askC call key upk val n).toArray 52) := ⟨_, rfl⟩;have hg0 : Grow w_ w0 := by subst hw0; exact (Grow.refl w_).alloc _
 have hB0 : Blk w0 w_.heap.size 52 (askC call key upk val n) := by subst hw0; exact Blk.new w_ _ _
 have hri := fun u => right_any call key upk val n own u
 have hst : startS call key upk val n own = if (Pl.new call key upk val n own).writes then { Pl.new call key upk val n own with wk := 1, wkey := key, wsz := 0, wpg := 0 } else (Pl.new call key upk val n own).look := rfl
 obtain ⟨R, hR⟩ : ∃ R, rightB call key upk val n own = R := ⟨_, rfl⟩;rw [hR] at hri;have HRb := keep hR;unfold askV at hri;have HRi := keep hri;have HSt := keep hst;have HG0 := keep hg0
 have HB0 := keep (fun (u : World) (hu : Grow w0 u) => (show u.cell? ⟨w_.heap.size, 0, none⟩ = some (.int .u8 call) /\ u.cell? ⟨w_.heap.size, 1, none⟩ = some (.string (str key)) /\ u.cell? ⟨w_.heap.size, 2, none⟩ = some (.string (str upk)) /\ u.cell? ⟨w_.heap.size, 3, none⟩ = some (.string (str val)) /\ u.cell? ⟨w_.heap.size, 4, none⟩ = some (.int .i64 n) from
  ⟨(hB0.fits hu).cell 0 (by simp [askC]), (hB0.fits hu).cell 1 (by simp [askC]), (hB0.fits hu).cell 2 (by simp [askC]), (hB0.fits hu).cell 3 (by simp [askC]), (hB0.fits hu).cell 4 (by simp [askC])⟩))
 clear hst hri hR hg0 hB0;obtain ⟨c0, c1, c2, c3, c4⟩ := HB0.out w0 (Grow.refl _);unfold askC at hw0;unfold askV;go_enter Tryz.func14, Tryz.ntmps14;go_upto_region 1 with fail;rw [<- hw0];clear hw0;go_wp2_with fail;refine (HRi.out w0).mono ?_;rintro x w1 ⟨rfl, hb1⟩;have HG1 := keep hb1;clear c0 c1 c2 c3 c4 hb1 HRi;cases R with
 | false =>
  go_wp2_with fail;go_ret2;exact (show NewPostZ _ _ _ _ _ _ _ _ _ from .inl ⟨HRb.out, rfl, Grow.trans HG0.out HG1.out⟩)
 | true =>
  obtain ⟨c0, c1, c2, c3, c4⟩ := HB0.out w1 HG1.out;go_upto_region 4 with fail;obtain ⟨w2, hw2⟩ : ∃ w2, w2 = w1.alloc (.cells (plCells (Pl.new call key upk val n own) .nilFunc (.slice none 0 0) (.slice none 0 0) (.slice none 0 0)).toArray 111) := ⟨_, rfl⟩;have hg2 : Grow w1 w2 := by subst hw2; exact (Grow.refl _).alloc _
  have hB2 : Blk w2 w1.heap.size 111 (plCells (Pl.new call key upk val n own) .nilFunc (.slice none 0 0) (.slice none 0 0) (.slice none 0 0)) := by subst hw2; exact Blk.new w1 _ _
  simp only [plCells, Pl.new, leastE, str_nilS] at hw2;rw [<- hw2];have HG2 := keep (Grow.trans HG1.out hg2);have hpb : w_.heap.size <= w1.heap.size := (Grow.trans HG0.out HG1.out).size;have HPb := keep hpb;have hT2 : PlZ w_.heap.size w1.heap.size w2 (Pl.new call key upk val n own) := ⟨(Grow.trans HG0.out HG2.out).size, hB2, rfl, rfl, rfl⟩;have HB2 := keep hB2;have HT2 := keep hT2;have hwr := writes_any w_.heap.size w1.heap.size (Pl.new call key upk val n own) w2 hT2.tab;have hlo := fun (u : World) (hu : Grow w2 u) => pllook_nil w_.heap.size w1.heap.size (Pl.new call key upk val n own) u (hT2.fits hu)
  have hst := HSt.out;generalize w1.heap.size = pb at *;generalize hS0 : Pl.new call key upk val n own = S0 at *;generalize hW : S0.writes = W at *;unfold PlPostZ at hlo;have HWr := keep hwr;have HLo := keep hlo;have HSt2 := keep hst;have HS0 := keep hS0;clear c0 c1 c2 c3 c4 hw2 hg2 hB2 hT2 hpb hwr hlo hst hS0 HSt hW;go_wp2_with fail;refine HWr.out.mono ?_;rintro x w3 ⟨rfl, hb3⟩;have HG3 := keep hb3;clear hb3 HWr;cases W with
  | true =>
   obtain ⟨c0, c1, c2, c3, c4⟩ := HB0.out w3 (Grow.trans HG2.out HG3.out);have hB3 := HB2.out.fits HG3.out;have c6 := hB3.cell 6 (by simp [plCells]);have c7 := hB3.cell 7 (by simp [plCells]);have c8 := hB3.cell 8 (by simp [plCells]);have c9 := hB3.cell 9 (by simp [plCells]);simp only [plCells, List.getElem_cons_zero, List.getElem_cons_succ] at c6 c7 c8 c9;have z6 := hB3.free 6;have z7 := hB3.free 7;have z8 := hB3.free 8;have z9 := hB3.free 9;have hfin : ∀ w', w' = (((w3.setCell ⟨pb, 6, none⟩ (.int .i64 1)).setCell ⟨pb, 7, none⟩ (.string (str key))).setCell ⟨pb, 8, none⟩ (.int .i64 0)).setCell ⟨pb, 9, none⟩ (.int .i64 0) -> NewPostZ call key upk val n own w_ (.returned (.tuple #[.pointer (some ⟨pb, 0, none⟩), .int .i64 0])) w' := by
    rintro w' rfl;have k := ((((But.refl pb w3).setCell 6 (.int .i64 1)).setCell 7 (.string (str key))).setCell 8 (.int .i64 0)).setCell 9 (.int .i64 0);have hB' := (((hB3.set 6 (.int .i64 1)).set 7 (.string (str key))).set 8 (.int .i64 0)).set 9 (.int .i64 0);refine .inr ⟨HRb.out, pb, rfl, HPb.out, ?_, But.below (Grow.trans HG0.out (Grow.trans HG2.out HG3.out)) k HPb.out (Grow.trans HG0.out (Grow.trans HG2.out HG3.out)).size⟩;rw [HSt2.out, if_pos rfl, <- HS0.out];rw [<- HS0.out] at hB';exact ⟨Nat.le_trans (Grow.trans HG0.out (Grow.trans HG2.out HG3.out)).size k.size, hB', rfl, rfl, rfl⟩
   have HFin := keep hfin;clear hB3 hfin c0 c2 c3 c4;go_wp2_with fail;go_ret2;exact HFin.out _ rfl
  | false =>
   go_wp2_with fail;refine (HLo.out w3 HG3.out).mono ?_;rintro x w4 ⟨rfl, h1, h2⟩;have HT4 := keep h1;have HS4 := keep h2;clear h1 h2 HLo;go_wp2_with fail;go_ret2;exact (show NewPostZ _ _ _ _ _ _ _ _ _ from .inr ⟨HRb.out, pb, rfl, HPb.out, by rw [HSt2.out, if_neg (by simp)]; exact HT4.out, Below.trans (Grow.trans HG0.out (Grow.trans HG2.out HG3.out)) (HS4.out.below HPb.out)⟩)
end Go.Proofs.YtcdapdcablnhpaaGreat
