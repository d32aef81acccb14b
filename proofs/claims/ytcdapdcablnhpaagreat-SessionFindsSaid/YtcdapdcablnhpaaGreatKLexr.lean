import Derived.Test.YtcdapdcablnhpaaGreatKBl2
import Derived.Test.YtcdapdcablnhpaaGreatKCg9
import Derived.Test.YtcdapdcablnhpaaGreatKCg6
import Derived.Test.YtcdapdcablnhpaaGreatKBl1
import Derived.Test.YtcdapdcablnhpaaGreatKHl1
import Derived.Test.YtcdapdcablnhpaaGreatKRu2
import Derived.Deep.CutRange
import Derived.Test.YtcdapdcablnhpaaGreatKLexk
namespace Go.Proofs.YtcdapdcablnhpaaGreat
open Go.RowKit
attribute [local go_sem] hgs
attribute [local simp] eql_entry
attribute [local go_sem] guard_entry
theorem recset {w : World} {b : Nat} {a0 a1 a2 a3 a4 a5 a6 a7 a8 a9 a10 a11 a12 a13 a14 a15 : Value} (h : Blk w b 71 [a0, a1, a2, a3, a4, a5, a6, a7, a8, a9, a10, a11, a12, a13, a14, a15]) (b0 b1 b2 b3 b4 b5 b6 b7 b8 b9 b10 b11 b12 b13 b14 b15 : Value) :
  Blk ((((((((((((((((w.setCell ⟨b, 0, none⟩ b0).setCell ⟨b, 1, none⟩ b1).setCell ⟨b, 2, none⟩ b2).setCell ⟨b, 3, none⟩ b3).setCell ⟨b, 4, none⟩ b4).setCell ⟨b, 5, none⟩ b5).setCell ⟨b, 6, none⟩ b6).setCell ⟨b, 7, none⟩ b7).setCell ⟨b, 8, none⟩ b8).setCell ⟨b, 9, none⟩ b9).setCell ⟨b, 10, none⟩ b10).setCell ⟨b, 11, none⟩ b11).setCell ⟨b, 12, none⟩ b12).setCell ⟨b, 13, none⟩ b13).setCell ⟨b, 14, none⟩ b14).setCell ⟨b, 15, none⟩ b15) b 71 [b0, b1, b2, b3, b4, b5, b6, b7, b8, b9, b10, b11, b12, b13, b14, b15] := (((((((((((((((h.set 0 b0).set 1 b1).set 2 b2).set 3 b3).set 4 b4).set 5 b5).set 6 b6).set 7 b7).set 8 b8).set 9 b9).set 10 b10).set 11 b11).set 12 b12).set 13 b13).set 14 b14).set 15 b15
theorem recbut (w : World) (b : Nat) (b0 b1 b2 b3 b4 b5 b6 b7 b8 b9 b10 b11 b12 b13 b14 b15 : Value) : But b w ((((((((((((((((w.setCell ⟨b, 0, none⟩ b0).setCell ⟨b, 1, none⟩ b1).setCell ⟨b, 2, none⟩ b2).setCell ⟨b, 3, none⟩ b3).setCell ⟨b, 4, none⟩ b4).setCell ⟨b, 5, none⟩ b5).setCell ⟨b, 6, none⟩ b6).setCell ⟨b, 7, none⟩ b7).setCell ⟨b, 8, none⟩ b8).setCell ⟨b, 9, none⟩ b9).setCell ⟨b, 10, none⟩ b10).setCell ⟨b, 11, none⟩ b11).setCell ⟨b, 12, none⟩ b12).setCell ⟨b, 13, none⟩ b13).setCell ⟨b, 14, none⟩ b14).setCell ⟨b, 15, none⟩ b15) := ((((((((((((((((But.refl b w).setCell 0 b0).setCell 1 b1).setCell 2 b2).setCell 3 b3).setCell 4 b4).setCell 5 b5).setCell 6 b6).setCell 7 b7).setCell 8 b8).setCell 9 b9).setCell 10 b10).setCell 11 b11).setCell 12 b12).setCell 13 b13).setCell 14 b14).setCell 15 b15
end Go.Proofs.YtcdapdcablnhpaaGreat
namespace Go.Proofs.YtcdapdcablnhpaaGreat
open Go.RowKit
attribute [local go_sem] hgs
def belowB (tt key : List UInt8) : Bool := decide (tt = []) || Op.bytesLess key tt
def insideB (fr tt : List UInt8) (e : En) : Bool := !Op.bytesLess e.1 fr && belowB tt e.1
def OwnE (N : Nat) (w : World) (v : Value) (l : List En) : Prop := w.ownsRow N 103 3 v l.length (eCells l)
theorem OwnE.fits {N : Nat} {w w' : World} {v : Value} {l : List En} (h : OwnE N w v l) (g : Grow w w') : OwnE N w' v l := owns_fits h g
theorem OwnE.ens {N : Nat} {w : World} {v : Value} {l : List En} (h : OwnE N w v l) : EnsS w v l := own_rowO h
theorem en_mark (w : World) (k : List UInt8) (p s : Int) : Row (w.alloc (.cells #[.string (str k), .int .i64 p, .int .i64 s] 103)) 103 (.slice (some ⟨w.heap.size, 0, none⟩) 1 1) 1 (eCells [(k, p, s)]) :=
 RowS.weak (RowS.blk (Blk.new w 103 [.string (str k), .int .i64 p, .int .i64 s]) 1 1 _ 0 (by intro j hj; rw [Nat.zero_add]; rfl))
theorem wpList_push_en {ops : Array Oper} {rest : List Oper} {o : Oper} {a : Act} {Q : Exit -> Act -> World -> Prop} {w : World} (hgd : o.guard = none) (s x : Operand)
  (ho : o.op = .call { callee := .builtin .append, args := #[s, x], argTypes := #[109, 109] }) (B : Nat) (l : List En) (e : En) (v0 v : Value) (hs : a.eval s = v0) (hx : a.eval x = v)
  (h0 : OwnE B w v0 l) (h : Row w 103 v 1 (eCells [e])) (hb : l.length <= 4398046510975) (hB : B <= w.heap.size) {n : Nat} {l1 : List En} (hn : l.length + 1 = n) (hl1 : l ++ [e] = l1)
  (hk : ∀ a' c w', OwnE B w' (.slice a' n c) l1 -> Below B w w' -> wpList Tryz.prog ops Q rest (a.put o.dst (.slice a' n c)) w') : wpList Tryz.prog ops Q (o :: rest) a w := by
 subst hn hl1;obtain ⟨v', w', hr, h1, h2⟩ := append_more o.type B l [e] v0 v w h0 h (by simp) (by simp only [List.length_singleton]; omega) hB;have h3 : OwnE B w' v' (l ++ [e]) := by unfold OwnE; rw [List.length_append]; exact h1
 obtain ⟨a', c, rfl⟩ := own_form h1;exact wpList_upon_append hgd ho hs hx hr (hk a' c w' h3 (h2.2 hB))
set_option maxHeartbeats 1000000 in
theorem below_fn (tt key : List UInt8) (b : Nat) (w_ : World) (h : w_.cell? ⟨b, 0, none⟩ = some (.string (str tt))) :
  Calls Tryz.prog 221 #[.string (str key), .pointer (some ⟨b, 0, none⟩)] w_ fun x w' => x = .returned (.bool (belowB tt key)) /\ Below w_.heap.size w_ w' := by
 unfold belowB;go_enter Tryz.func221, Tryz.ntmps221;cases tt with
 | nil =>
  have h1 : (str []).toList = [] := str_list [];go_wp2_with fail;go_ret;exact ⟨by simp [], Grow.refl _⟩
 | cons c t =>
  have h1 : ¬ (str (c :: t)).toList = [] := by rw [str_list]; simp
  go_wp2_with fail;go_ret;refine ⟨?_, Grow.refl _⟩;simp [str_list]
def hitsL (P : Pg) (fr tt : List UInt8) : List En := (entL P).filter (insideB fr tt)
def hitsM (P : Pg) (tt : List UInt8) : Bool := (decide (entC P = 0) && !decide (P.right = 0)) && belowB tt (decN P.high).1.1
def HitsPost (P : Pg) (fr tt : List UInt8) (w : World) (x : Ending) (w' : World) : Prop :=
 ∃ a c, x = .returned (.tuple #[.slice a (hitsL P fr tt).length c, .bool (hitsM P tt), .int .i64 (entC P)]) /\ EnsS w' (.slice a (hitsL P fr tt).length c) (hitsL P fr tt) /\ Below w.heap.size w w'
def HitsCap (P : Pg) (fr tt : List UInt8) (w : World) (x : Ending) (w' : World) : Prop :=
 ∃ a c, x = .returned (.tuple #[.slice a (hitsL P fr tt).length c, .bool (hitsM P tt), .int .i64 (entC P)]) /\ (EnsS w' (.slice a (hitsL P fr tt).length c) (hitsL P fr tt) /\ (hitsL P fr tt).length <= c) /\ Below w.heap.size w w'
theorem HitsCap.post {P : Pg} {fr tt : List UInt8} {w w' : World} {x : Ending} (h : HitsCap P fr tt w x w') : HitsPost P fr tt w x w' := by
 obtain ⟨a, c, h1, h2, h3⟩ := h;exact ⟨a, c, h1, h2.1, h3⟩
theorem filter_step {α : Type} (f : α -> Bool) (l : List α) {k : Nat} (h : k < l.length) : (l.take (k + 1)).filter f = (l.take k).filter f ++ (if f l[k] then [l[k]] else []) := by
 rw [List.take_add_one, List.filter_append];simp [h, List.filter_cons]
theorem ent_cases (P : Pg) : (entC P = 140 /\ entL P = [] /\ (openOk P = false \/ P.level ≠ 0)) \/ (entC P = 0 /\ openOk P = true /\ P.level = 0 /\ (entL P).length <= 255) := by
 have hl := entL_len P;unfold entC;cases h : entriesOk P with
 | false =>
  refine .inl ⟨rfl, by unfold entL; rw [h]; rfl, ?_⟩;unfold entriesOk at h;simp only [Bool.and_eq_false_iff, decide_eq_false_iff_not] at h;exact h
 | true =>
  have h2 := h;unfold entriesOk at h2;simp only [Bool.and_eq_true, decide_eq_true_eq] at h2;exact .inr ⟨rfl, h2.1, h2.2, hl⟩
def HitRel (L : List En) (f : En -> Bool) (w1 : World) (x i : Value) (wr : World) : Prop :=
 ∃ k a cap, k <= L.length /\ x = .slice a ((L.take k).filter f).length cap /\ i = .int .i64 (k : Int) /\ Kept (OwnE w1.heap.size wr (.slice a ((L.take k).filter f).length cap) ((L.take k).filter f)) /\ Kept (Below w1.heap.size w1 wr)
set_option maxRecDepth 100000 in
set_option maxHeartbeats 4000000 in
theorem hits_cap (P : Pg) (iv : Value) (fr tt : List UInt8) (w_ : World) (hin : PgIn w_ iv P) :
  Calls Tryz.prog 197 #[pgV P iv, .string (str fr), .string (str tt)] w_ (HitsCap P fr tt w_) := by
 have hmf : ∀ (fn : Fn) (first cap : Array Value) (w : World), (Instr.makeFunc fn first cap).run Tryz.prog w = .ok (.func fn first cap) w := fun _ _ _ _ => rfl
 have hen := fun (u : World) (hu : Grow w_ u) => (entries_node P iv u (hin.fits hu)).mono fun x w' h => ent_uni h
 have hde := fun (u : World) => decode_any P.high u (by have := hin.2.2.1; omega)
 have hfa := ent_cases P;have hm : hitsM P tt = ((decide (entC P = 0) && !decide (P.right = 0)) && belowB tt (decN P.high).1.1) := rfl;have hl : hitsL P fr tt = (entL P).filter (insideB fr tt) := rfl;have hpo : ∀ (x : Ending) (w' : World), HitsCap P fr tt w_ x w' ↔ (∃ a c, x = .returned (.tuple #[.slice a (hitsL P fr tt).length c, .bool (hitsM P tt), .int .i64 (entC P)]) /\ (EnsS w' (.slice a (hitsL P fr tt).length c) (hitsL P fr tt) /\ (hitsL P fr tt).length <= c) /\ Below w_.heap.size w_ w') := fun _ _ => Iff.rfl
 have hin2 : ∀ gk gp gs, insideB fr tt (gk, gp, gs) = (!Op.bytesLess gk fr && belowB tt gk) := fun _ _ _ => rfl
 generalize insideB fr tt = f at *;generalize hitsM P tt = M at *;generalize hitsL P fr tt = Y at *;generalize entL P = L at *;generalize entC P = C at *;generalize decN P.high = D at *;obtain ⟨⟨dk, dp, ds⟩, dc⟩ := D;dsimp only at hm hde;unfold pgV at hen;unfold enV at hde;dsimp only at hde;obtain ⟨w0, hw0⟩ : ∃ w0, w0 = (w_.alloc (.cells (pgCells P iv).toArray 28)).alloc (.cells #[.string (str tt)] 9) := ⟨_, rfl⟩;have hg0 : Grow w_ w0 := by subst hw0; exact ((Grow.refl w_).alloc _).alloc _
 have hP0 : Blk w0 w_.heap.size 28 (pgCells P iv) := by
  have := (Blk.new w_ 28 (pgCells P iv)).alloc (.cells #[.string (str tt)] 9);subst hw0; exact this
 have hT0 : Blk w0 (w_.heap.size + 1) 9 [.string (str tt)] := by
  have := Blk.new (w_.alloc (.cells (pgCells P iv).toArray 28)) 9 [.string (str tt)];have e : (w_.alloc (.cells (pgCells P iv).toArray 28)).heap.size = w_.heap.size + 1 := by simp
  rw [e] at this;subst hw0; exact this
 have HEn := keep hen;have HDe := keep hde;have HPo := keep hpo;have HIn2 := keep hin2;have HM := keep hm;have HL := keep hl;have HP0 := keep hP0;have HT0 := keep hT0;have HG0 := keep hg0;clear hen hde hpo hin2 hm hl hin hT0 hg0;unfold pgCells at hw0 hP0;obtain ⟨p0, p1, p2, p3, p4, p5, _⟩ := pgres hP0;clear hP0;unfold pgV;go_enter Tryz.func197, Tryz.ntmps197;go_upto_region 1 with fail;rw [<- hw0];clear hw0;go_wp2_with fail;refine (HEn.out w0 HG0.out).mono ?_;rintro x w1 ⟨a, c, rfl, hes, hb1⟩;have HG1 := keep hb1;have HEs := keep hes;clear p0 p1 p2 p3 p4 p5 hb1 hes HEn;rcases hfa with ⟨rfl, rfl, _⟩ | ⟨rfl, _, _, h255⟩
 ·go_wp2_with fail;go_ret3;refine (HPo.out _ _).2 ⟨none, 0, ?_, ?_, Grow.trans HG0.out HG1.out⟩
  ·rw [HM.out, HL.out]; rfl
  ·rw [HL.out]; exact ⟨.inl ⟨rfl, rfl, _, _, rfl⟩, Nat.le_refl _⟩
 ·go_wp2_with fail;go_loopw [12, 28] (fun x i wr => HitRel L f w1 x i wr) (fun _ i _ => L.length - (intOf i).toNat)
  case atStart => exact show HitRel L f w1 _ _ _ from ⟨0, none, 0, Nat.zero_le _, rfl, rfl, keep (World.ownsRow_nil _ _ _ _), keep (Below.refl _ _)⟩
  case round =>
   obtain ⟨m, ra, rc, hm, rfl, rfl, HR, HGr⟩ := hrel;have HG9 := keep (Grow.trans HG1.out HGr.out)
   by_cases hlt : m < L.length
   ·obtain ⟨ce, offe, cape, ee, hce⟩ := ens_at HEs.out hlt;simp only [Value.slice.injEq] at ee;obtain ⟨rfl, x1, x2⟩ := ee;have hst := filter_step f L hlt;obtain ⟨g, hgl⟩ : ∃ g, L[m] = g := ⟨_, rfl⟩;rw [hgl] at hce hst;obtain ⟨gk, gp, gs⟩ := g;rw [HIn2.out] at hst;have HSt := keep hst;obtain ⟨c0, c1, c2⟩ := hce wr HGr.out;have q2 : (m : Int) < (L.length : Int) := by omega
    have hfl : ((L.take m).filter f).length <= 255 := Nat.le_trans (List.length_filter_le _ _) (by rw [List.length_take]; omega);dsimp only at c0 c1 c2;clear hce x1 x2 hst hgl;generalize (L.take m).filter f = F at *;go_upto_region 9 with fail;obtain ⟨w5, hw5⟩ : ∃ w5, w5 = wr.alloc (.cells #[.string (str gk), .int .i64 gp, .int .i64 gs] 103) := ⟨_, rfl⟩;rw [<- hw5];have hg5 : Grow wr w5 := by subst hw5; exact (Grow.refl _).alloc _
    have hX5 : Blk w5 wr.heap.size 103 [.string (str gk), .int .i64 gp, .int .i64 gs] := by subst hw5; exact Blk.new wr _ [_, _, _]
    have HR5 := keep (HR.out.fits hg5);have HG5 := keep (Below.trans HGr.out (hg5.mono HGr.out.size));have HX5 := keep hX5;have hcT := (HT0.out.fits (Grow.trans HG9.out hg5)).cell 0 (by simp);have HCt := keep hcT;clear hw5 hg5 c0 c1 c2;obtain ⟨c0, c1, c2, _⟩ := enres hX5;clear hX5;cases hb : Op.bytesLess gk fr with
    | true =>
     have hb2 : Op.bytesLess (str gk).toList (str fr).toList = true := by rw [str_list, str_list]; exact hb
     have HSt2 := keep (show (L.take (m + 1)).filter f = F by rw [HSt.out, hb]; simp);clear hb hcT;go_wp2_with fail;go_roundw
     case rel => exact show HitRel L f w1 _ _ _ from ⟨m + 1, ra, rc, by omega, by rw [HSt2.out], by first | go_num | simp, by rw [HSt2.out]; exact HR5, HG5⟩
     case measure => simp [intOf]; omega
    | false =>
     have hb2 : Op.bytesLess (str gk).toList (str fr).toList = false := by rw [str_list, str_list]; exact hb
     have hst2 : (L.take (m + 1)).filter f = F ++ (if belowB tt gk then [(gk, gp, gs)] else []) := by rw [HSt.out, hb]; simp
     have HSt2 := keep hst2;have hbf := below_fn tt gk (w_.heap.size + 1) w5 HCt.out;clear hb hst2;generalize belowB tt gk = B at *;have HBf := keep hbf;clear hbf hcT;go_wp2_with fail;refine HBf.out.mono ?_;rintro x w6 ⟨rfl, hb6⟩;have HR6 := keep (HR5.out.fits hb6);have HG6 := keep (Below.trans HG5.out (hb6.mono HG5.out.size));have hX6 := HX5.out.fits hb6;clear c0 c1 c2 hb6 hb2;obtain ⟨c0, c1, c2, _⟩ := enres hX6;have hxl := hX6.lt;clear hX6;cases B with
     | false =>
      have HSt3 := keep (show (L.take (m + 1)).filter f = F by rw [HSt2.out]; simp);go_wp2_with fail;go_roundw
      case rel => exact show HitRel L f w1 _ _ _ from ⟨m + 1, ra, rc, by omega, by rw [HSt3.out], by first | go_num | simp, by rw [HSt3.out]; exact HR6, HG6⟩
      case measure => simp [intOf]; omega
     | true =>
      have HSt3 := keep (show (L.take (m + 1)).filter f = F ++ [(gk, gp, gs)] by rw [HSt2.out]; simp);have HS6 := keep HG6.out.size;go_wp2_with ((at_builtin; go_must (refine wpList_push_en rfl _ _ rfl w1.heap.size F (gk, gp, gs) _ _ rfl rfl (HR6.out.fits ((Grow.refl _).alloc _)) (en_mark _ gk gp gs) (by omega) (by have := HS6.out; simp; omega) (n := F.length + 1) rfl rfl ?_); intro ra' rc' w7 hr7 hb7; have HR7 := keep hr7; have HG7 := keep (Below.trans HG6.out (Below.trans (((Grow.refl _).alloc _).mono HS6.out) hb7)); clear hr7 hb7));go_roundw
      case rel => exact show HitRel L f w1 _ _ _ from ⟨m + 1, ra', rc', by omega, by rw [HSt3.out, List.length_append]; rfl, by first | go_num | simp, by rw [HSt3.out, List.length_append]; exact HR7, HG7⟩
      case measure => simp [intOf]; omega
   ·have e : m = L.length := by omega
    subst e;rw [List.take_length, <- HL.out] at HR;rw [List.take_length, <- HL.out];have hP9 := HP0.out.fits HG9.out;unfold pgCells at hP9;obtain ⟨p0, p1, p2, p3, p4, p5, _⟩ := pgres hP9;clear hP9
    by_cases hr : P.right = 0
    ·have HM2 := keep (show M = false by rw [HM.out, decide_eq_true hr]; simp);go_wp2_with fail;go_ret3;refine (HPo.out _ _).2 ⟨ra, rc, ?_, ⟨HR.out.ens, (owns_capd HR.out : Capd _)⟩, Grow.trans HG0.out HG9.out⟩;rw [HM2.out]
     rfl
    ·have hm2 : M = belowB tt dk := by rw [HM.out, decide_eq_false hr]; simp
     have hbf := fun (u : World) (hu : Grow w0 u) => below_fn tt dk (w_.heap.size + 1) u ((HT0.out.fits hu).cell 0 (by simp))
     rw [<- hm2] at hbf;have HBf := keep hbf;clear hbf hm2;go_wp2_with fail;refine (HDe.out wr).mono ?_;rintro x w6 ⟨rfl, hb6⟩;clear p0 p1 p2 p3 p4 p5 hr;go_upto_region 15 with fail;obtain ⟨w7, hw7⟩ : ∃ w7, w7 = w6.alloc (.cells #[.string (str dk), .int .i64 dp, .int .i64 ds] 103) := ⟨_, rfl⟩;rw [<- hw7];have hg7 : Grow wr w7 := by subst hw7; exact Grow.alloc hb6 _
     have hX7 : Blk w7 w6.heap.size 103 [.string (str dk), .int .i64 dp, .int .i64 ds] := by subst hw7; exact Blk.new w6 _ [_, _, _]
     have HG7 := keep (Grow.trans HG9.out hg7);have HR7 := keep (HR.out.fits hg7);clear hw7 hg7 hb6;obtain ⟨c0, c1, c2, _⟩ := enres hX7;clear hX7;go_wp2_with fail;refine (HBf.out w7 HG7.out).mono ?_;rintro x w8 ⟨rfl, hb8⟩;go_wp2_with fail;go_ret3;exact (HPo.out _ _).2 ⟨ra, rc, rfl, ⟨(HR7.out.fits hb8).ens, (owns_capd (HR7.out.fits hb8) : Capd _)⟩, Grow.trans HG0.out (Grow.trans HG7.out hb8)⟩
end Go.Proofs.YtcdapdcablnhpaaGreat
namespace Go.Proofs.YtcdapdcablnhpaaGreat
open Go.RowKit
def IsC (C cs : List Value) (_ : World) : Prop := cs = C
theorem isC_lasts (C : List Value) (t : Nat) : Lasts t (IsC C) := fun _ _ _ _ h => h
theorem fill_sixteen {N b : Nat} {C : List Value} {u v : World} (h : Fill N 71 (IsC C) u v) (hb : ∃ cs : List Value, cs.length = 16 /\ Blk u b 71 cs) : ∃ cs : List Value, cs.length = 16 /\ Blk v b 71 cs := by
 obtain ⟨cs, h1, h2⟩ := hb;obtain ⟨cs', h3, h4⟩ := h.some h2;exact ⟨cs', h3.trans h1, h4⟩
theorem isC_stays {N b : Nat} {C : List Value} {u v : World} (h : Fill N 71 (IsC C) u v) (hb : Blk u b 71 C) : Blk v b 71 C := by
 rcases h.page b C hb with h1 | ⟨cs', _, h2, h1⟩
 ·exact h1
 ·rw [show cs' = C from h2] at h1; exact h1
theorem len16 {l : List Value} (h : l.length = 16) : ∃ a0 a1 a2 a3 a4 a5 a6 a7 a8 a9 a10 a11 a12 a13 a14 a15, l = [a0, a1, a2, a3, a4, a5, a6, a7, a8, a9, a10, a11, a12, a13, a14, a15] := by
 match l, h with
 | [a0, a1, a2, a3, a4, a5, a6, a7, a8, a9, a10, a11, a12, a13, a14, a15], _ => exact ⟨a0, a1, a2, a3, a4, a5, a6, a7, a8, a9, a10, a11, a12, a13, a14, a15, rfl⟩
end Go.Proofs.YtcdapdcablnhpaaGreat
