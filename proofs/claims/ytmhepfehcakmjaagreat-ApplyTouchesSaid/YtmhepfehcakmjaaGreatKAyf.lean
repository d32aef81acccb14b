import Derived.Test.YtmhepfehcakmjaaGreatKAyb
import Derived.Test.YtmhepfehcakmjaaGreatKAyc
import Derived.Test.YtmhepfehcakmjaaGreatKSp2
namespace Go.Proofs.YtmhepfehcakmjaaGreat
open Go.RowKit
attribute [local go_sem] givesV lookV knAt hgs
def onV (P : Pg) (iv : Value) (n : Int) : Value := .agg #[.int .i64 P.lsn, .int .i64 P.kind, .int .i64 P.level, .int .i64 P.right, .string (str P.high), iv, .int .i64 n]
theorem pgS_same {P : Pg} (h : PgS P) : (P.items.length : Int) <= 140737488355328 := by have := h.2.2.1; omega
theorem rc_pgS {w : World} {R : Rc} {V : RcV} (h : RcIn w R V) : ∀ x ∈ R.images, PgS x.body := fun x hx => pgS_of (h.each x hx).1 (h.each x hx).2
theorem two_new (T1 T2 : Nat) (c1 c2 : List Value) (w_ w0 : World) (h : w0 = (w_.alloc (.cells c1.toArray T1)).alloc (.cells c2.toArray T2)) : Grow w_ w0 /\ Blk w0 w_.heap.size T1 c1 /\ Blk w0 (w_.heap.size + 1) T2 c2 := by
 refine ⟨?_, ?_, ?_⟩
 ·subst h; exact ((Grow.refl w_).alloc _).alloc _
 ·subst h; exact (Blk.new w_ _ _).alloc _
 ·have := Blk.new (w_.alloc (.cells c1.toArray T1)) T2 c2;have e9 : (w_.alloc (.cells c1.toArray T1)).heap.size = w_.heap.size + 1 := by simp
  rw [e9] at this;subst h; exact this
theorem compactUp_spec (d : Array Int) (hs : ∀ i, i + 1 < d.size -> d[i]! <= d[i + 1]!) : ∀ m, m <= d.size -> (Lib.compactUpTo d m).Pairwise (· < ·) /\ (∀ x, x ∈ Lib.compactUpTo d m ↔ ∃ i, i < m /\ d[i]! = x) /\ (0 < m -> ∀ x ∈ Lib.compactUpTo d m, x <= d[m - 1]!) := by
 intro m
 induction m with
 | zero => exact fun _ => ⟨by simp [Lib.compactUpTo], by simp [Lib.compactUpTo], fun h => absurd h (by omega)⟩
 | succ m ih =>
  intro hm;obtain ⟨h1, h2, h3⟩ := ih (by omega);rw [Lib.compactUpTo_succ]
  by_cases hk : Lib.keeps d m = true
  ·rw [if_pos hk];have hlt : ∀ x ∈ Lib.compactUpTo d m, x < d[m]! := by
    intro x hx;rcases Nat.eq_zero_or_pos m with h0 | h0
    ·subst h0; simp [Lib.compactUpTo] at hx
    ·have h4 := h3 h0 x hx;have h5 := hs (m - 1) (by omega);rw [show m - 1 + 1 = m by omega] at h5;simp only [Lib.keeps, decide_eq_true_eq] at hk;rcases hk with hk | hk
     ·omega
     ·omega
   refine ⟨List.pairwise_append.2 ⟨h1, by simp, fun x hx y hy => ?_⟩, fun x => ?_, fun _ x hx => ?_⟩
   ·have : y = d[m]! := by simpa using hy
    rw [this]; exact hlt x hx
   ·rw [List.mem_append, h2]
    constructor
    ·rintro (⟨i, hi, e⟩ | hx)
     ·exact ⟨i, by omega, e⟩
     ·exact ⟨m, by omega, by have h9 : x = d[m]! := by simpa using hx
                             exact h9.symm⟩
    ·rintro ⟨i, hi, e⟩
     by_cases he : i = m
     ·subst he; exact .inr (by simp [e])
     ·exact .inl ⟨i, by omega, e⟩
   ·rw [Nat.add_sub_cancel];rcases List.mem_append.1 hx with hx | hx
    ·exact Int.le_of_lt (hlt x hx)
    ·have : x = d[m]! := by simpa using hx
     rw [this]; exact Int.le_refl _
  ·rw [if_neg hk, List.append_nil];simp only [Lib.keeps, decide_eq_true_eq, not_or, Decidable.not_not] at hk;obtain ⟨k0, k1⟩ := hk;refine ⟨h1, fun x => ?_, fun _ x hx => ?_⟩
   ·rw [h2]
    constructor
    ·rintro ⟨i, hi, e⟩; exact ⟨i, by omega, e⟩
    ·rintro ⟨i, hi, e⟩
     by_cases he : i = m
     ·subst he; exact ⟨i - 1, by omega, by rw [<- k1]; exact e⟩
     ·exact ⟨i, by omega, e⟩
   ·rw [Nat.add_sub_cancel, k1];exact h3 (by omega) x hx
theorem compact_spec (Z : List Int) (hs : Z.Pairwise (· <= ·)) : (Lib.compact Z).Pairwise (· < ·) /\ ∀ x, x ∈ Lib.compact Z ↔ x ∈ Z := by
 obtain ⟨h1, h2, -⟩ := compactUp_spec Z.toArray (fun i hi => by
  have hi' : i + 1 < Z.length := by simpa using hi
  rw [getD_list Z i (by omega), getD_list Z (i + 1) hi']
  exact List.pairwise_iff_getElem.1 hs i (i + 1) (by omega) hi' (by omega)) Z.length (by simp)
 refine ⟨h1, fun x => ?_⟩;unfold Lib.compact;rw [h2, List.mem_iff_getElem]
 constructor
 ·rintro ⟨i, hi, e⟩; exact ⟨i, hi, by rw [<- e, getD_list Z i hi]⟩
 ·rintro ⟨i, hi, e⟩; exact ⟨i, hi, by rw [getD_list Z i hi, e]⟩
theorem touchL_spec (R : Rc) : (touchL R).Pairwise (· < ·) /\ ∀ x, x ∈ touchL R ↔ x ∈ rawT R := by
 unfold touchL;have hs : ((rawT R).mergeSort fun x y => decide (x <= y)).Pairwise (· <= ·) := by
  have := List.pairwise_mergeSort (le := fun x y : Int => decide (x <= y)) (fun a b c h1 h2 => by simp at *; omega) (fun a b => by simp; omega) (rawT R);exact this.imp (fun h => by simpa using h)
 obtain ⟨h1, h2⟩ := compact_spec _ hs;exact ⟨h1, fun x => by rw [h2]; exact List.mem_mergeSort⟩
theorem do_apart (m : Int) (P : Pg) (n : Int) (R : Rc) (h : n ∉ touchL R) : doN m P n R = (P, 0) := by
 rw [(touchL_spec R).2] at h;unfold rawT at h;simp only [List.mem_append, not_or] at h;obtain ⟨h1, h2⟩ := h;have hf : R.images.find? (fun x => x.page == n) = none := by
  rw [List.find?_eq_none];intro x hx he;exact h1 (List.mem_map.2 ⟨x, hx, by simpa using he⟩)
 unfold doN;rw [hf];dsimp only;rw [if_pos]
 by_cases hd : hasDeed R.kind = true
 ·rw [if_pos hd] at h2;exact .inr (.inr (by simpa using h2))
 ·exact .inl (by simpa using hd)
theorem do_later (m : Int) (P : Pg) (n : Int) (R : Rc) (h : n ∈ touchL R) (h0 : (doN m P n R).2 = 0) : R.lsn <= (doN m P n R).1.lsn := by
 rw [(touchL_spec R).2] at h;unfold rawT at h;unfold doN at h0 ⊢;cases hf : R.images.find? (fun x => x.page == n) with
 | some x => exact Int.le_refl _
 | none =>
  rw [hf] at h0;dsimp only at h0 ⊢;have h2 : n ∈ (if hasDeed R.kind = true then [R.page] else []) := by
   rcases List.mem_append.1 h with h | h
   ·obtain ⟨x, hx, e⟩ := List.mem_map.1 h;have := List.find?_eq_none.1 hf x hx;simp [e] at this
   ·exact h
  by_cases hd : hasDeed R.kind = true
  ·rw [if_pos hd] at h2;have hn : n = R.page := by simpa using h2
   by_cases hA : R.lsn <= P.lsn
   ·rw [if_pos (.inr (.inl hA))]; exact hA
   ·rw [if_neg (fun h => h.elim (fun h => by rw [hd] at h; cases h) fun h => h.elim hA fun h => h hn)] at h0 ⊢
    by_cases h3 : (deedN m P R).2 ≠ 0
    ·rw [if_pos h3] at h0;exact absurd h0 h3
    ·rw [if_neg h3]; exact Int.le_refl _
  ·rw [if_neg hd] at h2;cases h2
def ToRel (n : Int) (l : List Int) (w1 : World) (x i : Value) (wr : World) : Prop := ∃ (k : Nat) (b : Bool), k <= l.length /\ x = .bool b /\ i = .int .i64 k /\ Kept (b = true ↔ n ∈ l.take k) /\ Kept (Grow w1 wr)
set_option maxRecDepth 100000 in
set_option maxHeartbeats 8000000 in
theorem touches_law (m : Int) (P : Pg) (iv : Value) (n : Int) (R : Rc) (V : RcV) (w_ : World) (hin : PgIn w_ iv P) (hl : P.items.length <= 8796093021952) (hr : RcIn w_ R V) (hrl : R.lsn <= 9223372036854775807) :
  Calls Tryz.prog 5 #[.int .i64 m, onV P iv n, rcV R V] w_ fun x w' => x = .returned (.bool true) /\ Below w_.heap.size w_ w' := by
 obtain ⟨ia, ic, rfl⟩ := items_form hin.1;obtain ⟨w0, hw0⟩ : ∃ w0, w0 = (w_.alloc (.cells (List.toArray [.int .i64 P.lsn, .int .i64 P.kind, .int .i64 P.level, .int .i64 P.right, .string (str P.high), .slice ia P.items.length ic, .int .i64 n]) 26)).alloc (.cells (rcC R V).toArray 33) := ⟨_, rfl⟩;obtain ⟨hg0, hO0, hC0⟩ := two_new _ _ _ _ w_ w0 hw0;have hgd := gd_do m P n R (pgS_of hin hl) (rc_pgS hr) hrl;have hap := do_apart m P n R;have hlt9 := do_later m P n R;have hca := fun (u : World) (hu : Grow w_ u) => do_any m P (.slice ia P.items.length ic) n R V u (hin.fits hu) hl (hr.fits hu)
 have hto := touches_any R V w0 (hr.fits hg0);have htl : (touchL R).length <= R.images.length + 1 := by
  have h1 := Lib.compact_length_le ((rawT R).mergeSort fun x y => decide (x <= y));rw [List.length_mergeSort] at h1;have h2 : (rawT R).length <= R.images.length + 1 := by unfold rawT; split <;> simp
  unfold touchL;omega
 have hsp := (touchL_spec R).1;have htb : ((touchL R).length : Int) <= 17592186043905 := by have := hr.imgl; omega
 generalize touchL R = L at *;generalize hA : doN m P n R = A at *;obtain ⟨A1, A2⟩ := A;dsimp only at hgd hap hlt9 hca;unfold Gd at hgd;dsimp only at hgd;unfold CpgPost pgV rcV at hca;unfold rcV at hto;have HCa := keep hca;have HGd := keep hgd;have HAp := keep hap;have HLa := keep hlt9;have HTo := keep hto;have HSp := keep hsp;have HTb := keep htb;have HS := keep (pgS_of hin hl);have HIn := keep hin;have HG0 := keep hg0;have HRb := keep hC0;have HOb := keep hO0;unfold rcC at HRb hw0
 have HOc := keep (fun (u : World) (hu : Grow w0 u) => (show (u.cell? ⟨w_.heap.size, 0, none⟩ = some (.int .i64 P.lsn) /\ u.cell? ⟨w_.heap.size, 1, none⟩ = some (.int .i64 P.kind) /\ u.cell? ⟨w_.heap.size, 2, none⟩ = some (.int .i64 P.level) /\ u.cell? ⟨w_.heap.size, 3, none⟩ = some (.int .i64 P.right) /\ u.cell? ⟨w_.heap.size, 4, none⟩ = some (.string (str P.high)) /\ u.cell? ⟨w_.heap.size, 5, none⟩ = some (.slice ia P.items.length ic) /\ u.cell? ⟨w_.heap.size, 6, none⟩ = some (.int .i64 n)) from
  ⟨(hO0.fits hu).cell 0 (by simp), (hO0.fits hu).cell 1 (by simp), (hO0.fits hu).cell 2 (by simp), (hO0.fits hu).cell 3 (by simp), (hO0.fits hu).cell 4 (by simp), (hO0.fits hu).cell 5 (by simp), (hO0.fits hu).cell 6 (by simp)⟩))
 clear hgd hap hlt9 hca hr hg0 hC0 hO0 hin hl hA hrl hto hsp htl htb;unfold onV rcV;go_enter Tryz.func5, Tryz.ntmps5;go_upto_region 1 with fail;rw [<- hw0];clear hw0;go_wp2_with (refine wpList_load_box sizeRecord underRec (by kernel_rfl) rfl _ rfl (w_.heap.size + 1) rfl HRb.out rfl ?_);refine HTo.out.mono ?_;rintro y w1 ⟨lv, rfl, hi1, hb1⟩;obtain ⟨la, lc, rfl, -⟩ := ints_form hi1;have HI := keep hi1;have HG1 := keep (show Grow w0 w1 from hb1);clear hi1 hb1 HTo;go_wp2_with fail;go_loopw [8, 9] (fun x i wr => ToRel n L w1 x i wr) (fun _ i _ => L.length - (intOf i).toNat)
 case atStart => exact show ToRel _ _ _ _ _ _ from ⟨0, false, Nat.zero_le _, rfl, rfl, keep (by simp), keep (Grow.refl _)⟩
 case round =>
  obtain ⟨k, b, hk, rfl, rfl, HB, HG⟩ := hrel
  by_cases hlt2 : k < L.length
  ·obtain ⟨c, off, cap, e5, hcc⟩ := ints_at HI.out hlt2;simp only [Value.slice.injEq] at e5;obtain ⟨rfl, -, rfl⟩ := e5;have HCc := keep hcc;have htk : n ∈ L.take (k + 1) ↔ (n ∈ L.take k \/ L[k] = n) := by rw [List.take_succ_eq_append_getElem hlt2, List.mem_append, List.mem_singleton, eq_comm (a := n)]
   have hprev : ∀ j, (hj : j + 1 = k) -> decide (L[k] <= L[j]'(by omega)) = false := fun j hj => decide_eq_false (by have := List.pairwise_iff_getElem.1 HSp.out j k (by omega) hlt2 (by omega); omega)
   have HTk := keep htk;have HPv := keep hprev;have HLt := keep hlt2;have q0 := hcc wr HG.out;obtain ⟨-, -, -, -, -, -, o6⟩ := HOc.out wr (Grow.trans HG1.out HG.out);generalize hx : L[k] = x at *;have HX := keep hx;clear hcc htk hprev hx;obtain ⟨bx, hbx⟩ : ∃ bx, (x == n) = bx := ⟨_, rfl⟩;go_upto_region 6 with fail;have hstep : ((b || bx) = true ↔ n ∈ L.take (k + 1)) := by rw [HTk.out, <- HB.out, <- hbx, Bool.or_eq_true, beq_iff_eq]
   have HSt := keep hstep;clear hstep;go_cut [8] from 20 to 29 (fun s8 wx => s8 = .bool (b || bx) /\ Grow wr wx)
   case first =>
    cases b with
    | true =>
     go_quiet (fail);go_wp2_with fail;go_meet
     case rel => exact ⟨rfl, below_drewN (Grow.refl _) _⟩
    | false =>
     go_quiet (fail);go_wp2_with fail;go_meet
     case rel => exact ⟨rfl, below_drewN (Grow.refl _) _⟩
   case rest =>
    obtain ⟨rfl, hgc⟩ := hcut;have HG2 := keep (Grow.trans HG.out hgc);generalize (b || bx) = b2 at *;clear hgc q0 o6 hbx HTk HB;have q0 := HCc.out wc HG2.out;go_upto_region 7 with fail;go_cut [43] from 30 to 43 (fun s43 wx => s43 = .bool false /\ Grow wc wx)
    case first =>
     rcases Nat.eq_zero_or_pos k with h0 | h0
     ·subst h0;go_quiet (fail);go_wp2_with fail;go_meet
      case rel => exact ⟨rfl, below_drewN (Grow.refl _) _⟩
     ·obtain ⟨j, hkj⟩ : ∃ j, k = j + 1 := ⟨k - 1, by omega⟩;have hj : j < L.length := by omega
      obtain ⟨c', off', cap', e5', hcc'⟩ := ints_at HI.out hj;simp only [Value.slice.injEq, Option.some.injEq, Addr.mk.injEq] at e5';obtain ⟨⟨rfl, rfl, -⟩, -, rfl⟩ := e5';have q1 := hcc' wc HG2.out;have hd := HPv.out j hkj.symm;have ep : decide ((0 : Int) < (k : Int)) = true := decide_eq_true (by omega);have ep2 : decide (0 < k) = true := decide_eq_true (by omega);have ew : wrap64 ((k : Int) - 1) = (j : Int) := by have := HTb.out; unfold wrap64; omega
      generalize L[j] = y at *;clear hkj;clear hcc' HPv HX h0;go_quiet (fail);go_wp2_with fail;go_meet
      case rel => exact ⟨rfl, below_drewN (Grow.refl _) _⟩
    case rest =>
     obtain ⟨rfl, hgc⟩ := hcut;have HG3 := keep (Grow.trans HG2.out hgc);clear hgc q0;have ew : wrap64 ((k : Int) + 1) = (k : Int) + 1 := by have h1 := HLt.out; have h2 := HTb.out; unfold wrap64; omega
     go_wp2_with fail;go_roundw
     case rel => exact show ToRel _ _ _ _ _ _ from ⟨k + 1, b2, by have := HLt.out; omega, rfl, by rw [ew]; rfl, HSt, HG3⟩
     case measure => have := HLt.out; rw [ew]; simp [intOf]; omega
  ·have he : k = L.length := by omega
   subst he;have hb := HB.out;rw [List.take_length] at hb;have HB2 := keep hb;have HGw := keep (Grow.trans HG1.out HG.out);obtain ⟨o0, o1, o2, o3, o4, o5, o6⟩ := HOc.out wr HGw.out;have HRbw := keep (HRb.out.fits HGw.out);have HCall := keep (HCa.out wr (Grow.trans HG0.out HGw.out));clear hb HB hlt2 hk HG;go_wp2_with (refine wpList_load_box sizeRecord underRec (by kernel_rfl) rfl _ rfl (w_.heap.size + 1) rfl HRbw.out rfl ?_);refine HCall.out.mono ?_;rintro y w2 ⟨jv, rfl, hj, hb2⟩;obtain ⟨ja, jc, rfl⟩ := itemsS_form hj;have HJ2 := keep hj;have HGw2 := keep (show Grow w_ w2 from Grow.trans HG0.out (Grow.trans HGw.out hb2));have HRb2 := keep (HRbw.out.fits hb2);have HOb2 := keep (fun (u : World) (hu : Grow w2 u) => HOc.out u (Grow.trans HGw.out (Grow.trans hb2 hu)));clear hj hb2 HCall o0 o1 o2 o3 o4 o5 o6;go_upto_region 10 with fail;obtain ⟨w3, hw3⟩ : ∃ w3, w3 = w2.alloc (.cells #[.int .i64 A1.lsn, .int .i64 A1.kind, .int .i64 A1.level, .int .i64 A1.right, .string (str A1.high), .slice ja A1.items.length jc] 24) := ⟨_, rfl⟩;rw [<- hw3];have hgw3 : Grow w2 w3 := by subst hw3; exact (Grow.refl _).alloc _
   have hBw3 : Blk w3 w2.heap.size 24 (pgCells A1 (.slice ja A1.items.length jc)) := by subst hw3; exact Blk.new w2 _ [_, _, _, _, _, _]
   have HA3 := keep hBw3;obtain ⟨b2, hb2⟩ : ∃ b, b = w2.heap.size := ⟨_, rfl⟩;rw [<- hb2] at HA3;rw [<- hb2];have hgeb2 : w2.heap.size <= b2 := Nat.le_of_eq hb2.symm;clear hw3 hBw3 hb2;have HGw3 := keep (Grow.trans HGw2.out hgw3);have HRb3 := keep (HRb2.out.fits hgw3);have HJ3 := keep (RowS.fits HJ2.out hgw3);have HOb3 := keep (fun (u : World) (hu : Grow w3 u) => HOb2.out u (Grow.trans hgw3 hu));clear hgw3;have ha3 := HA3.out;unfold pgCells at ha3;obtain ⟨p0, p1, p2, p3, p4, p5, _⟩ := pgres ha3;obtain ⟨o0, o1, o2, o3, o4, o5, o6⟩ := HOb3.out w3 (Grow.refl _);clear ha3;cases b with
   | false =>
    have hno : n ∉ L := fun h => by have := HB2.out.2 h; cases this
    have hA := HAp.out hno;simp only [Prod.mk.injEq] at hA;obtain ⟨rfl, rfl⟩ := hA;have HSm := keep (same_self A1 (.slice ja A1.items.length jc) (.slice ia A1.items.length ic) w3 HJ3.out.weak (Row.fits HIn.out.1 HGw3.out) (pgS_same HS.out));unfold pgV at HSm;clear hno;go_wp2_with fail;refine HSm.out.mono ?_;rintro y w4 ⟨rfl, hb4⟩;have HGw4 := keep (Grow.trans HGw3.out hb4);clear hb4 HSm p0 p1 p2 p3 p4 p5 o0 o1 o2 o3 o4 o5 o6;go_wp2_with fail;refine (awake16_any _).mono ?_;rintro y wz ⟨rfl, hbz⟩;have HGz := keep (Grow.trans HGw4.out hbz);clear hbz;go_wp2_with fail;go_ret;exact ⟨rfl, HGz.out⟩
   | true =>
    have hyes : n ∈ L := HB2.out.1 rfl;obtain ⟨⟨c0, c1, c2, c3, c4, c5, c6, c7, c8, c9, c10, c11, c12, c13, c14, c15⟩, _⟩ := recres HRb3.out
    by_cases hc : A2 = 0
    ·subst hc;have hle : decide (R.lsn <= A1.lsn) = true := decide_eq_true (HLa.out hyes rfl);clear hyes;go_wp2_with fail;refine (awake16_any _).mono ?_;rintro y wz ⟨rfl, hbz⟩;have HGz := keep (Grow.trans HGw3.out hbz);clear hbz;go_wp2_with fail;go_ret;exact ⟨rfl, HGz.out⟩
    ·have e1 : (A2 != 0) = true := by simp [hc]
     clear hc hyes;go_wp2_with fail;refine (awake16_any _).mono ?_;rintro y wz ⟨rfl, hbz⟩;have HGz := keep (Grow.trans HGw3.out hbz);clear hbz;go_wp2_with fail;go_ret;exact ⟨rfl, HGz.out⟩
end Go.Proofs.YtmhepfehcakmjaaGreat
