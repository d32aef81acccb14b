import Derived.Test.YtaninphcgeaepaaKFe2
import Derived.Test.YtaninphcgeaepaaKBl11
import Derived.Test.YtaninphcgeaepaaKLexr
import Derived.Laws.OwnMore
import Derived.Deep.CutRange
namespace Go.Proofs.Ytaninphcgeaepaa
open Go.RowKit
variable {F : List Pg} {I : Int → Option Nv} {top : Int} {q : Nat} {v : Nv} {e : En} {lv r : Int} {ks : Ks} {h : Option En} {bs fr : Nat} {w w' : World} {D : Fr} {m : Nat} {iv : Value}
structure Fst (bs fr : Nat) (w : World) (D : Fr) (I : Int → Option Nv) (top : Int) (q : Nat) : Prop where
 tab : ForT bs w fr D
 fo : Fo (pgD D) I top q
 low : bs ≤ w.heap.size
theorem Fst.fits (H : Fst bs fr w D I top q) (g : Grow w w') : Fst bs fr w' D I top q := ⟨H.tab.fits g, H.fo, Nat.le_trans H.low g.size⟩
theorem Fst.but {c t : Nat} {cs : List Value} (H : Fst bs fr w D I top q) (hb : Blk w c t cs) (h1 : t ≠ 31) (h2 : t ≠ 27) (h3 : t ≠ 9) (k : But c w w') : Fst bs fr w' D I top q := ⟨H.tab.but hb h1 h2 h3 k, H.fo, Nat.le_trans H.low k.size⟩
structure At (D : Fr) (I : Int → Option Nv) (e : En) (m : Nat) (v : Nv) (iv : Value) : Prop where
 here : I (m : Int) = some v
 lv : v.lv = 0
 rng : inR v.lo v.hi e
 one : 1 ≤ m
 pg : ∃ hm : m < D.length, D[m] = (nodeP 0 v.ks v.nx v.hi, iv)
 ok : NodeOk 0 v.ks v.nx v.hi
 found : findF (pgD D) 0 e 10000 1 = (m : Int)
theorem Fst.at (H : Fst bs fr w D I top q) (he : enOk e = true) (hq : q ≤ 19000) : ∃ m v iv, At D I e m v iv := by
 obtain ⟨v, hv, hvl, hR⟩ := find_root H.fo ⟨Int.le_refl 0, H.fo.top_nn⟩ he hq
 obtain ⟨hn1, hn2, hn3, hok⟩ := H.fo.here _ _ hv
 obtain ⟨m, hm⟩ := Int.eq_ofNat_of_zero_le (show 0 ≤ findF (pgD D) 0 e 10000 1 by omega)
 rw [hm] at hv
 obtain ⟨h1, hmD, iv, hP⟩ := page_at H.fo hv
 rw [hvl] at hP hok
 exact ⟨m, v, iv, hv, hvl, hR, h1, ⟨hmD, hP⟩, hok, hm⟩
theorem At.lt (A : At D I e m v iv) : m < D.length := A.pg.1
theorem At.page (A : At D I e m v iv) : D[m]'A.lt = (nodeP 0 v.ks v.nx v.hi, iv) := A.pg.2
theorem Fst.mem (H : Fst bs fr w D I top q) (A : At D I e m v iv) (hx : Has I e) : e ∈ keysK v.ks := by
 obtain ⟨n, u, hu, h0, hk⟩ := hx
 have := H.fo.one hu A.here (by rw [h0, A.lv]) (H.fo.range hu h0 hk).2 A.rng
 subst this
 rw [A.here] at hu
 cases hu
 exact hk
theorem At.has (A : At D I e m v iv) (hx : e ∈ keysK v.ks) : Has I e := ⟨_, v, A.here, A.lv, hx⟩
theorem find_st (H : Fst bs fr w D I top q) (A : At D I e m v iv) : Calls Try.prog 9 #[.pointer (some ⟨fr, 0, none⟩), .int .i64 0, enV e] w fun x w' => x = .returned (.int .i64 (m : Int)) ∧ Below w.heap.size w w' := by
 have := finds_any bs fr D 0 e w H.tab
 rw [A.found] at this
 exact this
theorem At.comes (A : At D I e m v iv) (he : enOk e = true) : Comes 0 v.hi e 0 := comes_leaf he A.rng
def needK (m : Nat) (v : Nv) (e : En) : Int × Int := if e ∈ keysK v.ks then (0, 150) else if fitsP (nodeP 0 (insK v.ks (e, 0)) v.nx v.hi) then (0, 0) else if (m : Int) = 1 then (2, 0) else (1, 0)
theorem At.small (_A : At D I e m v iv) (he : enOk e = true) : ((enBytes e []).length : Int) ≤ 140737488355328 := by have := enBytes_31 he; omega
theorem need_st (H : Fst bs fr w D I top q) (A : At D I e m v iv) (he : enOk e = true) : Calls Try.prog 16 #[pgV (nodeP 0 v.ks v.nx v.hi) iv, .int .i64 (m : Int), .string (str (enBytes e []))] w fun x w' => x = .returned (.tuple #[.int .i64 (needK m v e).1, .int .i64 (needK m v e).2]) ∧ Below w.heap.size w w' := by
 have h1 := need_any (nodeP 0 v.ks v.nx v.hi) iv (m : Int) (enBytes e []) w (for_in H.tab A.lt A.page).1 (A.small he)
 have h2 := need_nd A.ok (A.comes he) (m : Int)
 rw [show itB 0 (e, 0) = enBytes e [] from rfl] at h2
 unfold NeedPost at h1
 rw [h2] at h1
 exact h1
theorem leaveN_nd (H : NodeOk 0 ks r h) : leaveN (nodeP 0 ks r h) e = if e ∈ keysK ks then (some (enBytes e []), 0) else (none, 150) := by
 unfold leaveN entriesOk
 rw [nd_open H, nd_ens H]
 rfl
theorem leave_yes (H : Fst bs fr w D I top q) (A : At D I e m v iv) (hx : e ∈ keysK v.ks) : Calls Try.prog 13 #[pgV (nodeP 0 v.ks v.nx v.hi) iv, .int .i64 (m : Int), enV e] w fun x w' => x = .returned (.tuple #[recV 4 (m : Int) (str (enBytes e [])), .int .i64 0]) ∧ Below w.heap.size w w' := by
 have h1 := leave_any (nodeP 0 v.ks v.nx v.hi) iv (m : Int) e w (for_in H.tab A.lt A.page).1
 unfold LeavePost at h1
 rw [leaveN_nd A.ok, if_pos hx] at h1
 exact h1
theorem leave_no (H : Fst bs fr w D I top q) (A : At D I e m v iv) (hx : e ∉ keysK v.ks) : Calls Try.prog 13 #[pgV (nodeP 0 v.ks v.nx v.hi) iv, .int .i64 (m : Int), enV e] w fun x w' => x = .returned (.tuple #[recV 0 0 ⟨#[]⟩, .int .i64 150]) ∧ Below w.heap.size w w' := by
 have h1 := leave_any (nodeP 0 v.ks v.nx v.hi) iv (m : Int) e w (for_in H.tab A.lt A.page).1
 unfold LeavePost at h1
 rw [leaveN_nd A.ok, if_neg hx] at h1
 exact h1
theorem out_st (H : Fst bs fr w D I top q) (A : At D I e m v iv) (he : enOk e = true) (hx : e ∈ keysK v.ks) :
  Calls Try.prog 14 #[.pointer (some ⟨fr, 0, none⟩), recV 4 (m : Int) (str (enBytes e []))] w fun x w' => x = .returned (.bool true) ∧ (∃ D', Fst bs fr w' D' (updI I m { v with ks := outK v.ks e }) top q) ∧ Fel bs w w' := by
 refine (does_one bs fr D 4 m (enBytes e []) (nodeP 0 (outK v.ks e) v.nx v.hi) w H.tab H.low A.one A.lt (by decide) (pgFine_nd (out_ok A.ok)) fun u hu => ?_).mono ?_
 ·rw [A.page]
  have h2 := changed_out (nodeP 0 v.ks v.nx v.hi) iv (m : Int) (enBytes e []) e u (for_in (H.tab.fits hu) A.lt A.page).1 (A.small he) (decN_of he)
  rw [rem_nd A.ok hx] at h2
  exact h2
 ·rintro x w' ⟨hx, ⟨iv', hD⟩, hfe⟩
  refine ⟨hx, ⟨_, hD, ?_, Nat.le_trans H.low hfe.low.size⟩, hfe⟩
  have := Fo.out (e := e) H.fo A.here A.lv
  rw [Int.toNat_natCast, show nodeP v.lv (outK v.ks e) v.nx v.hi = nodeP 0 (outK v.ks e) v.nx v.hi by rw [A.lv]] at this
  rw [pgD_set]
  exact this
theorem enter_st (H : Fst bs fr w D I top q) (he : enOk e = true) (hq : q ≤ 500) (told : Bool) :
  Calls Try.prog 8 #[.pointer (some ⟨fr, 0, none⟩), .int .i64 0, enV e, .string (str (enBytes e [])), .bool told] w fun x w' => x = .returned (.bool true) ∧ (∃ D' I' top' q', Fst bs fr w' D' I' top' q' ∧ q' ≤ q + 1 ∧ ∀ x, Has I' x ↔ Has I x ∨ x = e) ∧ Fel bs w w' := by
 refine (enters_leaf bs fr D I top q e told w H.tab H.low H.fo hq he).mono ?_
 rintro x w' ⟨hx, ⟨D', hD, I', top', q', hI, hq', hh⟩, hfe⟩
 exact ⟨hx, ⟨D', I', top', q', ⟨hD, hI, Nat.le_trans H.low hfe.low.size⟩, hq', fun x => by rw [hh]; simp⟩, hfe⟩
def I0 : Int → Option Nv := fun m => if m = 1 then some v0 else none
theorem first_st (bs : Nat) (w w' : World) (hb : bs ≤ w.heap.size) (h : w' = (w.alloc (.cells #[.int .i64 0, .int .i64 0, .int .i64 0, .int .i64 0, .string ⟨#[]⟩, .slice none 0 0, .int .i64 0, .int .i64 3, .int .i64 0, .int .i64 0, .string (str []), .slice none 0 0] 27)).alloc (.cells #[.slice (some ⟨w.heap.size, 0, none⟩) 2 2] 31)) :
  Fst bs (w.heap.size + 1) w' [(zeroP, .slice none 0 0), (leafP, .slice none 0 0)] I0 0 0 ∧ Grow w w' := by
 have hg : Grow w w' := by subst h; exact ((Grow.refl w).alloc _).alloc _
 refine ⟨⟨⟨by omega, ⟨.slice (some ⟨w.heap.size, 0, none⟩) 2 2, ?_, ?_⟩, ?_⟩, fo_first, Nat.le_trans hb hg.size⟩, hg⟩
 ·have := Blk.new (w.alloc (.cells #[.int .i64 0, .int .i64 0, .int .i64 0, .int .i64 0, .string ⟨#[]⟩, .slice none 0 0, .int .i64 0, .int .i64 3, .int .i64 0, .int .i64 0, .string (str []), .slice none 0 0] 27)) 31 [.slice (some ⟨w.heap.size, 0, none⟩) 2 2]
  have e : (w.alloc (.cells #[.int .i64 0, .int .i64 0, .int .i64 0, .int .i64 0, .string ⟨#[]⟩, .slice none 0 0, .int .i64 0, .int .i64 3, .int .i64 0, .int .i64 0, .string (str []), .slice none 0 0] 27)).heap.size = w.heap.size + 1 := by simp
  rw [e] at this
  subst h; exact this
 ·have := World.ownsRow_lit (base := bs) (e := 27) (size := 6) w #[.int .i64 0, .int .i64 0, .int .i64 0, .int .i64 0, .string ⟨#[]⟩, .slice none 0 0, .int .i64 0, .int .i64 3, .int .i64 0, .int .i64 0, .string (str []), .slice none 0 0] 2 hb (by decide) rfl
  have h2 := owns_fits this ((Grow.refl _).alloc (.cells #[.slice (some ⟨w.heap.size, 0, none⟩) 2 2] 31))
  subst h
  exact h2
 ·intro p hp
  simp only [List.mem_cons, List.not_mem_nil, or_false] at hp
  rcases hp with rfl | rfl
  ·exact ⟨ItemsC.nil _, zero_fine⟩
  ·exact ⟨ItemsC.nil _, pgFine_nd empty_ok⟩
end Go.Proofs.Ytaninphcgeaepaa
namespace Go.Proofs.Ytaninphcgeaepaa
open Go.RowKit
attribute [local go_sem] givesF_none givesF_some evalF_tmp evalF_const evalF_global evalF_func lookL isB_bool isB_undef givesUpon_value givesUpon_skip givesUpon_enter
def NdRel (bs fr n9 : Nat) (wB : World) (i : Value) (wr : World) : Prop := ∃ (n : Nat) (D : Fr) (I : Int → Option Nv) (top : Int) (q : Nat), n ≤ n9 ∧ n ≤ 200 ∧ i = .int .i64 n ∧ Kept (Fst bs fr wr D I top q) ∧ Kept (q ≤ n) ∧ Kept (Fel bs wB wr)
theorem encN_ok {e : En} (h : enOk e = true) : encN e = (enBytes e [], 0) := by unfold encN; rw [h]; rfl
theorem encN_no {e : En} (h : enOk e = false) : encN e = ([], 140) := by unfold encN; rw [h]; rfl
theorem for_box {bs fr : Nat} {w : World} {D : Fr} {I : Int → Option Nv} {top : Int} {q m : Nat} {v : Nv} {e : En} {iv : Value} (H : Fst bs fr w D I top q) (A : At D I e m v iv) {b : Nat} {x0 x1 x2 : Value} (hE : Blk w b 36 [x0, x1, x2]) : ∃ g cap, ∀ u, Grow w u →
  u.cell? ⟨fr, 0, none⟩ = some (.slice (some ⟨g, 0, none⟩) D.length cap) ∧ u.cell? ⟨g, m * 6, none⟩ = some (.int .i64 (nodeP 0 v.ks v.nx v.hi).lsn) ∧ u.cell? ⟨g, m * 6 + 1, none⟩ = some (.int .i64 (nodeP 0 v.ks v.nx v.hi).kind) ∧ u.cell? ⟨g, m * 6 + 2, none⟩ = some (.int .i64 (nodeP 0 v.ks v.nx v.hi).level) ∧ u.cell? ⟨g, m * 6 + 3, none⟩ = some (.int .i64 (nodeP 0 v.ks v.nx v.hi).right) ∧ u.cell? ⟨g, m * 6 + 4, none⟩ = some (.string (str (nodeP 0 v.ks v.nx v.hi).high)) ∧ u.cell? ⟨g, m * 6 + 5, none⟩ = some iv ∧
  u.cell? ⟨b, 0, none⟩ = some x0 ∧ u.cell? ⟨b, 1, none⟩ = some x1 ∧ u.cell? ⟨b, 2, none⟩ = some x2 := by
 obtain ⟨g, cap, hx⟩ := for_cells H.tab A.lt A.page
 refine ⟨g, cap, fun u hu => ?_⟩
 obtain ⟨h0, h1, h2, h3, h4, h5, h6⟩ := hx u hu
 obtain ⟨e0, e1, e2, _⟩ := enres (hE.fits hu)
 exact ⟨h0, h1, h2, h3, h4, h5, h6, e0, e1, e2⟩
set_option maxRecDepth 100000 in
set_option maxHeartbeats 8000000 in
theorem needs_any (l : List En) (va : Value) (e : En) (w_ : World) (hl : Row w_ 36 va l.length (eCells l)) :
  Calls Try.prog 5 #[va, enV e] w_ fun x w' => x = .returned (.bool true) ∧ Below w_.heap.size w_ w' := by
 obtain ⟨la, lc, rfl⟩ := en_form hl
 obtain ⟨ek, ep, es⟩ := e
 obtain ⟨w0, hw0⟩ : ∃ w0, w0 = w_.alloc (.cells #[.string (str ek), .int .i64 ep, .int .i64 es] 36) := ⟨_, rfl⟩
 have hg0 : Grow w_ w0 := by subst hw0; exact (Grow.refl w_).alloc _
 have hE0 : Blk w0 w_.heap.size 36 [.string (str ek), .int .i64 ep, .int .i64 es] := by subst hw0; exact Blk.new w_ _ [_, _, _]
 have HL := keep hl
 have HG0 := keep hg0
 have HE0 := keep hE0
 clear hl hg0 hE0
 unfold enV
 go_enter Try.func5, Try.ntmps5
 go_upto_region 1 with fail
 rw [← hw0]
 clear hw0
 go_wp2_with fail
 refine (leaf_any w0).mono ?_
 rintro x w1 ⟨rfl, hb1⟩
 unfold pgV leafP
 go_upto_block 0 with fail
 obtain ⟨w2, hw2⟩ : ∃ w2, w2 = (w1.alloc (.cells #[.int .i64 0, .int .i64 0, .int .i64 0, .int .i64 0, .string ⟨#[]⟩, .slice none 0 0, .int .i64 0, .int .i64 3, .int .i64 0, .int .i64 0, .string (str []), .slice none 0 0] 27)).alloc (.cells #[.slice (some ⟨w1.heap.size, 0, none⟩) 2 2] 31) := ⟨_, rfl⟩
 rw [← hw2]
 obtain ⟨hS2, hg2⟩ := first_st w_.heap.size w1 w2 (Grow.trans HG0.out hb1).size hw2
 have HS2 := keep hS2
 have HG2 := keep (Grow.trans HG0.out (Grow.trans hb1 hg2))
 have HE2 := keep (HE0.out.fits (Grow.trans hb1 hg2))
 generalize w1.heap.size + 1 = fr at *
 clear hw2 hS2 hb1 hg2 HE0 HG0
 go_cut [] from 6 to 54 (fun wx => ∃ (D : Fr) (I : Int → Option Nv) (top : Int) (q : Nat), Kept (Fst w_.heap.size fr wx D I top q) ∧ Kept (q ≤ 200) ∧ Kept (Fel w_.heap.size w2 wx))
 case first =>
  go_wp2_with fail
  go_loopw [6] (fun i wr => NdRel w_.heap.size fr l.length w2 i wr) (fun i _ => l.length - (intOf i).toNat)
  case atStart => exact show NdRel _ _ _ _ _ _ from ⟨0, _, _, _, _, Nat.zero_le _, by omega, rfl, HS2, keep (Nat.le_refl _), keep (Fel.refl _ _)⟩
  case round =>
   obtain ⟨n, D, I, top, q, hn1, hn2, rfl, HS, HQ, HF⟩ := hrel
   by_cases h1 : n < l.length
   ·by_cases h2 : n < 200
    ·obtain ⟨c1, off1, cap1, e1, hc1⟩ := en_at HL.out h1
     simp only [Value.slice.injEq] at e1
     obtain ⟨rfl, -, rfl⟩ := e1
     have hgr : Grow w_ wr := Below.trans HG2.out HF.out.low
     have henc := encode_any l[n] wr
     have hent := fun (u : World) (hu : Grow wr u) (he : enOk l[n] = true) => enter_st (HS.out.fits hu) he (by have := HQ.out; omega) true
     generalize l[n] = x at *
     obtain ⟨xk, xp, xs⟩ := x
     dsimp only at hc1
     have HC := keep (fun (u : World) (hu : Grow wr u) => hc1 u (Grow.trans hgr hu))
     obtain ⟨a0, a1, a2⟩ := HC.out wr (Grow.refl _)
     unfold enV at henc hent
     dsimp only at henc hent
     cases hok : enOk (xk, xp, xs) with
     | true =>
      rw [encN_ok hok] at henc
      have HEnc := keep henc
      have HEnt := keep (fun (u : World) (hu : Grow wr u) => hent u hu hok)
      clear hc1 hgr henc hent hok
      go_wp2_with fail
      refine HEnc.out.mono ?_
      rintro x w3 ⟨rfl, hb3⟩
      clear a0 a1 a2
      obtain ⟨a0, a1, a2⟩ := HC.out w3 hb3
      have HG3 := keep hb3
      clear hb3 HEnc
      go_wp2_with fail
      refine (HEnt.out w3 HG3.out).mono ?_
      rintro x w4 ⟨rfl, ⟨D', I', top', q', hS', hq', -⟩, hfe⟩
      have HS4 := keep hS'
      have HQ4 := keep (show q' ≤ n + 1 by have := HQ.out; omega)
      have HF4 := keep ((HF.out.trans (Fel.of_grow HS.out.low HG3.out)).trans hfe)
      clear hS' hq' hfe a0 a1 a2 HEnt
      go_wp2_with fail
      go_roundw
      case rel => exact show NdRel _ _ _ _ _ _ from ⟨n + 1, _, _, _, _, h1, by omega, by go_num, HS4, HQ4, HF4⟩
      case measure => simp [intOf]; omega
     | false =>
      rw [encN_no hok] at henc
      have HEnc := keep henc
      clear hc1 hgr henc hent hok
      go_wp2_with fail
      refine HEnc.out.mono ?_
      rintro x w3 ⟨rfl, hb3⟩
      have HG3 := keep hb3
      clear a0 a1 a2 hb3 HEnc
      go_wp2_with fail
      go_roundw
      case rel => exact show NdRel _ _ _ _ _ _ from ⟨n + 1, _, _, _, _, h1, by omega, by go_num, keep (HS.out.fits HG3.out), keep (by have := HQ.out; omega), keep (HF.out.trans (Fel.of_grow HS.out.low HG3.out))⟩
      case measure => simp [intOf]; omega
    ·go_wp2_with fail
     go_meet
     case rel => exact ⟨_, _, _, _, HS, keep (by have := HQ.out; omega), HF⟩
   ·go_wp2_with fail
    go_meet
    case rel => exact ⟨_, _, _, _, HS, keep (by have := HQ.out; omega), HF⟩
 case rest =>
 obtain ⟨D, I, top, q, HS, HQ, HF⟩ := hcut
 generalize wc = wA at *
 have HFA := keep ((Fel.of_grow (Nat.le_refl _) HG2.out).trans HF.out)
 have HEA := keep (HE2.out.fel HF.out (by decide) (by decide))
 clear HS2 HE2 HF HL HG2
 obtain ⟨e0, e1, e2, _⟩ := enres HEA.out
 have henc := encode_any (ek, ep, es) wA
 unfold enV at henc
 dsimp only at henc
 cases hok : enOk (ek, ep, es) with
 | false =>
  rw [encN_no hok] at henc
  have HEnc := keep henc
  clear henc hok
  go_wp2_with fail
  refine HEnc.out.mono ?_
  rintro x w3 ⟨rfl, hb3⟩
  have HG3 := keep hb3
  clear e0 e1 e2 hb3 HEnc
  go_wp2_with fail
  refine (awake15_any w3).mono ?_
  rintro x w4 ⟨rfl, hb4⟩
  go_wp2_with fail
  go_ret
  exact ⟨rfl, (HFA.out.low.trans (Grow.trans HG3.out hb4 |>.mono HS.out.low))⟩
 | true =>
  rw [encN_ok hok] at henc
  have HOk := keep hok
  have HEnc := keep henc
  clear henc hok
  go_wp2_with fail
  refine HEnc.out.mono ?_
  rintro x wB ⟨rfl, hbB⟩
  have HSB := keep (HS.out.fits hbB)
  have HFB := keep (HFA.out.trans (Fel.of_grow HS.out.low hbB))
  have HEB := keep (HEA.out.fits hbB)
  clear e0 e1 e2 hbB HEnc HS HFA HEA
  obtain ⟨e0, e1, e2, _⟩ := enres HEB.out
  obtain ⟨m, v, iv, hA⟩ := HSB.out.at HOk.out (by have := HQ.out; omega)
  have hfind := find_st HSB.out hA
  unfold enV at hfind
  dsimp only at hfind
  have HFi := keep hfind
  have HA := keep hA
  have h1m := hA.one
  have hmD := hA.lt
  have eA : decide ((m : Int) < 1) = false := decide_eq_false (by omega)
  clear hfind hA h1m
  go_wp2_with fail
  refine HFi.out.mono ?_
  rintro x wC ⟨rfl, hbC⟩
  have HSC := keep (HSB.out.fits hbC)
  have HFC := keep (HFB.out.trans (Fel.of_grow HSB.out.low hbC))
  have HEC := keep (HEB.out.fits hbC)
  clear e0 e1 e2 hbC HFi HSB HFB HEB
  obtain ⟨g, cap, hx⟩ := for_box HSC.out HA.out HEC.out
  have hnd := fun (u : World) (hu : Grow wC u) => need_st (HSC.out.fits hu) HA.out HOk.out
  have hly := fun (u : World) (hu : Grow wC u) (hx : (ek, ep, es) ∈ keysK v.ks) => leave_yes (HSC.out.fits hu) HA.out hx
  have hln := fun (u : World) (hu : Grow wC u) (hx : (ek, ep, es) ∉ keysK v.ks) => leave_no (HSC.out.fits hu) HA.out hx
  generalize nodeP 0 v.ks v.nx v.hi = P at *
  unfold pgV at hnd hly hln
  unfold enV recV at hly hln
  dsimp only at hly hln
  have HX := keep hx
  have HNd := keep hnd
  have HLy := keep hly
  have HLn := keep hln
  clear hx hnd hly hln
  obtain ⟨f0, p0, p1, p2, p3, p4, p5, -⟩ := HX.out wC (Grow.refl _)
  go_wp2_with fail
  refine (HNd.out wC (Grow.refl _)).mono ?_
  rintro x wD ⟨rfl, hbD⟩
  have HGD := keep hbD
  clear f0 p0 p1 p2 p3 p4 p5 hbD HNd
  have HX2 := keep (fun (u : World) (hu : Grow wD u) => HX.out u (Grow.trans HGD.out hu))
  have HSD := keep (HSC.out.fits HGD.out)
  have HFD := keep (HFC.out.trans (Fel.of_grow HSC.out.low HGD.out))
  have HED := keep (HEC.out.fits HGD.out)
  clear HX HSC HFC HEC
  by_cases hin : (ek, ep, es) ∈ keysK v.ks
  ·have hne : needK m v (ek, ep, es) = (0, 150) := by unfold needK; rw [if_pos hin]
   rw [hne]
   have HIn := keep hin
   have HLy2 := keep (fun (u : World) (hu : Grow wD u) => HLy.out u (Grow.trans HGD.out hu) hin)
   clear hne hin HLy HLn HGD
   go_upto_region 16 with fail
   refine wp_region_link_named (by kernel_rfl) 15 lk14 (Fill wD.heap.size 50 (IsC [.int .i64 0, .int .i64 0, .int .i64 0, .int .u8 4, .int .i64 0, .int .i64 (m : Int), .int .i64 0, .int .i64 0, .int .i64 0, .int .i64 0, .string (str (enBytes (ek, ep, es) [])), .slice none 0 0, .slice none 0 0, .slice none 0 0, .slice none 0 0, .slice none 0 0])) (Fill.refl _) (fun _ _ _ => Fill.trans (isC_lasts _ _)) (by kernel_rfl) (by kernel_rfl) [(84, 0), (85, 1), (86, 2), (87, 3), (88, 4), (89, 5), (90, 6), (91, 7), (92, 8), (93, 9), (83, 10), (94, 11), (95, 12), (14, 13)] (by kernel_rfl) [(0, true), (1, true), (2, true), (3, true), (4, true), (5, true), (6, true), (7, true), (8, true), (9, true), (10, true), (11, true), (12, true), (13, true), (14, true)] (by kernel_rfl) rfl rfl ?_
   intro a0 ha0
   have hsz : a0.tmps.size = 183 := (size_at ha0).trans rfl
   have s3 := slot_at ha0 3 rfl
   have s5 := slot_at ha0 5 rfl
   have s11 := slot_at ha0 11 rfl
   have HA0 := keep ha0
   clear ha0
   apply lexkf_eq hsz [] [(86, 2), (87, 3), (88, 4), (89, 5), (90, 6), (91, 7), (92, 8), (93, 9), (83, 10), (94, 11), (95, 12), (14, 13)] none (by kernel_rfl) (by kernel_rfl) (by kernel_rfl) (by kernel_rfl) rfl rfl
   ·intro xs w hw hp K hK
    go_simp
    exact hK _ (Fill.refl _)
   apply lexkf_eq hsz [(0, true)] [(84, 0), (87, 3), (88, 4), (89, 5), (90, 6), (91, 7), (92, 8), (93, 9), (83, 10), (94, 11), (95, 12), (14, 13)] none (by kernel_rfl) (by kernel_rfl) (by kernel_rfl) (by kernel_rfl) rfl rfl
   ·intro xs w hw hp K hK
    simp only [holdsK, lk14, reduceIte, Nat.reduceEqDiff, List.nil_append, List.getD_cons_zero, if_true, and_true] at hp
    go_simp
    exact hK _ (Fill.refl _)
   apply lexkf_eq hsz [(1, true)] [(84, 0), (85, 1), (88, 4), (89, 5), (90, 6), (91, 7), (92, 8), (93, 9), (83, 10), (94, 11), (95, 12), (14, 13)] none (by kernel_rfl) (by kernel_rfl) (by kernel_rfl) (by kernel_rfl) rfl rfl
   ·intro xs w hw hp K hK
    simp only [holdsK, lk14, reduceIte, Nat.reduceEqDiff, List.nil_append, List.cons_append, List.getD_cons_succ, List.getD_cons_zero, if_true, and_true] at hp
    go_simp
    exact hK _ (Fill.refl _)
   apply lexkf_eq hsz [(2, true)] [(84, 0), (85, 1), (86, 2), (88, 4), (90, 6), (91, 7), (92, 8), (93, 9), (83, 10), (94, 11), (95, 12), (14, 13)] none (by kernel_rfl) (by kernel_rfl) (by kernel_rfl) (by kernel_rfl) rfl rfl
   ·intro xs w hw hp K hK
    simp only [holdsK, lk14, reduceIte, Nat.reduceEqDiff, List.nil_append, List.cons_append, List.getD_cons_succ, List.getD_cons_zero, if_true, and_true] at hp
    obtain ⟨f0, -⟩ := HX2.out w (Grow.undrew hw.below)
    go_simp
    exact hK _ (Fill.refl _)
   apply lexkf_eq hsz [] [(84, 0), (85, 1), (86, 2), (87, 3), (90, 6), (91, 7), (92, 8), (93, 9), (83, 10), (94, 11), (95, 12), (14, 13)] none (by kernel_rfl) (by kernel_rfl) (by kernel_rfl) (by kernel_rfl) rfl rfl
   ·intro xs w hw hp K hK
    go_simp
    exact hK _ (Fill.refl _)
   apply lexkf_eq hsz [(3, true), (4, true)] [(84, 0), (85, 1), (86, 2), (87, 3), (88, 4), (91, 7), (92, 8), (93, 9), (83, 10), (94, 11), (95, 12), (14, 13)] none (by kernel_rfl) (by kernel_rfl) (by kernel_rfl) (by kernel_rfl) rfl rfl
   ·intro xs w hw hp K hK
    simp only [holdsK, lk14, reduceIte, Nat.reduceEqDiff, List.nil_append, List.cons_append, List.getD_cons_succ, List.getD_cons_zero, if_true, and_true] at hp
    go_simp
    exact hK _ (Fill.refl _)
   apply lexkf_eq hsz [(5, true)] [(84, 0), (85, 1), (86, 2), (87, 3), (88, 4), (89, 5), (91, 7), (92, 8), (83, 10), (94, 11), (95, 12), (14, 13)] none (by kernel_rfl) (by kernel_rfl) (by kernel_rfl) (by kernel_rfl) rfl rfl
   ·intro xs w hw hp K hK
    simp only [holdsK, lk14, reduceIte, Nat.reduceEqDiff, List.nil_append, List.cons_append, List.getD_cons_succ, List.getD_cons_zero, if_true, and_true] at hp
    obtain ⟨-, p0, p1, p2, p3, p4, p5, -⟩ := HX2.out w (Grow.undrew hw.below)
    go_simp
    exact hK _ (Fill.refl _)
   apply lexkf_eq hsz [] [(84, 0), (85, 1), (86, 2), (87, 3), (88, 4), (89, 5), (90, 6), (92, 8), (83, 10), (94, 11), (95, 12), (14, 13)] none (by kernel_rfl) (by kernel_rfl) (by kernel_rfl) (by kernel_rfl) rfl rfl
   ·intro xs w hw hp K hK
    go_simp
    exact hK _ (Fill.refl _)
   apply lexkf_eq hsz [] [(84, 0), (85, 1), (86, 2), (87, 3), (88, 4), (89, 5), (90, 6), (91, 7), (83, 10), (94, 11), (95, 12), (14, 13)] none (by kernel_rfl) (by kernel_rfl) (by kernel_rfl) (by kernel_rfl) rfl rfl
   ·intro xs w hw hp K hK
    obtain ⟨-, -, -, -, -, -, -, e0, e1, e2⟩ := HX2.out w (Grow.undrew hw.below)
    go_simp
    exact hK _ (Fill.refl _)
   apply lexkf_eq hsz [(6, true), (7, true), (8, true)] [(84, 0), (85, 1), (86, 2), (87, 3), (88, 4), (89, 5), (90, 6), (91, 7), (92, 8), (94, 11), (95, 12), (14, 13)] none (by kernel_rfl) (by kernel_rfl) (by kernel_rfl) (by kernel_rfl) rfl rfl
   ·intro xs w hw hp K hK
    simp only [holdsK, lk14, reduceIte, Nat.reduceEqDiff, List.nil_append, List.cons_append, List.getD_cons_succ, List.getD_cons_zero, if_true, and_true] at hp
    go_simp
    exact (HLy2.out w (Grow.undrew hw.below)).mono fun e w' ⟨h1, h2⟩ => ⟨_, h1, hK _ (Fill.of_grow h2 hw.below.size)⟩
   apply lexkf_eq hsz [(9, true)] [(84, 0), (85, 1), (86, 2), (87, 3), (88, 4), (89, 5), (90, 6), (91, 7), (92, 8), (93, 9), (14, 13)] none (by kernel_rfl) (by kernel_rfl) (by kernel_rfl) (by kernel_rfl) rfl rfl
   ·intro xs w hw hp K hK
    simp only [holdsK, lk14, reduceIte, Nat.reduceEqDiff, List.nil_append, List.cons_append, List.getD_cons_succ, List.getD_cons_zero, if_true, and_true] at hp
    go_simp
    exact hK _ (Fill.refl _)
   apply lexkf_eq hsz [(10, true)] [(84, 0), (85, 1), (86, 2), (87, 3), (88, 4), (89, 5), (90, 6), (91, 7), (92, 8), (93, 9), (83, 10), (95, 12), (14, 13)] none (by kernel_rfl) (by kernel_rfl) (by kernel_rfl) (by kernel_rfl) rfl rfl
   ·intro xs w hw hp K hK
    simp only [holdsK, lk14, reduceIte, Nat.reduceEqDiff, List.nil_append, List.cons_append, List.getD_cons_succ, List.getD_cons_zero, if_true, and_true] at hp
    go_simp
    exact hK _ (Fill.refl _)
   apply lexkf_eq hsz [(10, true)] [(84, 0), (85, 1), (86, 2), (87, 3), (88, 4), (89, 5), (90, 6), (91, 7), (92, 8), (93, 9), (83, 10), (94, 11), (14, 13)] none (by kernel_rfl) (by kernel_rfl) (by kernel_rfl) (by kernel_rfl) rfl rfl
   ·intro xs w hw hp K hK
    simp only [holdsK, lk14, reduceIte, Nat.reduceEqDiff, List.nil_append, List.cons_append, List.getD_cons_succ, List.getD_cons_zero, if_true, and_true] at hp
    go_simp
    exact hK _ (Fill.refl _)
   refine lexkf_says hsz (fun v u => ∃ b, v = .pointer (some ⟨b, 0, none⟩) ∧ wD.heap.size ≤ b ∧ ∃ cs : List Value, cs.length = 16 ∧ Blk u b 50 cs) (fun _ _ _ g ⟨b, h1, h2, h3⟩ => ⟨b, h1, h2, fill_sixteen g h3⟩) [] [(84, 0), (85, 1), (86, 2), (87, 3), (88, 4), (89, 5), (90, 6), (91, 7), (92, 8), (93, 9), (83, 10), (94, 11), (95, 12)] none (by kernel_rfl) (by kernel_rfl) (by kernel_rfl) (by kernel_rfl) rfl rfl ?_ ?_
   ·intro xs w hw hp K hK
    go_simp
    exact hK _ _ ⟨_, rfl, hw.below.size, _, rfl, Blk.new w _ [.int .i64 0, .int .i64 0, .int .i64 0, .int .u8 0, .int .i64 0, .int .i64 0, .int .i64 0, .int .i64 0, .int .i64 0, .int .i64 0, .string ⟨#[]⟩, .slice none 0 0, .slice none 0 0, .slice none 0 0, .slice none 0 0, .slice none 0 0]⟩ (Fill.of_grow ((Grow.refl w).alloc _) hw.below.size)
   refine lexkf_link hsz (fun v u => ∃ b, v = .pointer (some ⟨b, 0, none⟩) ∧ wD.heap.size ≤ b ∧ Blk u b 50 [.int .i64 0, .int .i64 0, .int .i64 0, .int .u8 4, .int .i64 0, .int .i64 (m : Int), .int .i64 0, .int .i64 0, .int .i64 0, .int .i64 0, .string (str (enBytes (ek, ep, es) [])), .slice none 0 0, .slice none 0 0, .slice none 0 0, .slice none 0 0, .slice none 0 0]) (fun _ _ _ hg ⟨b, h1, h2, h3⟩ => ⟨b, h1, h2, isC_stays hg h3⟩) [(11, true), (13, true)] [(84, 0), (85, 1), (86, 2), (87, 3), (88, 4), (89, 5), (90, 6), (91, 7), (92, 8), (93, 9), (83, 10), (94, 11), (95, 12), (14, 13)] none (by kernel_rfl) (by kernel_rfl) (by kernel_rfl) (by kernel_rfl) rfl (by decide) ?_ ?_
   ·intro xs w hw hp K hK
    simp only [holdsK, lk14, reduceIte, Nat.reduceEqDiff, List.nil_append, List.cons_append, List.getD_cons_succ, List.getD_cons_zero, if_true, and_true] at hp
    obtain ⟨h17, b, h19, hbN, cs, hl, hB⟩ := hp
    obtain ⟨a0_, a1_, a2_, a3_, a4_, a5_, a6_, a7_, a8_, a9_, a10_, a11_, a12_, a13_, a14_, a15_, rfl⟩ := len16 hl
    obtain ⟨⟨r0_, r1_, r2_, r3_, r4_, r5_, r6_, r7_, r8_, r9_, r10_, r11_, r12_, r13_, r14_, r15_⟩, hz_⟩ := recres hB
    have z0_ := hz_ 0
    have z1_ := hz_ 1
    have z2_ := hz_ 2
    have z3_ := hz_ 3
    have z4_ := hz_ 4
    have z5_ := hz_ 5
    have z6_ := hz_ 6
    have z7_ := hz_ 7
    have z8_ := hz_ 8
    have z9_ := hz_ 9
    have z10_ := hz_ 10
    have z11_ := hz_ 11
    have z12_ := hz_ 12
    have z13_ := hz_ 13
    have z14_ := hz_ 14
    have z15_ := hz_ 15
    have Hset := keep (recset hB (.int .i64 0) (.int .i64 0) (.int .i64 0) (.int .u8 4) (.int .i64 0) (.int .i64 (m : Int)) (.int .i64 0) (.int .i64 0) (.int .i64 0) (.int .i64 0) (.string (str (enBytes (ek, ep, es) []))) (.slice none 0 0) (.slice none 0 0) (.slice none 0 0) (.slice none 0 0) (.slice none 0 0))
    have Hbut := keep (recbut w b (.int .i64 0) (.int .i64 0) (.int .i64 0) (.int .u8 4) (.int .i64 0) (.int .i64 (m : Int)) (.int .i64 0) (.int .i64 0) (.int .i64 0) (.int .i64 0) (.string (str (enBytes (ek, ep, es) []))) (.slice none 0 0) (.slice none 0 0) (.slice none 0 0) (.slice none 0 0) (.slice none 0 0))
    have HB := keep hB
    clear hB hl hz_
    go_simp
    exact hK _ _ ⟨b, h19, hbN, Hset.out⟩ (Fill.but (cs' := [.int .i64 0, .int .i64 0, .int .i64 0, .int .u8 4, .int .i64 0, .int .i64 (m : Int), .int .i64 0, .int .i64 0, .int .i64 0, .int .i64 0, .string (str (enBytes (ek, ep, es) [])), .slice none 0 0, .slice none 0 0, .slice none 0 0, .slice none 0 0, .slice none 0 0]) Hbut.out hbN hw.below.size HB.out rfl Hset.out rfl)
   intro xs w hw hp
   have ha0 := HA0.out
   clear HA0 hsz s3 s5 s11
   simp only [holdsK, lk14, reduceIte, Nat.reduceEqDiff, List.nil_append, List.cons_append, List.getD_cons_succ, List.getD_cons_zero, if_true, and_true] at hp
   have hM := hp.2.2.2.2.2.2.2.2.2.2.2.2.1
   obtain ⟨b, h19, hbN, hQ⟩ := hp.2.2.2.2.2.2.2.2.2.2.2.2.2.2
   clear hp
   subst ha0
   simp only [putAll, hM, h19]
   have hg := Grow.undrew hw.below
   generalize w = wE at *
   have HGE := keep hg
   have HRec := keep hQ
   clear hw hg hM hQ h19 HLy2 HX2
   have HSE := keep (HSD.out.fits HGE.out)
   have HFE := keep (HFD.out.trans (Fel.of_grow HSD.out.low HGE.out))
   have HEE := keep (HED.out.fits HGE.out)
   have hdo := out_st HSE.out HA.out HOk.out HIn.out
   unfold recV at hdo
   have HDo := keep hdo
   have HQE := keep (show q ≤ 500 by have := HQ.out; omega)
   clear hdo HSD HFD HED HGE HIn
   go_frame
   go_wp2_with (refine wpList_load_rec_g rfl _ rfl b rfl HRec.out rfl ?_)
   refine HDo.out.mono ?_
   rintro x wF ⟨rfl, ⟨D', hS'⟩, hfe⟩
   have HSF := keep hS'
   have HFF := keep (HFE.out.trans hfe)
   obtain ⟨e0, e1, e2, _⟩ := enres (HEE.out.fel hfe (by decide) (by decide))
   have hen := enter_st HSF.out HOk.out HQE.out true
   unfold enV at hen
   dsimp only at hen
   have HEn := keep hen
   clear hen hS' hfe HDo HEE HRec
   go_wp2_with fail
   refine HEn.out.mono ?_
   rintro x wG ⟨rfl, ⟨D2, I2, top2, q2, hS2, -, -⟩, hfe⟩
   have HFG := keep (HFF.out.trans hfe)
   have HSG := keep hS2
   clear hS2 hfe HEn e0 e1 e2
   go_wp2_with fail
   refine (awake15_any wG).mono ?_
   rintro x wH ⟨rfl, hbH⟩
   go_wp2_with fail
   go_ret
   exact ⟨rfl, HFG.out.low.trans (Below.mono hbH HSG.out.low)⟩
  ·have hne : ∃ N : Int, needK m v (ek, ep, es) = (N, 0) ∧ (N = 0 ∨ (N = 1 ∧ (m : Int) ≠ 1) ∨ (N = 2 ∧ (m : Int) = 1)) := by
    unfold needK
    rw [if_neg hin]
    split
    ·exact ⟨0, rfl, .inl rfl⟩
    ·split
     ·rename_i h
      exact ⟨2, rfl, .inr (.inr ⟨rfl, h⟩)⟩
     ·rename_i h
      exact ⟨1, rfl, .inr (.inl ⟨rfl, h⟩)⟩
   obtain ⟨N, hne, hN⟩ := hne
   rw [hne]
   have HLn2 := keep (fun (u : World) (hu : Grow wD u) => HLn.out u (Grow.trans HGD.out hu) hin)
   have HN := keep hN
   clear hne hin HLy HLn HGD hN
   go_upto_region 18 with fail
   go_cut [137] from 112 to 137 (fun s wx => s = .bool false ∧ Kept (wD = wx))
   case first =>
    rcases HN.out with rfl | ⟨rfl, h⟩ | ⟨rfl, h⟩
    ·go_wp2_with fail
     go_meet
     case rel => exact ⟨rfl, keep rfl⟩
    ·have h9 : ((m : Int) == 1) = false := by simpa using h
     have HN9 := keep h
     clear h
     go_wp2_with fail
     go_meet
     case rel => exact ⟨rfl, keep rfl⟩
    ·have hm : m = 1 := by omega
     subst hm
     go_wp2_with fail
     go_meet
     case rel => exact ⟨rfl, keep rfl⟩
   case rest =>
   obtain ⟨rfl, hwc⟩ := hcut
   have hwc := hwc.out
   subst hwc
   go_upto_region 20 with fail
   refine wp_region_link_named (by kernel_rfl) 15 lk14 (Fill wD.heap.size 50 (IsC [.int .i64 0, .int .i64 0, .int .i64 0, .int .u8 0, .int .i64 0, .int .i64 0, .int .i64 0, .int .i64 0, .int .i64 0, .int .i64 0, .string ⟨#[]⟩, .slice none 0 0, .slice none 0 0, .slice none 0 0, .slice none 0 0, .slice none 0 0])) (Fill.refl _) (fun _ _ _ => Fill.trans (isC_lasts _ _)) (by kernel_rfl) (by kernel_rfl) [(139, 0), (140, 1), (141, 2), (142, 3), (143, 4), (144, 5), (145, 6), (146, 7), (147, 8), (148, 9), (138, 10), (149, 11), (150, 12), (16, 13)] (by kernel_rfl) [(0, true), (1, true), (2, true), (3, true), (4, true), (5, true), (6, true), (7, true), (8, true), (9, true), (10, true), (11, true), (12, true), (13, true), (14, true)] (by kernel_rfl) rfl rfl ?_
   intro a0 ha0
   have hsz : a0.tmps.size = 183 := (size_at ha0).trans rfl
   have s3 := slot_at ha0 3 rfl
   have s5 := slot_at ha0 5 rfl
   have s11 := slot_at ha0 11 rfl
   have HA0 := keep ha0
   clear ha0
   apply lexkf_eq hsz [] [(141, 2), (142, 3), (143, 4), (144, 5), (145, 6), (146, 7), (147, 8), (148, 9), (138, 10), (149, 11), (150, 12), (16, 13)] none (by kernel_rfl) (by kernel_rfl) (by kernel_rfl) (by kernel_rfl) rfl rfl
   ·intro xs w hw hp K hK
    go_simp
    exact hK _ (Fill.refl _)
   apply lexkf_eq hsz [(0, true)] [(139, 0), (142, 3), (143, 4), (144, 5), (145, 6), (146, 7), (147, 8), (148, 9), (138, 10), (149, 11), (150, 12), (16, 13)] none (by kernel_rfl) (by kernel_rfl) (by kernel_rfl) (by kernel_rfl) rfl rfl
   ·intro xs w hw hp K hK
    simp only [holdsK, lk14, reduceIte, Nat.reduceEqDiff, List.nil_append, List.getD_cons_zero, if_true, and_true] at hp
    go_simp
    exact hK _ (Fill.refl _)
   apply lexkf_eq hsz [(1, true)] [(139, 0), (140, 1), (143, 4), (144, 5), (145, 6), (146, 7), (147, 8), (148, 9), (138, 10), (149, 11), (150, 12), (16, 13)] none (by kernel_rfl) (by kernel_rfl) (by kernel_rfl) (by kernel_rfl) rfl rfl
   ·intro xs w hw hp K hK
    simp only [holdsK, lk14, reduceIte, Nat.reduceEqDiff, List.nil_append, List.cons_append, List.getD_cons_succ, List.getD_cons_zero, if_true, and_true] at hp
    go_simp
    exact hK _ (Fill.refl _)
   apply lexkf_eq hsz [(2, true)] [(139, 0), (140, 1), (141, 2), (143, 4), (145, 6), (146, 7), (147, 8), (148, 9), (138, 10), (149, 11), (150, 12), (16, 13)] none (by kernel_rfl) (by kernel_rfl) (by kernel_rfl) (by kernel_rfl) rfl rfl
   ·intro xs w hw hp K hK
    simp only [holdsK, lk14, reduceIte, Nat.reduceEqDiff, List.nil_append, List.cons_append, List.getD_cons_succ, List.getD_cons_zero, if_true, and_true] at hp
    obtain ⟨f0, -⟩ := HX2.out w (Grow.undrew hw.below)
    go_simp
    exact hK _ (Fill.refl _)
   apply lexkf_eq hsz [] [(139, 0), (140, 1), (141, 2), (142, 3), (145, 6), (146, 7), (147, 8), (148, 9), (138, 10), (149, 11), (150, 12), (16, 13)] none (by kernel_rfl) (by kernel_rfl) (by kernel_rfl) (by kernel_rfl) rfl rfl
   ·intro xs w hw hp K hK
    go_simp
    exact hK _ (Fill.refl _)
   apply lexkf_eq hsz [(3, true), (4, true)] [(139, 0), (140, 1), (141, 2), (142, 3), (143, 4), (146, 7), (147, 8), (148, 9), (138, 10), (149, 11), (150, 12), (16, 13)] none (by kernel_rfl) (by kernel_rfl) (by kernel_rfl) (by kernel_rfl) rfl rfl
   ·intro xs w hw hp K hK
    simp only [holdsK, lk14, reduceIte, Nat.reduceEqDiff, List.nil_append, List.cons_append, List.getD_cons_succ, List.getD_cons_zero, if_true, and_true] at hp
    go_simp
    exact hK _ (Fill.refl _)
   apply lexkf_eq hsz [(5, true)] [(139, 0), (140, 1), (141, 2), (142, 3), (143, 4), (144, 5), (146, 7), (147, 8), (138, 10), (149, 11), (150, 12), (16, 13)] none (by kernel_rfl) (by kernel_rfl) (by kernel_rfl) (by kernel_rfl) rfl rfl
   ·intro xs w hw hp K hK
    simp only [holdsK, lk14, reduceIte, Nat.reduceEqDiff, List.nil_append, List.cons_append, List.getD_cons_succ, List.getD_cons_zero, if_true, and_true] at hp
    obtain ⟨-, p0, p1, p2, p3, p4, p5, -⟩ := HX2.out w (Grow.undrew hw.below)
    go_simp
    exact hK _ (Fill.refl _)
   apply lexkf_eq hsz [] [(139, 0), (140, 1), (141, 2), (142, 3), (143, 4), (144, 5), (145, 6), (147, 8), (138, 10), (149, 11), (150, 12), (16, 13)] none (by kernel_rfl) (by kernel_rfl) (by kernel_rfl) (by kernel_rfl) rfl rfl
   ·intro xs w hw hp K hK
    go_simp
    exact hK _ (Fill.refl _)
   apply lexkf_eq hsz [] [(139, 0), (140, 1), (141, 2), (142, 3), (143, 4), (144, 5), (145, 6), (146, 7), (138, 10), (149, 11), (150, 12), (16, 13)] none (by kernel_rfl) (by kernel_rfl) (by kernel_rfl) (by kernel_rfl) rfl rfl
   ·intro xs w hw hp K hK
    obtain ⟨-, -, -, -, -, -, -, e0, e1, e2⟩ := HX2.out w (Grow.undrew hw.below)
    go_simp
    exact hK _ (Fill.refl _)
   apply lexkf_eq hsz [(6, true), (7, true), (8, true)] [(139, 0), (140, 1), (141, 2), (142, 3), (143, 4), (144, 5), (145, 6), (146, 7), (147, 8), (149, 11), (150, 12), (16, 13)] none (by kernel_rfl) (by kernel_rfl) (by kernel_rfl) (by kernel_rfl) rfl rfl
   ·intro xs w hw hp K hK
    simp only [holdsK, lk14, reduceIte, Nat.reduceEqDiff, List.nil_append, List.cons_append, List.getD_cons_succ, List.getD_cons_zero, if_true, and_true] at hp
    go_simp
    exact (HLn2.out w (Grow.undrew hw.below)).mono fun e w' ⟨h1, h2⟩ => ⟨_, h1, hK _ (Fill.of_grow h2 hw.below.size)⟩
   apply lexkf_eq hsz [(9, true)] [(139, 0), (140, 1), (141, 2), (142, 3), (143, 4), (144, 5), (145, 6), (146, 7), (147, 8), (148, 9), (16, 13)] none (by kernel_rfl) (by kernel_rfl) (by kernel_rfl) (by kernel_rfl) rfl rfl
   ·intro xs w hw hp K hK
    simp only [holdsK, lk14, reduceIte, Nat.reduceEqDiff, List.nil_append, List.cons_append, List.getD_cons_succ, List.getD_cons_zero, if_true, and_true] at hp
    go_simp
    exact hK _ (Fill.refl _)
   apply lexkf_eq hsz [(10, true)] [(139, 0), (140, 1), (141, 2), (142, 3), (143, 4), (144, 5), (145, 6), (146, 7), (147, 8), (148, 9), (138, 10), (150, 12), (16, 13)] none (by kernel_rfl) (by kernel_rfl) (by kernel_rfl) (by kernel_rfl) rfl rfl
   ·intro xs w hw hp K hK
    simp only [holdsK, lk14, reduceIte, Nat.reduceEqDiff, List.nil_append, List.cons_append, List.getD_cons_succ, List.getD_cons_zero, if_true, and_true] at hp
    go_simp
    exact hK _ (Fill.refl _)
   apply lexkf_eq hsz [(10, true)] [(139, 0), (140, 1), (141, 2), (142, 3), (143, 4), (144, 5), (145, 6), (146, 7), (147, 8), (148, 9), (138, 10), (149, 11), (16, 13)] none (by kernel_rfl) (by kernel_rfl) (by kernel_rfl) (by kernel_rfl) rfl rfl
   ·intro xs w hw hp K hK
    simp only [holdsK, lk14, reduceIte, Nat.reduceEqDiff, List.nil_append, List.cons_append, List.getD_cons_succ, List.getD_cons_zero, if_true, and_true] at hp
    go_simp
    exact hK _ (Fill.refl _)
   refine lexkf_says hsz (fun v u => ∃ b, v = .pointer (some ⟨b, 0, none⟩) ∧ wD.heap.size ≤ b ∧ ∃ cs : List Value, cs.length = 16 ∧ Blk u b 50 cs) (fun _ _ _ g ⟨b, h1, h2, h3⟩ => ⟨b, h1, h2, fill_sixteen g h3⟩) [] [(139, 0), (140, 1), (141, 2), (142, 3), (143, 4), (144, 5), (145, 6), (146, 7), (147, 8), (148, 9), (138, 10), (149, 11), (150, 12)] none (by kernel_rfl) (by kernel_rfl) (by kernel_rfl) (by kernel_rfl) rfl rfl ?_ ?_
   ·intro xs w hw hp K hK
    go_simp
    exact hK _ _ ⟨_, rfl, hw.below.size, _, rfl, Blk.new w _ [.int .i64 0, .int .i64 0, .int .i64 0, .int .u8 0, .int .i64 0, .int .i64 0, .int .i64 0, .int .i64 0, .int .i64 0, .int .i64 0, .string ⟨#[]⟩, .slice none 0 0, .slice none 0 0, .slice none 0 0, .slice none 0 0, .slice none 0 0]⟩ (Fill.of_grow ((Grow.refl w).alloc _) hw.below.size)
   refine lexkf_link hsz (fun v u => ∃ b, v = .pointer (some ⟨b, 0, none⟩) ∧ wD.heap.size ≤ b ∧ Blk u b 50 [.int .i64 0, .int .i64 0, .int .i64 0, .int .u8 0, .int .i64 0, .int .i64 0, .int .i64 0, .int .i64 0, .int .i64 0, .int .i64 0, .string ⟨#[]⟩, .slice none 0 0, .slice none 0 0, .slice none 0 0, .slice none 0 0, .slice none 0 0]) (fun _ _ _ hg ⟨b, h1, h2, h3⟩ => ⟨b, h1, h2, isC_stays hg h3⟩) [(11, true), (13, true)] [(139, 0), (140, 1), (141, 2), (142, 3), (143, 4), (144, 5), (145, 6), (146, 7), (147, 8), (148, 9), (138, 10), (149, 11), (150, 12), (16, 13)] none (by kernel_rfl) (by kernel_rfl) (by kernel_rfl) (by kernel_rfl) rfl (by decide) ?_ ?_
   ·intro xs w hw hp K hK
    simp only [holdsK, lk14, reduceIte, Nat.reduceEqDiff, List.nil_append, List.cons_append, List.getD_cons_succ, List.getD_cons_zero, if_true, and_true] at hp
    obtain ⟨h17, b, h19, hbN, cs, hl, hB⟩ := hp
    obtain ⟨a0_, a1_, a2_, a3_, a4_, a5_, a6_, a7_, a8_, a9_, a10_, a11_, a12_, a13_, a14_, a15_, rfl⟩ := len16 hl
    obtain ⟨⟨r0_, r1_, r2_, r3_, r4_, r5_, r6_, r7_, r8_, r9_, r10_, r11_, r12_, r13_, r14_, r15_⟩, hz_⟩ := recres hB
    have z0_ := hz_ 0
    have z1_ := hz_ 1
    have z2_ := hz_ 2
    have z3_ := hz_ 3
    have z4_ := hz_ 4
    have z5_ := hz_ 5
    have z6_ := hz_ 6
    have z7_ := hz_ 7
    have z8_ := hz_ 8
    have z9_ := hz_ 9
    have z10_ := hz_ 10
    have z11_ := hz_ 11
    have z12_ := hz_ 12
    have z13_ := hz_ 13
    have z14_ := hz_ 14
    have z15_ := hz_ 15
    have Hset := keep (recset hB (.int .i64 0) (.int .i64 0) (.int .i64 0) (.int .u8 0) (.int .i64 0) (.int .i64 0) (.int .i64 0) (.int .i64 0) (.int .i64 0) (.int .i64 0) (.string ⟨#[]⟩) (.slice none 0 0) (.slice none 0 0) (.slice none 0 0) (.slice none 0 0) (.slice none 0 0))
    have Hbut := keep (recbut w b (.int .i64 0) (.int .i64 0) (.int .i64 0) (.int .u8 0) (.int .i64 0) (.int .i64 0) (.int .i64 0) (.int .i64 0) (.int .i64 0) (.int .i64 0) (.string ⟨#[]⟩) (.slice none 0 0) (.slice none 0 0) (.slice none 0 0) (.slice none 0 0) (.slice none 0 0))
    have HB := keep hB
    clear hB hl hz_
    go_simp
    exact hK _ _ ⟨b, h19, hbN, Hset.out⟩ (Fill.but (cs' := [.int .i64 0, .int .i64 0, .int .i64 0, .int .u8 0, .int .i64 0, .int .i64 0, .int .i64 0, .int .i64 0, .int .i64 0, .int .i64 0, .string ⟨#[]⟩, .slice none 0 0, .slice none 0 0, .slice none 0 0, .slice none 0 0, .slice none 0 0]) Hbut.out hbN hw.below.size HB.out rfl Hset.out rfl)
   intro xs w hw hp
   have ha0 := HA0.out
   clear HA0 hsz s3 s5 s11
   simp only [holdsK, lk14, reduceIte, Nat.reduceEqDiff, List.nil_append, List.cons_append, List.getD_cons_succ, List.getD_cons_zero, if_true, and_true] at hp
   have hM := hp.2.2.2.2.2.2.2.2.2.2.2.2.1
   obtain ⟨b, h19, hbN, hQ⟩ := hp.2.2.2.2.2.2.2.2.2.2.2.2.2.2
   clear hp
   subst ha0
   simp only [putAll, hM, h19]
   have hg := Grow.undrew hw.below
   generalize w = wE at *
   have HSE := keep (HSD.out.fits hg)
   have HFE := keep (HFD.out.trans (Fel.of_grow HSD.out.low hg))
   have HEE := keep (HED.out.fits hg)
   have hen := enter_st HSE.out HOk.out (by have := HQ.out; omega) true
   unfold enV at hen
   dsimp only at hen
   have HEn := keep hen
   clear hw hg hM hQ h19 HLn2 HX2 hen HSD HFD HED HN
   obtain ⟨e0, e1, e2, _⟩ := enres HEE.out
   go_frame
   go_wp2_with fail
   refine HEn.out.mono ?_
   rintro x wF ⟨rfl, ⟨D2, I2, top2, q2, hS2, hq2, hh⟩, hfe⟩
   obtain ⟨m2, v2, iv2, hA2⟩ := hS2.at HOk.out (by have := HQ.out; omega)
   have HIn2 := keep (hS2.mem hA2 ((hh _).2 (.inr rfl)))
   have HSF := keep hS2
   have HFF := keep (HFE.out.trans hfe)
   have HEF := keep (HEE.out.fel hfe (by decide) (by decide))
   have hfind := find_st hS2 hA2
   unfold enV at hfind
   dsimp only at hfind
   have HFi := keep hfind
   have HA2 := keep hA2
   have h1m := hA2.one
   have hmD2 := hA2.lt
   have eA : decide ((m2 : Int) < 1) = false := decide_eq_false (by omega)
   clear hS2 hq2 hh hfe HEn hfind hA2 h1m e0 e1 e2 HEE HSE HFE HA
   obtain ⟨e0, e1, e2, _⟩ := enres HEF.out
   go_wp2_with fail
   refine HFi.out.mono ?_
   rintro x wG ⟨rfl, hbG⟩
   have HSG := keep (HSF.out.fits hbG)
   have HFG := keep (HFF.out.trans (Fel.of_grow HSF.out.low hbG))
   have HEG := keep (HEF.out.fits hbG)
   clear e0 e1 e2 hbG HFi HSF HFF HEF
   obtain ⟨g2, cap2, hx⟩ := for_box HSG.out HA2.out HEG.out
   have hly := fun (u : World) (hu : Grow wG u) => leave_yes (HSG.out.fits hu) HA2.out HIn2.out
   generalize nodeP 0 v2.ks v2.nx v2.hi = P2 at *
   unfold pgV at hly
   unfold enV recV at hly
   dsimp only at hly
   have HX := keep hx
   have HLy := keep hly
   clear hx hly
   go_upto_region 26 with fail
   refine wp_region_link_named (by kernel_rfl) 15 lk14 (Fill wG.heap.size 50 (IsC [.int .i64 0, .int .i64 0, .int .i64 0, .int .u8 4, .int .i64 0, .int .i64 (m2 : Int), .int .i64 0, .int .i64 0, .int .i64 0, .int .i64 0, .string (str (enBytes (ek, ep, es) [])), .slice none 0 0, .slice none 0 0, .slice none 0 0, .slice none 0 0, .slice none 0 0])) (Fill.refl _) (fun _ _ _ => Fill.trans (isC_lasts _ _)) (by kernel_rfl) (by kernel_rfl) [(166, 0), (167, 1), (168, 2), (169, 3), (170, 4), (171, 5), (172, 6), (173, 7), (174, 8), (175, 9), (165, 10), (176, 11), (177, 12), (18, 13)] (by kernel_rfl) [(0, true), (1, true), (2, true), (3, true), (4, true), (5, true), (6, true), (7, true), (8, true), (9, true), (10, true), (11, true), (12, true), (13, true), (14, true)] (by kernel_rfl) rfl rfl ?_
   intro a0 ha0
   have hsz : a0.tmps.size = 183 := (size_at ha0).trans rfl
   have s3 := slot_at ha0 3 rfl
   have s5 := slot_at ha0 5 rfl
   have s11 := slot_at ha0 11 rfl
   have HA0 := keep ha0
   clear ha0
   apply lexkf_eq hsz [] [(168, 2), (169, 3), (170, 4), (171, 5), (172, 6), (173, 7), (174, 8), (175, 9), (165, 10), (176, 11), (177, 12), (18, 13)] none (by kernel_rfl) (by kernel_rfl) (by kernel_rfl) (by kernel_rfl) rfl rfl
   ·intro xs w hw hp K hK
    go_simp
    exact hK _ (Fill.refl _)
   apply lexkf_eq hsz [(0, true)] [(166, 0), (169, 3), (170, 4), (171, 5), (172, 6), (173, 7), (174, 8), (175, 9), (165, 10), (176, 11), (177, 12), (18, 13)] none (by kernel_rfl) (by kernel_rfl) (by kernel_rfl) (by kernel_rfl) rfl rfl
   ·intro xs w hw hp K hK
    simp only [holdsK, lk14, reduceIte, Nat.reduceEqDiff, List.nil_append, List.getD_cons_zero, if_true, and_true] at hp
    go_simp
    exact hK _ (Fill.refl _)
   apply lexkf_eq hsz [(1, true)] [(166, 0), (167, 1), (170, 4), (171, 5), (172, 6), (173, 7), (174, 8), (175, 9), (165, 10), (176, 11), (177, 12), (18, 13)] none (by kernel_rfl) (by kernel_rfl) (by kernel_rfl) (by kernel_rfl) rfl rfl
   ·intro xs w hw hp K hK
    simp only [holdsK, lk14, reduceIte, Nat.reduceEqDiff, List.nil_append, List.cons_append, List.getD_cons_succ, List.getD_cons_zero, if_true, and_true] at hp
    go_simp
    exact hK _ (Fill.refl _)
   apply lexkf_eq hsz [(2, true)] [(166, 0), (167, 1), (168, 2), (170, 4), (172, 6), (173, 7), (174, 8), (175, 9), (165, 10), (176, 11), (177, 12), (18, 13)] none (by kernel_rfl) (by kernel_rfl) (by kernel_rfl) (by kernel_rfl) rfl rfl
   ·intro xs w hw hp K hK
    simp only [holdsK, lk14, reduceIte, Nat.reduceEqDiff, List.nil_append, List.cons_append, List.getD_cons_succ, List.getD_cons_zero, if_true, and_true] at hp
    obtain ⟨f0, -⟩ := HX.out w (Grow.undrew hw.below)
    go_simp
    exact hK _ (Fill.refl _)
   apply lexkf_eq hsz [] [(166, 0), (167, 1), (168, 2), (169, 3), (172, 6), (173, 7), (174, 8), (175, 9), (165, 10), (176, 11), (177, 12), (18, 13)] none (by kernel_rfl) (by kernel_rfl) (by kernel_rfl) (by kernel_rfl) rfl rfl
   ·intro xs w hw hp K hK
    go_simp
    exact hK _ (Fill.refl _)
   apply lexkf_eq hsz [(3, true), (4, true)] [(166, 0), (167, 1), (168, 2), (169, 3), (170, 4), (173, 7), (174, 8), (175, 9), (165, 10), (176, 11), (177, 12), (18, 13)] none (by kernel_rfl) (by kernel_rfl) (by kernel_rfl) (by kernel_rfl) rfl rfl
   ·intro xs w hw hp K hK
    simp only [holdsK, lk14, reduceIte, Nat.reduceEqDiff, List.nil_append, List.cons_append, List.getD_cons_succ, List.getD_cons_zero, if_true, and_true] at hp
    go_simp
    exact hK _ (Fill.refl _)
   apply lexkf_eq hsz [(5, true)] [(166, 0), (167, 1), (168, 2), (169, 3), (170, 4), (171, 5), (173, 7), (174, 8), (165, 10), (176, 11), (177, 12), (18, 13)] none (by kernel_rfl) (by kernel_rfl) (by kernel_rfl) (by kernel_rfl) rfl rfl
   ·intro xs w hw hp K hK
    simp only [holdsK, lk14, reduceIte, Nat.reduceEqDiff, List.nil_append, List.cons_append, List.getD_cons_succ, List.getD_cons_zero, if_true, and_true] at hp
    obtain ⟨-, p0, p1, p2, p3, p4, p5, -⟩ := HX.out w (Grow.undrew hw.below)
    go_simp
    exact hK _ (Fill.refl _)
   apply lexkf_eq hsz [] [(166, 0), (167, 1), (168, 2), (169, 3), (170, 4), (171, 5), (172, 6), (174, 8), (165, 10), (176, 11), (177, 12), (18, 13)] none (by kernel_rfl) (by kernel_rfl) (by kernel_rfl) (by kernel_rfl) rfl rfl
   ·intro xs w hw hp K hK
    go_simp
    exact hK _ (Fill.refl _)
   apply lexkf_eq hsz [] [(166, 0), (167, 1), (168, 2), (169, 3), (170, 4), (171, 5), (172, 6), (173, 7), (165, 10), (176, 11), (177, 12), (18, 13)] none (by kernel_rfl) (by kernel_rfl) (by kernel_rfl) (by kernel_rfl) rfl rfl
   ·intro xs w hw hp K hK
    obtain ⟨-, -, -, -, -, -, -, e0, e1, e2⟩ := HX.out w (Grow.undrew hw.below)
    go_simp
    exact hK _ (Fill.refl _)
   apply lexkf_eq hsz [(6, true), (7, true), (8, true)] [(166, 0), (167, 1), (168, 2), (169, 3), (170, 4), (171, 5), (172, 6), (173, 7), (174, 8), (176, 11), (177, 12), (18, 13)] none (by kernel_rfl) (by kernel_rfl) (by kernel_rfl) (by kernel_rfl) rfl rfl
   ·intro xs w hw hp K hK
    simp only [holdsK, lk14, reduceIte, Nat.reduceEqDiff, List.nil_append, List.cons_append, List.getD_cons_succ, List.getD_cons_zero, if_true, and_true] at hp
    go_simp
    exact (HLy.out w (Grow.undrew hw.below)).mono fun e w' ⟨h1, h2⟩ => ⟨_, h1, hK _ (Fill.of_grow h2 hw.below.size)⟩
   apply lexkf_eq hsz [(9, true)] [(166, 0), (167, 1), (168, 2), (169, 3), (170, 4), (171, 5), (172, 6), (173, 7), (174, 8), (175, 9), (18, 13)] none (by kernel_rfl) (by kernel_rfl) (by kernel_rfl) (by kernel_rfl) rfl rfl
   ·intro xs w hw hp K hK
    simp only [holdsK, lk14, reduceIte, Nat.reduceEqDiff, List.nil_append, List.cons_append, List.getD_cons_succ, List.getD_cons_zero, if_true, and_true] at hp
    go_simp
    exact hK _ (Fill.refl _)
   apply lexkf_eq hsz [(10, true)] [(166, 0), (167, 1), (168, 2), (169, 3), (170, 4), (171, 5), (172, 6), (173, 7), (174, 8), (175, 9), (165, 10), (177, 12), (18, 13)] none (by kernel_rfl) (by kernel_rfl) (by kernel_rfl) (by kernel_rfl) rfl rfl
   ·intro xs w hw hp K hK
    simp only [holdsK, lk14, reduceIte, Nat.reduceEqDiff, List.nil_append, List.cons_append, List.getD_cons_succ, List.getD_cons_zero, if_true, and_true] at hp
    go_simp
    exact hK _ (Fill.refl _)
   apply lexkf_eq hsz [(10, true)] [(166, 0), (167, 1), (168, 2), (169, 3), (170, 4), (171, 5), (172, 6), (173, 7), (174, 8), (175, 9), (165, 10), (176, 11), (18, 13)] none (by kernel_rfl) (by kernel_rfl) (by kernel_rfl) (by kernel_rfl) rfl rfl
   ·intro xs w hw hp K hK
    simp only [holdsK, lk14, reduceIte, Nat.reduceEqDiff, List.nil_append, List.cons_append, List.getD_cons_succ, List.getD_cons_zero, if_true, and_true] at hp
    go_simp
    exact hK _ (Fill.refl _)
   refine lexkf_says hsz (fun v u => ∃ b, v = .pointer (some ⟨b, 0, none⟩) ∧ wG.heap.size ≤ b ∧ ∃ cs : List Value, cs.length = 16 ∧ Blk u b 50 cs) (fun _ _ _ g ⟨b, h1, h2, h3⟩ => ⟨b, h1, h2, fill_sixteen g h3⟩) [] [(166, 0), (167, 1), (168, 2), (169, 3), (170, 4), (171, 5), (172, 6), (173, 7), (174, 8), (175, 9), (165, 10), (176, 11), (177, 12)] none (by kernel_rfl) (by kernel_rfl) (by kernel_rfl) (by kernel_rfl) rfl rfl ?_ ?_
   ·intro xs w hw hp K hK
    go_simp
    exact hK _ _ ⟨_, rfl, hw.below.size, _, rfl, Blk.new w _ [.int .i64 0, .int .i64 0, .int .i64 0, .int .u8 0, .int .i64 0, .int .i64 0, .int .i64 0, .int .i64 0, .int .i64 0, .int .i64 0, .string ⟨#[]⟩, .slice none 0 0, .slice none 0 0, .slice none 0 0, .slice none 0 0, .slice none 0 0]⟩ (Fill.of_grow ((Grow.refl w).alloc _) hw.below.size)
   refine lexkf_link hsz (fun v u => ∃ b, v = .pointer (some ⟨b, 0, none⟩) ∧ wG.heap.size ≤ b ∧ Blk u b 50 [.int .i64 0, .int .i64 0, .int .i64 0, .int .u8 4, .int .i64 0, .int .i64 (m2 : Int), .int .i64 0, .int .i64 0, .int .i64 0, .int .i64 0, .string (str (enBytes (ek, ep, es) [])), .slice none 0 0, .slice none 0 0, .slice none 0 0, .slice none 0 0, .slice none 0 0]) (fun _ _ _ hg ⟨b, h1, h2, h3⟩ => ⟨b, h1, h2, isC_stays hg h3⟩) [(11, true), (13, true)] [(166, 0), (167, 1), (168, 2), (169, 3), (170, 4), (171, 5), (172, 6), (173, 7), (174, 8), (175, 9), (165, 10), (176, 11), (177, 12), (18, 13)] none (by kernel_rfl) (by kernel_rfl) (by kernel_rfl) (by kernel_rfl) rfl (by decide) ?_ ?_
   ·intro xs w hw hp K hK
    simp only [holdsK, lk14, reduceIte, Nat.reduceEqDiff, List.nil_append, List.cons_append, List.getD_cons_succ, List.getD_cons_zero, if_true, and_true] at hp
    obtain ⟨h17, b, h19, hbN, cs, hl, hB⟩ := hp
    obtain ⟨a0_, a1_, a2_, a3_, a4_, a5_, a6_, a7_, a8_, a9_, a10_, a11_, a12_, a13_, a14_, a15_, rfl⟩ := len16 hl
    obtain ⟨⟨r0_, r1_, r2_, r3_, r4_, r5_, r6_, r7_, r8_, r9_, r10_, r11_, r12_, r13_, r14_, r15_⟩, hz_⟩ := recres hB
    have z0_ := hz_ 0
    have z1_ := hz_ 1
    have z2_ := hz_ 2
    have z3_ := hz_ 3
    have z4_ := hz_ 4
    have z5_ := hz_ 5
    have z6_ := hz_ 6
    have z7_ := hz_ 7
    have z8_ := hz_ 8
    have z9_ := hz_ 9
    have z10_ := hz_ 10
    have z11_ := hz_ 11
    have z12_ := hz_ 12
    have z13_ := hz_ 13
    have z14_ := hz_ 14
    have z15_ := hz_ 15
    have Hset := keep (recset hB (.int .i64 0) (.int .i64 0) (.int .i64 0) (.int .u8 4) (.int .i64 0) (.int .i64 (m2 : Int)) (.int .i64 0) (.int .i64 0) (.int .i64 0) (.int .i64 0) (.string (str (enBytes (ek, ep, es) []))) (.slice none 0 0) (.slice none 0 0) (.slice none 0 0) (.slice none 0 0) (.slice none 0 0))
    have Hbut := keep (recbut w b (.int .i64 0) (.int .i64 0) (.int .i64 0) (.int .u8 4) (.int .i64 0) (.int .i64 (m2 : Int)) (.int .i64 0) (.int .i64 0) (.int .i64 0) (.int .i64 0) (.string (str (enBytes (ek, ep, es) []))) (.slice none 0 0) (.slice none 0 0) (.slice none 0 0) (.slice none 0 0) (.slice none 0 0))
    have HB := keep hB
    clear hB hl hz_
    go_simp
    exact hK _ _ ⟨b, h19, hbN, Hset.out⟩ (Fill.but (cs' := [.int .i64 0, .int .i64 0, .int .i64 0, .int .u8 4, .int .i64 0, .int .i64 (m2 : Int), .int .i64 0, .int .i64 0, .int .i64 0, .int .i64 0, .string (str (enBytes (ek, ep, es) [])), .slice none 0 0, .slice none 0 0, .slice none 0 0, .slice none 0 0, .slice none 0 0]) Hbut.out hbN hw.below.size HB.out rfl Hset.out rfl)
   intro xs w hw hp
   have ha0 := HA0.out
   clear HA0 hsz s3 s5 s11
   simp only [holdsK, lk14, reduceIte, Nat.reduceEqDiff, List.nil_append, List.cons_append, List.getD_cons_succ, List.getD_cons_zero, if_true, and_true] at hp
   have hM := hp.2.2.2.2.2.2.2.2.2.2.2.2.1
   obtain ⟨b, h19, hbN, hQ⟩ := hp.2.2.2.2.2.2.2.2.2.2.2.2.2.2
   clear hp
   subst ha0
   simp only [putAll, hM, h19]
   have hg := Grow.undrew hw.below
   generalize w = wH at *
   have HGH := keep hg
   clear hw hg hM hQ h19 HLy HX
   go_frame
   go_wp2_with fail
   refine (awake15_any wH).mono ?_
   rintro x wI ⟨rfl, hbI⟩
   go_wp2_with fail
   go_ret
   exact ⟨rfl, HFG.out.low.trans (Below.mono (Grow.trans HGH.out hbI) HSG.out.low)⟩
end Go.Proofs.Ytaninphcgeaepaa
