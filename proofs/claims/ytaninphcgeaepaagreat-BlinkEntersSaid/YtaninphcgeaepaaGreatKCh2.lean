import Derived.Test.YtaninphcgeaepaaGreatKSm1
import Derived.Deep.CutRange
import Derived.Test.YtaninphcgeaepaaGreatKOwn2
namespace Go.Proofs.YtaninphcgeaepaaGreat
open Go.RowKit
attribute [local go_sem] givesF_none givesF_some evalF_tmp evalF_const evalF_global evalF_func lookL isB_bool isB_undef givesUpon_value givesUpon_skip givesUpon_enter
def beyondN (P : Pg) (e : En) : Bool × Int := if openOk P && enOk e then (beyN (bdN P) (hiN P) e, 0) else (false, 140)
def entriesOk (P : Pg) : Bool := openOk P && decide (P.level = 0)
def EntPost (P : Pg) (w : World) (x : Ending) (w' : World) : Prop :=
 (if entriesOk P then ∃ a c, x = .returned (.tuple #[.slice a (ensN P).length c, .int .i64 0]) ∧ EnsS w' (.slice a (ensN P).length c) (ensN P) else x = .returned (.tuple #[.slice none 0 0, .int .i64 140])) ∧ Below w.heap.size w w'
set_option maxRecDepth 100000 in
set_option maxHeartbeats 4000000 in
theorem beyond_node (P : Pg) (iv : Value) (e : En) (w_ : World) (hin : PgIn w_ iv P) :
  Calls Tryz.prog 24 #[pgV P iv, enV e] w_ fun x w' => x = .returned (.tuple #[.bool (beyondN P e).1, .int .i64 (beyondN P e).2]) ∧ Below w_.heap.size w_ w' := by
 have hie := fun u => isEntry_any e u
 have hbe := fun (a1 a2 : Option Addr) (n1 c1 n2 c2 : Nat) (hi : En) (bd : Bool) (u : World) => beyond_any a1 a2 n1 c1 n2 c2 hi e bd u
 have hd : beyondN P e = if openOk P && enOk e then (beyN (bdN P) (hiN P) e, 0) else (false, 140) := rfl
 unfold enV at hie hbe
 have HIe := keep hie
 have HBe := keep hbe
 have HD := keep hd
 clear hie hbe hd
 obtain ⟨k, p, s⟩ := e
 obtain ⟨w0, hw0⟩ : ∃ w0, w0 = ((w_.alloc (.cells (pgCells P iv).toArray 24)).alloc (.cells #[.string (str k), .int .i64 p, .int .i64 s] 41)) := ⟨_, rfl⟩
 have hg0 : Grow w_ w0 := by subst hw0; exact ((Grow.refl w_).alloc _).alloc _
 have hP0 : Blk w0 w_.heap.size 24 (pgCells P iv) := by
  have := (Blk.new w_ 24 (pgCells P iv)).alloc (.cells #[.string (str k), .int .i64 p, .int .i64 s] 41)
  subst hw0; exact this
 have hE0 : Blk w0 (w_.heap.size + 1) 41 [.string (str k), .int .i64 p, .int .i64 s] := by
  have := Blk.new (w_.alloc (.cells (pgCells P iv).toArray 24)) 41 [.string (str k), .int .i64 p, .int .i64 s]
  have e : (w_.alloc (.cells (pgCells P iv).toArray 24)).heap.size = w_.heap.size + 1 := by simp
  rw [e] at this
  subst hw0; exact this
 have hop := opened_pg (hin.fits hg0)
 obtain ⟨ia, ic, rfl⟩ := items_form hin.1
 have HOp := keep hop
 have HIn := keep hin
 have HP0 := keep hP0
 have HE0 := keep hE0
 clear hop hin hE0
 unfold pgCells at hw0 hP0
 obtain ⟨p0, p1, p2, p3, p4, p5, _⟩ := pgres hP0
 unfold pgV enV
 go_enter Tryz.func24, Tryz.ntmps24
 go_upto_region 1 with fail
 rw [← hw0]
 clear hw0
 go_wp2_with fail
 refine HOp.out.mono ?_
 rintro x w1 ⟨a1, n1, c1, a2, n2, c2, hi, bd, ok, rfl, hok, hyes, hb1⟩
 clear p0 p1 p2 p3 p4 p5 hP0
 obtain ⟨w2, hw2⟩ : ∃ w2, w2 = w1.alloc (.cells #[.slice a1 n1 c1, .slice a2 n2 c2, .string (str hi.1), .int .i64 hi.2.1, .int .i64 hi.2.2, .bool bd] 97) := ⟨_, rfl⟩
 have hg2 : Grow w0 w2 := by subst hw2; exact Grow.alloc hb1 _
 have hO2 : Blk w2 w1.heap.size 97 [.slice a1 n1 c1, .slice a2 n2 c2, .string (str hi.1), .int .i64 hi.2.1, .int .i64 hi.2.2, .bool bd] := by subst hw2; exact Blk.new w1 _ [_, _, _, _, _, _]
 have hyes2 : ok = true → EnsS w2 (.slice a1 n1 c1) (ensN P) ∧ IntsS w2 (.slice a2 n2 c2) (kidsN P) ∧ hi = hiN P ∧ bd = bdN P := fun h => ⟨by subst hw2; exact RowS.fits (hyes h).1 ((Grow.refl _).alloc _), by subst hw2; exact RowS.fits (hyes h).2.1 ((Grow.refl _).alloc _), (hyes h).2.2⟩
 have HYes := keep hyes2
 have HOk := keep hok
 have HO2 := keep hO2
 have HG2 := keep hg2
 have HGW := keep (Grow.trans hg0 hg2)
 clear hyes hyes2 hok hb1 hO2 hg2
 go_upto_region 2 with fail
 rw [← hw2]
 clear hw2
 have hP2 := HP0.out.fits HG2.out
 unfold pgCells at hP2
 obtain ⟨p0, p1, p2, p3, p4, p5, _⟩ := pgres hP2
 obtain ⟨o0, o1, o2, o3, o4, o5, _⟩ := pgres HO2.out
 have hE2 := HE0.out.fits HG2.out
 obtain ⟨e0, e1, e2, _⟩ := enres hE2
 have hd := HD.out
 rw [← HOk.out] at hd
 have HD2 := keep hd
 clear hd
 cases ok with
 | false =>
  have hno : beyondN P (k, p, s) = (false, 140) := HD2.out
  go_wp2_with fail
  go_ret2
  rw [hno]
  exact ⟨rfl, HGW.out⟩
 | true =>
  obtain ⟨_, _, h2, h3⟩ := HYes.out rfl
  subst h2 h3
  have hd := HD2.out
  have hie := HIe.out w2
  try dsimp only at hie
  generalize enOk (k, p, s) = A at *
  have HIe2 := keep hie
  have HD3 := keep hd
  clear hie hd
  go_wp2_with fail
  refine HIe2.out.mono ?_
  rintro x w3 ⟨rfl, hb3⟩
  cases A with
  | false =>
   have hno : beyondN P (k, p, s) = (false, 140) := HD3.out
   go_wp2_with fail
   go_ret2
   rw [hno]
   exact ⟨rfl, Grow.trans HGW.out hb3⟩
  | true =>
   have hyes : beyondN P (k, p, s) = (beyN (bdN P) (hiN P) (k, p, s), 0) := HD3.out
   have hE3 := hE2.fits hb3
   have hO3 := HO2.out.fits hb3
   clear p0 p1 p2 p3 p4 p5 e0 e1 e2 o0 o1 o2 o3 o4 o5
   obtain ⟨e0, e1, e2, _⟩ := enres hE3
   obtain ⟨o0, o1, o2, o3, o4, o5, _⟩ := pgres hO3
   have hbe := HBe.out a1 a2 n1 c1 n2 c2 (hiN P) (bdN P) w3
   try dsimp only at hbe
   have HBe2 := keep hbe
   have HYs := keep hyes
   clear hE3 hO3 hbe hyes hE2 hP2
   go_wp2_with fail
   refine HBe2.out.mono ?_
   rintro x w4 ⟨rfl, hb4⟩
   go_wp2_with fail
   go_ret2
   rw [HYs.out]
   exact ⟨rfl, Grow.trans (Grow.trans HGW.out hb3) hb4⟩
set_option maxRecDepth 100000 in
set_option maxHeartbeats 4000000 in
theorem entries_node (P : Pg) (iv : Value) (w_ : World) (hin : PgIn w_ iv P) :
  Calls Tryz.prog 42 #[pgV P iv] w_ (EntPost P w_) := by
 have hd : entriesOk P = (openOk P && decide (P.level = 0)) := rfl
 have HD := keep hd
 clear hd
 obtain ⟨w0, hw0⟩ : ∃ w0, w0 = (w_.alloc (.cells (pgCells P iv).toArray 24)) := ⟨_, rfl⟩
 have hg0 : Grow w_ w0 := by subst hw0; exact (Grow.refl w_).alloc _
 have hP0 : Blk w0 w_.heap.size 24 (pgCells P iv) := by
  have := Blk.new w_ 24 (pgCells P iv)
  subst hw0; exact this
 have hop := opened_pg (hin.fits hg0)
 obtain ⟨ia, ic, rfl⟩ := items_form hin.1
 have HOp := keep hop
 have HIn := keep hin
 have HP0 := keep hP0
 clear hop hin
 unfold pgCells at hw0 hP0
 obtain ⟨p0, p1, p2, p3, p4, p5, _⟩ := pgres hP0
 unfold pgV
 go_enter Tryz.func42, Tryz.ntmps42
 go_upto_region 1 with fail
 rw [← hw0]
 clear hw0
 go_wp2_with fail
 refine HOp.out.mono ?_
 rintro x w1 ⟨a1, n1, c1, a2, n2, c2, hi, bd, ok, rfl, hok, hyes, hb1⟩
 clear p0 p1 p2 p3 p4 p5 hP0
 obtain ⟨w2, hw2⟩ : ∃ w2, w2 = w1.alloc (.cells #[.slice a1 n1 c1, .slice a2 n2 c2, .string (str hi.1), .int .i64 hi.2.1, .int .i64 hi.2.2, .bool bd] 97) := ⟨_, rfl⟩
 have hg2 : Grow w0 w2 := by subst hw2; exact Grow.alloc hb1 _
 have hO2 : Blk w2 w1.heap.size 97 [.slice a1 n1 c1, .slice a2 n2 c2, .string (str hi.1), .int .i64 hi.2.1, .int .i64 hi.2.2, .bool bd] := by subst hw2; exact Blk.new w1 _ [_, _, _, _, _, _]
 have hyes2 : ok = true → EnsS w2 (.slice a1 n1 c1) (ensN P) ∧ IntsS w2 (.slice a2 n2 c2) (kidsN P) ∧ hi = hiN P ∧ bd = bdN P := fun h => ⟨by subst hw2; exact RowS.fits (hyes h).1 ((Grow.refl _).alloc _), by subst hw2; exact RowS.fits (hyes h).2.1 ((Grow.refl _).alloc _), (hyes h).2.2⟩
 have HYes := keep hyes2
 have HOk := keep hok
 have HO2 := keep hO2
 have HG2 := keep hg2
 have HGW := keep (Grow.trans hg0 hg2)
 clear hyes hyes2 hok hb1 hO2 hg2
 go_upto_region 2 with fail
 rw [← hw2]
 clear hw2
 have hP2 := HP0.out.fits HG2.out
 unfold pgCells at hP2
 obtain ⟨p0, p1, p2, p3, p4, p5, _⟩ := pgres hP2
 obtain ⟨o0, o1, o2, o3, o4, o5, _⟩ := pgres HO2.out
 have hd := HD.out
 rw [← HOk.out] at hd
 have HD2 := keep hd
 clear hd
 cases ok with
 | false =>
  have hno : entriesOk P = false := HD2.out
  go_wp2_with fail
  go_ret2
  unfold EntPost
  rw [hno, if_neg (by decide)]
  exact ⟨rfl, HGW.out⟩
 | true =>
  obtain ⟨hes, _, _, _⟩ := HYes.out rfl
  by_cases hlv : P.level = 0
  ·have hyes : entriesOk P = true := by rw [HD2.out, decide_eq_true hlv]; rfl
   have hlv2 : (P.level != 0) = false := by simp [hlv]
   have hform : n1 = (ensN P).length := by
    rcases hes with ⟨h0, _, a, cap, h⟩ | ⟨c, off, cap, blk, f, h, _⟩
    ·simp only [Value.slice.injEq] at h; omega
    ·simp only [Value.slice.injEq] at h; exact h.2.1
   subst hform
   have HEs := keep hes
   have HYs := keep hyes
   clear hlv hes hyes
   go_wp2_with fail
   go_ret2
   unfold EntPost
   rw [HYs.out, if_pos rfl]
   exact ⟨⟨a1, c1, rfl, HEs.out⟩, HGW.out⟩
  ·have hno : entriesOk P = false := by rw [HD2.out, decide_eq_false hlv]; rfl
   have hlv2 : (P.level != 0) = true := by simp [hlv]
   have HNo := keep hno
   clear hlv hno
   go_wp2_with fail
   go_ret2
   unfold EntPost
   rw [HNo.out, if_neg (by decide)]
   exact ⟨rfl, HGW.out⟩
end Go.Proofs.YtaninphcgeaepaaGreat
namespace Go.Proofs.YtaninphcgeaepaaGreat
open Go.RowKit
def pgOf (l : List En) : Pg := ⟨0, 3, 0, 0, [], l.map fun e => enBytes e []⟩
structure GoodL (l : List En) : Prop where
 sorted : Sorted l
 ok : ∀ e ∈ l, enOk e = true
 fit : fitsP (pgOf l) = true
end Go.Proofs.YtaninphcgeaepaaGreat
namespace Go.Proofs.YtaninphcgeaepaaGreat
open Go.RowKit
attribute [local go_sem] givesF_none givesF_some evalF_tmp evalF_const evalF_global evalF_func lookL isB_bool isB_undef givesUpon_value givesUpon_skip givesUpon_enter
attribute [local simp] eql_entry
attribute [local go_sem] guard_entry
def IdxPost (l : List En) (t : En) (i : Int) : Prop := (i = -1 ∧ t ∉ l) ∨ ∃ k : Nat, i = k ∧ ∃ hk : k < l.length, l[k] = t
set_option maxRecDepth 100000 in
set_option maxHeartbeats 2000000 in
theorem index_any (t : En) (l : List En) (v : Value) (w_ : World) (h : EnsS w_ v l) (hl : l.length ≤ 1759218604441) :
  Calls Tryz.prog 83 #[v, enV t] w_ fun x w' => ∃ i, x = .returned (.int .i64 i) ∧ IdxPost l t i ∧ Below w_.heap.size w_ w' := by
 obtain ⟨a, cap, rfl⟩ : ∃ a cap, v = .slice a l.length cap := by
  rcases h with ⟨h1, _, a, cap, h2⟩ | ⟨c, off, cap, blk, f, h1, _⟩
  ·exact ⟨a, cap, by rw [h2, h1]⟩
  ·exact ⟨_, _, h1⟩
 have hcells : ∀ m (hm : m < l.length), ∃ c off, a = some ⟨c, off, none⟩ ∧ ∀ u, Grow w_ u → (u.cell? ⟨c, off + m * 3, none⟩ = some (.string (str l[m].1)) ∧ u.cell? ⟨c, off + m * 3 + 1, none⟩ = some (.int .i64 l[m].2.1) ∧ u.cell? ⟨c, off + m * 3 + 2, none⟩ = some (.int .i64 l[m].2.2)) := by
  intro m hm
  obtain ⟨c, off, cap', e, hc⟩ := ens_cells h.weak (by omega)
  simp only [Value.slice.injEq] at e
  refine ⟨c, off, e.1, fun u hu => ?_⟩
  have := hc m hm
  exact ⟨(Below.cell hu (World.block_lt_of_cell? w_ _ this.1)).trans this.1, (Below.cell hu (World.block_lt_of_cell? w_ _ this.2.1)).trans this.2.1, (Below.cell hu (World.block_lt_of_cell? w_ _ this.2.2)).trans this.2.2⟩
 obtain ⟨k, p, s⟩ := t
 obtain ⟨w0, hw0⟩ : ∃ w0, w0 = (w_.alloc (.cells #[.string (str k), .int .i64 p, .int .i64 s] 41)) := ⟨_, rfl⟩
 have hg0 : Grow w_ w0 := by subst hw0; exact (Grow.refl w_).alloc _
 have hT0 : Blk w0 w_.heap.size 41 [.string (str k), .int .i64 p, .int .i64 s] := by
  have := Blk.new w_ 41 [.string (str k), .int .i64 p, .int .i64 s]
  subst hw0; exact this
 have HCells := keep hcells
 have HT := keep (fun (u : World) (hu : Grow w0 u) => Blk.fits hT0 hu)
 clear h hcells hT0
 unfold enV
 go_enter Tryz.func83, Tryz.ntmps83
 go_upto_region 1 with fail
 rw [← hw0]
 clear hw0
 go_wp2_with fail
 go_loopw [8] (fun i wr => ∃ n : Nat, n ≤ l.length ∧ i = .int .i64 n ∧ Kept (∀ x (hx : x < l.length), x < n → l[x] ≠ (k, p, s)) ∧ Kept (Grow w0 wr)) (fun i _ => l.length - (intOf i).toNat)
 case atStart => exact ⟨0, Nat.zero_le _, rfl, keep (fun x hx h => absurd h (Nat.not_lt_zero _)), keep (Grow.refl _)⟩
 case round =>
  obtain ⟨n, hn, rfl, H1, HG⟩ := hrel
  by_cases hlt : n < l.length
  ·go_upto_region 4 with fail
   obtain ⟨c2, off2, rfl, hcm⟩ := HCells.out n hlt
   have HCm := keep (fun (u : World) (hu : Grow wr.drew u) => hcm u (Grow.trans hg0 (Grow.trans HG.out (Grow.undrew hu))))
   have HTm := keep (fun (u : World) (hu : Grow wr.drew u) => enres (HT.out u (Grow.trans HG.out (Grow.undrew hu))))
   have hln : ∃ e, e = l[n] := ⟨_, rfl⟩
   obtain ⟨e, he⟩ := hln
   rw [← he] at HCm
   have He := keep he
   clear he hcm
   obtain ⟨mk, mp, ms⟩ := e
   dsimp only at HCm
   go_cut [16] from 11 to 16 (fun sv wx => sv = .bool (sameE (k, p, s) (mk, mp, ms)) ∧ Grow wr wx)
   case first =>
    refine wp_region_grow_named (by kernel_rfl) 5 (by kernel_rfl) [(11, 0), (12, 1), (13, 2), (14, 3), (15, 4)] (by kernel_rfl) [(0, true), (1, true), (2, true), (3, true), (4, true)] (by kernel_rfl) rfl rfl ?_
    intro a0 ha0
    have hsz : a0.tmps.size = 19 := (size_at ha0).trans rfl
    have s0 := slot_at ha0 0 rfl
    have s3 := slot_at ha0 3 rfl
    have s5 := slot_at ha0 5 rfl
    have HA0 := keep ha0
    clear ha0
    apply lq hsz [] [(12, 1), (13, 2), (14, 3), (15, 4)] none (by kernel_rfl) rfl
    ·intro xs w hw hp K hK
     obtain ⟨c0, c1, c2, _⟩ := HTm.out w hw
     go_simp
     exact hK _ (Grow.refl _)
    apply lq hsz [] [(11, 0), (13, 2), (15, 4), (16, 5)] none (by kernel_rfl) rfl
    ·intro xs w hw hp K hK
     go_simp
     exact hK _ (Grow.refl _)
    apply lq hsz [] [(11, 0), (12, 1), (15, 4), (16, 5)] none (by kernel_rfl) rfl
    ·intro xs w hw hp K hK
     go_simp
     exact hK _ (Grow.refl _)
    apply lq hsz [(1, true), (2, true)] [(11, 0), (12, 1), (13, 2), (16, 5)] none (by kernel_rfl) rfl
    ·intro xs w hw hp K hK
     simp only [holdsL, List.nil_append, List.cons_append, List.getD_cons_succ, List.getD_cons_zero, if_true, and_true] at hp
     have q1 : n < l.length := hlt
     go_simp
     exact hK _ (Grow.refl _)
    apply lq hsz [(3, true)] [(11, 0), (12, 1), (13, 2), (14, 3)] none (by kernel_rfl) rfl
    ·intro xs w hw hp K hK
     simp only [holdsL, List.nil_append, List.cons_append, List.getD_cons_succ, List.getD_cons_zero, if_true, and_true] at hp
     obtain ⟨c0, c1, c2⟩ := HCm.out w hw
     go_simp
     exact hK _ (Grow.refl _)
    intro xs w hw hp
    have ha0 := HA0.out
    clear HA0 hsz s0 s3 s5
    simp only [holdsL, List.nil_append, List.cons_append, List.getD_cons_succ, List.getD_cons_zero, if_true, and_true] at hp
    have h0 := hp.1
    have h4 := hp.2.2.2.2
    clear hp
    subst ha0
    simp only [putAll, h0, h4]
    have hgw : Grow wr w := hw.undrew
    clear hw h0 h4
    go_wp2_with fail
    all_goals go_meet
    all_goals (case rel => exact ⟨rfl, hgw⟩)
   case rest =>
    obtain ⟨rfl, hgw⟩ := hcut
    have HG2 := keep (Grow.trans HG.out hgw)
    clear hgw
    generalize hS : sameE (k, p, s) (mk, mp, ms) = S
    cases S with
    | true =>
     have hq : (k, p, s) = (mk, mp, ms) := by simpa [sameE] using hS
     have HQ := keep hq
     clear hS hq
     go_wp2_with fail
     go_ret
     refine ⟨n, rfl, .inr ⟨n, rfl, hlt, ?_⟩, Grow.trans hg0 HG2.out⟩
     rw [HQ.out, He.out]
    | false =>
     have hq : (k, p, s) ≠ (mk, mp, ms) := by simpa [sameE] using hS
     have HQ := keep hq
     clear hS hq
     go_wp2_with fail
     go_roundw
     case rel =>
      refine ⟨n + 1, by omega, by go_num, keep (fun x hx hxn => ?_), HG2⟩
      by_cases e : x = n
      ·subst e
       rw [← He.out]
       exact HQ.out.symm
      ·exact H1.out x hx (by omega)
     case measure => simp [intOf]; omega
  ·have e : n = l.length := by omega
   subst e
   go_wp2_with fail
   go_ret
   refine ⟨-1, rfl, .inl ⟨rfl, fun hm => ?_⟩, Grow.trans hg0 HG.out⟩
   obtain ⟨x, hx, he⟩ := List.mem_iff_getElem.1 hm
   exact H1.out x hx hx he
end Go.Proofs.YtaninphcgeaepaaGreat
namespace Go.Proofs.YtaninphcgeaepaaGreat
open Go.RowKit
attribute [local go_sem] givesF_none givesF_some evalF_tmp evalF_const evalF_global evalF_func lookL isB_bool isB_undef givesUpon_value givesUpon_skip givesUpon_enter
end Go.Proofs.YtaninphcgeaepaaGreat
namespace Go.Proofs.YtaninphcgeaepaaGreat
open Go.RowKit
end Go.Proofs.YtaninphcgeaepaaGreat
namespace Go.Proofs.YtaninphcgeaepaaGreat
open Go.RowKit
attribute [local go_sem] givesF_none givesF_some evalF_tmp evalF_const evalF_global evalF_func lookL isB_bool isB_undef givesUpon_value givesUpon_skip givesUpon_enter
def childOk (P : Pg) (e : En) : Bool := openOk P && (!decide (P.level = 0) && (enOk e && !beyN (bdN P) (hiN P) e))
def childN (P : Pg) (e : En) : Int × Int := if childOk P e then ((kidsN P).getD (posE (ensN P) e - 1) 0, 0) else (0, 140)
theorem least_lt {e : En} (h : enOk e = true) : cmpE leastE e < 0 := by
 obtain ⟨k, p, s⟩ := e
 simp only [enOk, inB, Bool.and_eq_true, decide_eq_true_eq] at h
 cases k with
 | nil => simp at h
 | cons a k => unfold cmpE leastE or3; simp [Lib.compareBytes]
theorem first_least {P : Pg} (h : openOk P = true) (hlv : P.level ≠ 0) : 0 < P.items.length ∧ ∀ hl : 0 < (ensN P).length, (ensN P)[0] = leastE := by
 unfold openOk at h
 simp only [Bool.and_eq_true] at h
 have hl : 0 < P.items.length := by
  have := h.2.2
  rw [decide_eq_false hlv, Bool.false_or, decide_eq_true_eq] at this
  exact this
 refine ⟨hl, fun hl2 => ?_⟩
 have h1 := okTo_at h.2.1 0 hl
 simp only [roundOk, Bool.and_eq_true] at h1
 have h2 := h1.1
 rw [decide_eq_false hlv, Bool.false_or] at h2
 simp at h2
 have e1 : (ensN P)[0] = (itemN P.level (P.items.getD 0 [])).1 := by simp [ensN, ensTo, hl]
 rw [e1]
 simpa [hl] using h2
theorem pos_one {P : Pg} {e : En} (h : openOk P = true) (hlv : P.level ≠ 0) (he : enOk e = true) : 1 ≤ posE (ensN P) e := by
 obtain ⟨h1, h2⟩ := first_least h hlv
 have hl : 0 < (ensN P).length := by rw [ensN_length]; exact h1
 unfold posE
 refine List.countP_pos_iff.2 ⟨(ensN P)[0], List.getElem_mem hl, ?_⟩
 rw [h2 hl]
 exact decide_eq_true (least_lt he)
theorem kidsN_length {P : Pg} (hlv : P.level ≠ 0) : (kidsN P).length = P.items.length := by
 unfold kidsN kidsTo
 rw [if_neg hlv]
 simp
set_option maxRecDepth 100000 in
set_option maxHeartbeats 4000000 in
theorem child_node (P : Pg) (iv : Value) (e : En) (w_ : World) (hin : PgIn w_ iv P) :
  Calls Tryz.prog 39 #[pgV P iv, enV e] w_ fun x w' => x = .returned (.tuple #[.int .i64 (childN P e).1, .int .i64 (childN P e).2]) ∧ Below w_.heap.size w_ w' := by
 have hie := fun u => isEntry_any e u
 have hbe := fun (a1 a2 : Option Addr) (n1 c1 n2 c2 : Nat) (hi : En) (bd : Bool) (u : World) => beyond_any a1 a2 n1 c1 n2 c2 hi e bd u
 have hse := fun (l : List En) (v : Value) (u : World) (h : EnsS u v l) (hl : l.length ≤ 1759218604441) (hs : Sorted l) => search_any e l v u h hl hs
 have hd : childN P e = if openOk P && (!decide (P.level = 0) && (enOk e && !beyN (bdN P) (hiN P) e)) then ((kidsN P).getD (posE (ensN P) e - 1) 0, 0) else (0, 140) := rfl
 have hpo := fun h1 h2 h3 => pos_one (P := P) (e := e) h1 h2 h3
 unfold enV at hie hbe hse
 have HIe := keep hie
 have HBe := keep hbe
 have HSe := keep hse
 have HD := keep hd
 have HPo := keep hpo
 clear hie hbe hse hd hpo
 obtain ⟨k, p, s⟩ := e
 obtain ⟨w0, hw0⟩ : ∃ w0, w0 = ((w_.alloc (.cells (pgCells P iv).toArray 24)).alloc (.cells #[.string (str k), .int .i64 p, .int .i64 s] 41)) := ⟨_, rfl⟩
 have hg0 : Grow w_ w0 := by subst hw0; exact ((Grow.refl w_).alloc _).alloc _
 have hP0 : Blk w0 w_.heap.size 24 (pgCells P iv) := by
  have := (Blk.new w_ 24 (pgCells P iv)).alloc (.cells #[.string (str k), .int .i64 p, .int .i64 s] 41)
  subst hw0; exact this
 have hE0 : Blk w0 (w_.heap.size + 1) 41 [.string (str k), .int .i64 p, .int .i64 s] := by
  have := Blk.new (w_.alloc (.cells (pgCells P iv).toArray 24)) 41 [.string (str k), .int .i64 p, .int .i64 s]
  have e : (w_.alloc (.cells (pgCells P iv).toArray 24)).heap.size = w_.heap.size + 1 := by simp
  rw [e] at this
  subst hw0; exact this
 have hop := opened_pg (hin.fits hg0)
 obtain ⟨ia, ic, rfl⟩ := items_form hin.1
 have HOp := keep hop
 have HIn := keep hin
 have HP0 := keep hP0
 have HE0 := keep hE0
 clear hop hin hE0
 unfold pgCells at hw0 hP0
 obtain ⟨p0, p1, p2, p3, p4, p5, _⟩ := pgres hP0
 unfold pgV enV
 go_enter Tryz.func39, Tryz.ntmps39
 go_upto_region 1 with fail
 rw [← hw0]
 clear hw0
 go_wp2_with fail
 refine HOp.out.mono ?_
 rintro x w1 ⟨a1, n1, c1, a2, n2, c2, hi, bd, ok, rfl, hok, hyes, hb1⟩
 clear p0 p1 p2 p3 p4 p5 hP0
 obtain ⟨w2, hw2⟩ : ∃ w2, w2 = w1.alloc (.cells #[.slice a1 n1 c1, .slice a2 n2 c2, .string (str hi.1), .int .i64 hi.2.1, .int .i64 hi.2.2, .bool bd] 97) := ⟨_, rfl⟩
 have hg2 : Grow w0 w2 := by subst hw2; exact Grow.alloc hb1 _
 have hO2 : Blk w2 w1.heap.size 97 [.slice a1 n1 c1, .slice a2 n2 c2, .string (str hi.1), .int .i64 hi.2.1, .int .i64 hi.2.2, .bool bd] := by subst hw2; exact Blk.new w1 _ [_, _, _, _, _, _]
 have hyes2 : ok = true → EnsS w2 (.slice a1 n1 c1) (ensN P) ∧ IntsS w2 (.slice a2 n2 c2) (kidsN P) ∧ hi = hiN P ∧ bd = bdN P := fun h => ⟨by subst hw2; exact RowS.fits (hyes h).1 ((Grow.refl _).alloc _), by subst hw2; exact RowS.fits (hyes h).2.1 ((Grow.refl _).alloc _), (hyes h).2.2⟩
 have HYes := keep hyes2
 have HOk := keep hok
 have HO2 := keep hO2
 have HG2 := keep hg2
 have HGW := keep (Grow.trans hg0 hg2)
 clear hyes hyes2 hok hb1 hO2 hg2
 go_upto_region 2 with fail
 rw [← hw2]
 clear hw2
 have hP2 := HP0.out.fits HG2.out
 unfold pgCells at hP2
 obtain ⟨p0, p1, p2, p3, p4, p5, _⟩ := pgres hP2
 obtain ⟨o0, o1, o2, o3, o4, o5, _⟩ := pgres HO2.out
 have hE2 := HE0.out.fits HG2.out
 obtain ⟨e0, e1, e2, _⟩ := enres hE2
 have hHIe := HIe.out
 have hHBe := HBe.out
 have hHSe := HSe.out
 have hHPo := HPo.out
 try dsimp only at hHIe
 try dsimp only at hHBe
 try dsimp only at hHSe
 have HIe := keep hHIe
 have HBe := keep hHBe
 have HSe := keep hHSe
 clear hHIe hHBe hHSe
 go_cut [31] from 15 to 31 (fun sv wx => sv = .bool (!(ok && (!decide (P.level = 0) && (enOk (k, p, s) && !beyN bd hi (k, p, s))))) ∧ Grow w2 wx)
 case first =>
  clear hHPo
  cases ok with
  | false =>
   go_wp2_with fail
   all_goals go_meet
   all_goals (case rel => exact ⟨rfl, Grow.refl _⟩)
  | true =>
   by_cases hlv : P.level = 0
   ·have hlv2 : (P.level == 0) = true := by simp [hlv]
    have HLv := keep hlv
    clear hlv
    go_wp2_with fail
    all_goals go_meet
    all_goals (case rel => exact ⟨by simp [HLv.out], Grow.refl _⟩)
   ·have hlv2 : (P.level == 0) = false := by simp [hlv]
    have HLv := keep hlv
    clear hlv
    generalize enOk (k, p, s) = A at *
    go_wp2_with fail
    refine (HIe.out w2).mono ?_
    rintro x w3 ⟨rfl, hb3⟩
    cases A with
    | false =>
     go_wp2_with fail
     all_goals go_meet
     all_goals (case rel => exact ⟨by simp, hb3⟩)
    | true =>
     have hE3 := hE2.fits hb3
     have hO3 := HO2.out.fits hb3
     clear e0 e1 e2 o0 o1 o2 o3 o4 o5
     obtain ⟨e0, e1, e2, _⟩ := enres hE3
     obtain ⟨o0, o1, o2, o3, o4, o5, _⟩ := pgres hO3
     have hbe := HBe.out a1 a2 n1 c1 n2 c2 hi bd w3
     generalize beyN bd hi (k, p, s) = B at *
     have HB := keep hbe
     clear hE3 hO3 hbe
     go_wp2_with fail
     refine HB.out.mono ?_
     rintro x w4 ⟨rfl, hb4⟩
     go_wp2_with fail
     all_goals go_meet
     all_goals (case rel => exact ⟨by simp [HLv.out], Grow.trans hb3 hb4⟩)
 case rest =>
  obtain ⟨rfl, hg3⟩ := hcut
  clear p0 p1 p2 p3 p4 p5 e0 e1 e2 o0 o1 o2 o3 o4 o5 hP2 hE2
  generalize wc = w3 at *
  have HG3 := keep (Grow.trans HG2.out hg3)
  have HGW3 := keep (Grow.trans HGW.out hg3)
  generalize hM : (ok && (!decide (P.level = 0) && (enOk (k, p, s) && !beyN bd hi (k, p, s)))) = M
  cases M with
  | false =>
   have hno : childN P (k, p, s) = (0, 140) := by
    rw [HD.out, ← HOk.out]
    cases ok with
    | false => rfl
    | true =>
     obtain ⟨_, _, h2, h3⟩ := HYes.out rfl
     rw [← h2, ← h3, hM]
     rfl
   have HNo := keep hno
   clear hM hno hg3 hHPo
   go_wp2_with fail
   go_ret2
   rw [HNo.out]
   exact ⟨rfl, HGW3.out⟩
  | true =>
   have hm : ok = true ∧ P.level ≠ 0 ∧ enOk (k, p, s) = true ∧ beyN bd hi (k, p, s) = false := by simpa [and_assoc] using hM
   obtain ⟨rfl, hlv, hen, hbe⟩ := hm
   obtain ⟨hes, hks, rfl, rfl⟩ := HYes.out rfl
   have hes3 : EnsS w3 (.slice a1 n1 c1) (ensN P) := RowS.fits hes hg3
   have hks3 : IntsS w3 (.slice a2 n2 c2) (kidsN P) := RowS.fits hks hg3
   have hopen : openOk P = true := HOk.out.symm
   have hd2 : childN P (k, p, s) = ((kidsN P).getD (posE (ensN P) (k, p, s) - 1) 0, 0) := by
    rw [HD.out, hopen, hM.symm.trans (by rfl)]
    simp [hlv, hen, hbe]
   have hp1 := HPo.out hopen hlv hen
   have hp2 := posE_le (ensN P) (k, p, s)
   rw [ensN_length] at hp2
   have hp3 := kidsN_length hlv
   have hp4 := (open_fine hopen).1
   have hsc := HSe.out (ensN P) (.slice a1 n1 c1) w3 hes3 (by rw [ensN_length]; omega) (open_sorted hopen)
   have hE3 := HE0.out.fits HG3.out
   have hO3 := HO2.out.fits hg3
   generalize posE (ensN P) (k, p, s) = J at *
   obtain ⟨e0, e1, e2, _⟩ := enres hE3
   obtain ⟨o0, o1, o2, o3, o4, o5, _⟩ := pgres hO3
   have HSc := keep hsc
   have HD2 := keep hd2
   have HKs := keep hks3
   have HO3 := keep hO3
   clear hM hlv hen hbe hes hes3 hopen hd2 hsc hg3 hE3 hO3 hHPo hks hks3
   go_wp2_with fail
   refine HSc.out.mono ?_
   rintro x w4 ⟨rfl, hb4⟩
   clear e0 e1 e2 o0 o1 o2 o3 o4 o5
   have hO4 := HO3.out.fits hb4
   obtain ⟨o0, o1, o2, o3, o4, o5, _⟩ := pgres hO4
   have hks4 : IntsS w4 (.slice a2 n2 c2) (kidsN P) := RowS.fits HKs.out hb4
   obtain ⟨a, cap, he, hcc⟩ := ints_form hks4.weak
   simp only [Value.slice.injEq] at he
   obtain ⟨rfl, rfl, rfl⟩ := he
   obtain ⟨cc, co, rfl, hcell⟩ := hcc (J - 1) (by omega)
   have HGW4 := keep (Grow.trans HGW3.out hb4)
   have hjm : wrap64 ((J : Int) - 1) = (J : Int) - 1 := by
    rw [show (J : Int) - 1 = ((J - 1 : Nat) : Int) by omega]
    exact wrap64_small _ (by omega)
   have hj0 : (0 : Int) ≤ (J : Int) - 1 := by omega
   have hjn : (J : Int) - 1 < ((kidsN P).length : Int) := by omega
   clear hO4 hks4 hcc hb4 hp1 hp2 hp3 hp4
   go_wp2_with fail
   go_ret2
   rw [HD2.out]
   exact ⟨rfl, HGW4.out⟩
end Go.Proofs.YtaninphcgeaepaaGreat
