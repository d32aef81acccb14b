
/- Begun of a table. -/
import Derived.Test.YtgijmlienolhpaaTs2
import Derived.Test.YtgijmlienolhpaaLexf
import Derived.Deep.CutRange
namespace Go.Proofs.Ytgijmlienolhpaa
open Go.RowKit Go.Maps Go.Shelf Go.Sort
attribute [local go_sem] givesF_none givesF_some evalF_tmp evalF_const evalF_global evalF_func lookL isB_bool isB_undef givesUpon_value givesUpon_skip givesUpon_enter

def bgC (b : Int × Int) : List Value := [.int .i64 b.1, .int .i64 b.2]
def bgCells (l : List (Int × Int)) : List Value := l.flatMap bgC
theorem bgCells_length (l : List (Int × Int)) : (bgCells l).length = l.length * 2 := by
  induction l with
  | nil => rfl
  | cons x r ih => rw [bgCells, List.flatMap_cons, List.length_append, List.length_cons, show (List.flatMap bgC r).length = _ from ih]; simp [bgC]; omega
theorem bgCells_append (a b : List (Int × Int)) : bgCells (a ++ b) = bgCells a ++ bgCells b := by simp [bgCells]
theorem bgCells_get (l : List (Int × Int)) (t : Nat) (h : t < l.length * 2) : (bgCells l)[t]? = (bgC (l[t / 2]'(by omega)))[t % 2]? := by
  induction l generalizing t with
  | nil => simp at h
  | cons x r ih =>
    rw [bgCells, List.flatMap_cons]
    match t, h with
    | 0, _ => simp [bgC]
    | 1, _ => simp [bgC]
    | t + 2, h =>
      have e : (t + 2) / 2 = t / 2 + 1 := by omega
      have e2 : (t + 2) % 2 = t % 2 := by omega
      rw [List.getElem?_append_right (by simp [bgC])]
      have := ih t (by simp at h; omega)
      simp only [e, e2, List.getElem_cons_succ]
      rw [← this]
      simp [bgC, bgCells]

theorem wrap_sub (a b : Int) (h : 0 ≤ a) (h2 : a ≤ 9223372036854775807) (h3 : 0 ≤ b) (h4 : b ≤ 9223372036854775807) : IntKind.i64.wrap (a - b) = a - b := by
  simp [IntKind.wrap, IntKind.bits, IntKind.signed]; omega

set_option maxRecDepth 100000 in
theorem beg1_any (a b : Int × Int) (w : World) (ha : 0 ≤ a.1 ∧ a.1 ≤ 9223372036854775807) (hb : 0 ≤ b.1 ∧ b.1 ≤ 9223372036854775807) :
    Calls Try.prog 43 #[.agg #[.int .i64 a.1, .int .i64 a.2], .agg #[.int .i64 b.1, .int .i64 b.2]] w fun e w' => e = .returned (.int .i64 (a.1 - b.1)) ∧ ∃ q os', w' = grow (w.drewN q) os' := by
  have hs := wrap_sub a.1 b.1 ha.1 ha.2 hb.1 hb.2
  obtain ⟨x1, x2⟩ := a
  obtain ⟨y1, y2⟩ := b
  dsimp only at *
  have hw2 : ∀ o1 o2, (w.alloc o1).alloc o2 = grow (w.drewN 0) #[o1, o2] := by
    intro o1 o2
    rw [alloc_eq_grow, alloc_eq_grow, grow_grow]
    rfl
  have HW2 := keep hw2
  clear ha hb hw2
  go_enter Try.func43, Try.ntmps43
  go_wp2_with fail
  go_ret
  exact ⟨rfl, 0, _, HW2.out _ _⟩

/-- Ids that are ids. -/
abbrev Bg := {b : Int × Int // 0 ≤ b.1 ∧ b.1 ≤ 9223372036854775807}
instance : Inhabited Bg := ⟨⟨(0, 0), by decide, by decide⟩⟩
def encB (x : Bg) : List Value := bgC x.1
theorem map_flat (l : List Bg) (t : Nat) (h : t < l.length * 2) : (flatK encB 2 l.toArray)[t]! = (bgCells (l.map (·.1)))[t]'(by rw [bgCells_length]; simpa using h) := by
  rw [get_flatK _ _ _ _ (by simpa using h)]
  have h1 := bgCells_get (l.map (·.1)) t (by simpa using h)
  have hlt : t < (bgCells (l.map (·.1))).length := by rw [bgCells_length]; simpa using h
  rw [List.getElem?_eq_getElem hlt] at h1
  have hd : t / 2 < l.length := by omega
  have e : l.toArray[t / 2]! = l[t / 2] := by rw [getElem!_pos _ _ (by simpa using hd)]; simp
  rw [e]
  have hm : t % 2 < (encB l[t / 2]).length := by simp [encB, bgC]; omega
  rw [getElem!_pos (encB l[t / 2]) (t % 2) hm]
  have h2 : (bgC ((l.map (·.1))[t / 2]'(by simpa using hd)))[t % 2]? = some (encB l[t / 2])[t % 2] := by
    rw [List.getElem_map]
    exact List.getElem?_eq_getElem hm
  rw [h2] at h1
  exact (Option.some.inj h1).symm

theorem sort_begs (l0 l : List (Int × Int)) (hp : l.Perm l0) (hup : l.Pairwise fun a b => a.1 < b.1) (hpos : ∀ b ∈ l, 0 ≤ b.1 ∧ b.1 ≤ 9223372036854775807) (B : Nat) (w0 w : World) (hb : Below B w0 w) (hB0 : B ≤ w.heap.size) (v : Value) (hrow : w.ownsRow B 59 2 v l0.length (bgCells l0))
    (hL : l0.length ≤ 4398046511104) :
    Calls Try.prog 42 #[v, .func (.func 43) #[] #[]] w fun e w' => e = .returned (.tuple #[]) ∧ Row w' 59 v l.length (bgCells l) ∧ Below B w0 w' := by
  rcases hrow.2 with ⟨rfl, h0⟩ | ⟨g, cap, cur, rfl, hg, hh, hn, hcm, hcs, ht⟩
  · have hl0 : l0 = [] := List.eq_nil_of_length_eq_zero h0
    subst hl0
    have hl : l = [] := List.Perm.eq_nil hp
    subst hl
    refine (show Calls Try.prog 42 _ _ _ from AnyF.slices_SortFunc_none Try.l42 none 0 (.func (.func 43) #[] #[]) w).mono ?_
    rintro e w' ⟨rfl, rfl⟩
    exact ⟨rfl, .inl ⟨rfl, rfl, _, _, rfl⟩, hb⟩
  · have hpos0 : ∀ b ∈ l0, 0 ≤ b.1 ∧ b.1 ≤ 9223372036854775807 := fun b hb => hpos b (hp.mem_iff.2 hb)
    have hlen : l.length = l0.length := hp.length_eq
    obtain ⟨d, hd⟩ : ∃ d : List Bg, d = l0.pmap Subtype.mk hpos0 := ⟨_, rfl⟩
    obtain ⟨ls, hls⟩ : ∃ ls : List Bg, ls = l.pmap Subtype.mk hpos := ⟨_, rfl⟩
    have hds : d.length = l0.length := by rw [hd]; simp
    have hlss : ls.length = l.length := by rw [hls]; simp
    have hdm : d.map (·.1) = l0 := by rw [hd]; simp [List.map_pmap]
    have hlm : ls.map (·.1) = l := by rw [hls]; simp [List.map_pmap]
    have hglt : g < w.heap.size := by
      rcases Nat.lt_or_ge g w.heap.size with h | h
      · exact h
      · rw [Array.getElem?_eq_none h] at hh; cases hh
    have eg : ∀ args w, (callFunc 43 args).run Try.prog w = .ok (.enter 43 args) w := enters_of Try.func43 (by kernel_rfl) rfl
    have hlt : ∀ x y : Bg, ltOf (fun x y : Bg => x.1.1 - y.1.1) x y = decide (x.1.1 < y.1.1) := fun x y => by
      show decide (x.1.1 - y.1.1 < 0) = _
      congr 1
      exact propext (by omega)
    have hH : HoldsK encB 2 w g 0 d.toArray := by
      intro j hj
      have hj' : j < d.length * 2 := by simpa using hj
      rw [map_flat d j hj', Nat.zero_add]
      constructor
      · simp only [World.cell?, hh]
        have h2 : (cur.toList.take (l0.length * 2))[j]? = (bgCells l0)[j]? := by rw [ht]
        rw [List.getElem?_take, if_pos (by omega)] at h2
        have h3 : (bgCells (d.map (·.1)))[j]? = (bgCells l0)[j]? := by rw [hdm]
        rw [List.getElem?_eq_getElem (by rw [bgCells_length]; simpa using hj')] at h3
        rw [← h3] at h2
        simpa using h2
      · simp [World.frozen?, hh]
    have hcon := AnyQ.slices_SortFunc Try.l42 2 (fun _ => by kernel_rfl) (fun _ => by kernel_rfl) encB (fun _ => rfl) (fun x v hv => by simp [encB, bgC] at hv; rcases hv with rfl | rfl <;> rfl) (fun x y : Bg => x.1.1 - y.1.1) (swo_of (fun x => x.1.1) hlt) 43 #[] g 0 cap d.toArray w eg ?_ hH hglt (by simp; omega)
    · rw [show d.toArray.size = l0.length by simpa using hds] at hcon
      refine hcon.mono ?_
      rintro e w' ⟨rfl, d', n, os, hpm, hso, rfl⟩
      have hl' : d'.toList = ls := by
        rw [show l0.length = d.toArray.size by simpa using hds.symm] at hpm hso
        refine sorted_is (fun x : Bg => x.1.1) _ hlt hpm hso ?_ ?_
        · subst hls hd
          exact List.Perm.pmap _ hp
        · subst hls
          exact hup.pmap hpos (fun _ _ _ _ h => h)
      have hd's : d'.size = ls.length := by rw [← hl']; simp
      have hd'a : d' = ls.toArray := by rw [← hl']
      subst hd'a
      refine ⟨rfl, .inr ⟨g, 0, cap, by rw [hlen], fun j hj => ?_⟩, hb.trans (below_sort id w g 0 n (flatK encB 2 ls.toArray) os hg hB0)⟩
      have hj2 : j < ls.length * 2 := by rw [bgCells_length] at hj; omega
      have h1 := (holdsK_grow encB 2 (putRowK encB 2 (Sort.ahead w n) g 0 ls.toArray) os g 0 ls.toArray (by simpa [putRowK] using hglt) (holdsK_putRowK encB 2 _ _ _ _ _ (holdsK_ahead encB 2 w n g 0 _ hH) (by simp; omega)) j (by simpa using hj2)).1
      rw [map_flat ls j hj2] at h1
      refine h1.trans ?_
      simp only [hlm]
      rfl
    · intro m os dk hs x y
      exact beg1_any x.1 y.1 _ x.2 y.2

theorem owns_fitsT {w w' : World} {b e s n : Nat} {v : Value} {xs : List Value} (h : w.ownsRow b e s v n xs) (k : Grow w w') : w'.ownsRow b e s v n xs :=
  h.kept (row := none) ⟨k.os, k.tape, k.output, k.size, fun i hi _ => k.block i hi⟩ (by cases v.ownBlock <;> simp)
theorem blk_two {w : World} {b t : Nat} {x y : Value} (h : Blk w b t [x, y]) : ∀ j u, [x, y][j]? = some u → w.cell? ((⟨b, 0, none⟩ : Addr).add j) = some u := by
  intro j u hj
  have h0 := h.cell 0 (by simp)
  have h1 := h.cell 1 (by simp)
  match j, hj with
  | 0, hj => simp at hj; subst hj; simpa [Addr.add] using h0
  | 1, hj => simp at hj; subst hj; simpa [Addr.add] using h1
theorem infoBeg : (Try.prog.info? 59).map (fun i => (i.zero, i.size, i.bytes)) = some (some (.agg #[.int .i64 0, .int .i64 0]), 2, 16) := by kernel_rfl
theorem take_st (T : Tr) (k : Nat) (hk : k < T.length) : stT (T.take (k + 1)) = stT (T.take k) ++ [(T[k].1, T[k].2.2)] := by
  unfold stT
  rw [List.take_succ_eq_append_getElem hk, List.map_append]; rfl
theorem begs_step (T : Tr) (k : Nat) (hk : k < T.length) : begs (stT (T.take (k + 1))) = begs (stT (T.take k)) ++ (if T[k].2.2.xid = 0 then [] else [(T[k].2.2.xid, T[k].2.2.last)]) := by
  rw [take_st T k hk]
  unfold begs
  rw [List.filterMap_append]
  congr 1
  rw [List.filterMap_cons]
  by_cases h : T[k].2.2.xid = 0 <;> simp [h]
theorem begs_len (S : St) : (begs S).length ≤ S.length := List.length_filterMap_le _ _
/-- The state ahead of round k. -/
def BegRel (T : Tr) (w1 : World) (x i : Value) (wr : World) : Prop := ∃ (k : Nat) (a : Option Addr) (cap : Nat), k ≤ T.length ∧ x = .slice a (begs (stT (T.take k))).length cap ∧ i = .int .i64 k ∧
  Kept (wr.ownsRow w1.heap.size 59 2 (.slice a (begs (stT (T.take k))).length cap) (begs (stT (T.take k))).length (bgCells (begs (stT (T.take k))))) ∧ Kept (Below w1.heap.size w1 wr)
def BgPost (T : Tr) (w : World) (e : Ending) (w' : World) : Prop := ∃ v, e = .returned v ∧ Row w' 59 v (begunT (stT T)).length (bgCells (begunT (stT T))) ∧ Below w.heap.size w w' ∧ FreshB w.heap.size v

set_option maxRecDepth 100000 in
set_option maxHeartbeats 4000000 in
theorem begun_any (O : Nat → Prop) (tb : Nat) (T : Tr) (w_ : World) (h : TabT w_ O tb T) (hL : T.length ≤ 4398046511104) (K : Nat) (hF : Fit K (stT T)) (hN : ∀ x ∈ T, x.2.2.xid ≤ 9223372036854775807) :
    Calls Try.prog 27 #[.pointer (some ⟨tb, 0, none⟩)] w_ (BgPost T w_) := by
  obtain ⟨iB, hiB, hzB0, hzB1, hzB2⟩ := info_parts infoBeg
  have hall := all_any O tb T w_ h hL
  have HT0 := keep h
  have HF := keep hF
  have HN := keep hN
  have HL := keep hL
  clear h hF hN hL
  go_enter Try.func27, Try.ntmps27
  go_wp2_with (go_at_call 33; refine hall.mono ?_; rintro e w1 ⟨v, rfl, hrow, hb1⟩; obtain ⟨va, vc, rfl⟩ := row_sl hrow; have HR := keep hrow; have HB1 := keep hb1; clear hrow hb1)
  clear hall
  go_loopw [3, 9] (fun x i wr => BegRel T w1 x i wr) (fun _ i _ => T.length - (intOf i).toNat)
  case atStart => exact show BegRel T w1 _ _ _ from ⟨0, none, 0, Nat.zero_le _, rfl, rfl, keep (by simpa [stT, begs, bgCells] using World.ownsRow_nil _ _ _ _), keep (Below.refl _ _)⟩
  case round =>
    obtain ⟨k, a, cap, hkl, rfl, rfl, HO, HG⟩ := hrel
    by_cases hlt : k < T.length
    · have hr := Row.fits HR.out HG.out
      rcases hr with ⟨h0, _⟩ | ⟨c, off, cap2, e, hcl⟩
      · omega
      simp only [Value.slice.injEq] at e
      obtain ⟨rfl, _, rfl⟩ := e
      have hcell := hcl k (by simpa using hlt)
      simp only [List.getElem_map] at hcell
      have hst := begs_step T k hlt
      have hrw := HT0.out.rows T[k] (List.getElem_mem hlt)
      have hxn := HN.out T[k] (List.getElem_mem hlt)
      have hle : (begs (stT (T.take k))).length ≤ k := Nat.le_trans (begs_len _) (by simp [stT]; omega)
      have hTl := HL.out
      generalize begs (stT (T.take k)) = bs at *
      generalize T[k] = x at *
      obtain ⟨who, b, t⟩ := x
      dsimp only at hcell hst hrw hxn
      obtain ⟨-, av, hbk, -⟩ := hrw
      have hgx : Grow w_ wr := Grow.trans HB1.out HG.out
      have hbk2 := hbk.fits hgx
      unfold tnC at hbk2
      have HBx := keep (fun (u : World) (hu : Grow wr u) => seven_of (hbk2.fits hu))
      obtain ⟨y0, y1, y2, y3, y4, y5, y6, _⟩ := seven_of hbk2
      have HSt := keep hst
      unfold encP at hcell
      clear hst hbk hbk2 hgx hcl
      by_cases hz : t.xid = 0
      · have hz2 : (t.xid != 0) = false := by simp [hz]
        have hst := HSt.out
        rw [if_pos hz, List.append_nil] at hst
        have HSt := keep hst
        clear hz hst
        go_wp2_with fail
        go_roundw
        case rel => exact show BegRel T w1 _ _ _ from ⟨k + 1, a, cap, by omega, by rw [HSt.out], by first | go_num | simp, keep (by rw [HSt.out]; exact HO.out), HG⟩
        case measure => simp [intOf]; omega
      · have hz2 : (t.xid != 0) = true := by simp [hz]
        have hst := HSt.out
        rw [if_neg hz] at hst
        have HSt := keep hst
        clear hz hst
        go_upto_region 6 with fail
        refine wp_region_grow_named (by kernel_rfl) 13 (by kernel_rfl) [(19, 0), (20, 1), (21, 2), (22, 3), (23, 4), (24, 5), (25, 6), (26, 7), (27, 8), (28, 9), (29, 10), (30, 11), (31, 12)] (by kernel_rfl) [(0, true), (1, true), (2, true), (3, true), (4, true), (5, true), (6, true), (7, true), (8, true), (9, true), (10, true), (11, true), (12, true)] (by kernel_rfl) rfl rfl ?_
        intro a0 ha0
        have hsz : a0.tmps.size = 37 := (size_at ha0).trans rfl
        have s5 := slot_at ha0 5 rfl
        have s3 := slot_at ha0 3 rfl
        have HA0 := keep ha0
        clear ha0
        -- operation 0
        apply lexf_eq hsz [] [(20, 1), (21, 2), (22, 3), (23, 4), (24, 5), (25, 6), (26, 7), (27, 8), (28, 9), (29, 10), (30, 11), (31, 12)] none (by kernel_rfl) (by kernel_rfl) (by kernel_rfl) (by kernel_rfl) rfl
        · intro xs w hw hp K hK
          go_simp
          exact hK _ (Grow.refl _)
        -- operation 1
        apply lexf_eq hsz [] [(19, 0), (22, 3), (23, 4), (24, 5), (25, 6), (26, 7), (27, 8), (28, 9), (29, 10), (30, 11), (31, 12), (32, 13)] none (by kernel_rfl) (by kernel_rfl) (by kernel_rfl) (by kernel_rfl) rfl
        · intro xs w hw hp K hK
          go_simp
          exact hK _ (Grow.refl _)
        -- operation 2
        apply lexf_eq hsz [(1, true)] [(19, 0), (20, 1), (23, 4), (24, 5), (25, 6), (26, 7), (27, 8), (28, 9), (29, 10), (30, 11), (31, 12), (32, 13)] none (by kernel_rfl) (by kernel_rfl) (by kernel_rfl) (by kernel_rfl) rfl
        · intro xs w hw hp K hK
          simp only [holdsL, List.nil_append, List.cons_append, List.getD_cons_succ, List.getD_cons_zero, if_true, and_true] at hp
          go_simp
          exact hK _ (Grow.refl _)
        -- operation 3
        apply lexf_eq hsz [(2, true)] [(19, 0), (20, 1), (21, 2), (24, 5), (25, 6), (26, 7), (27, 8), (28, 9), (29, 10), (30, 11), (31, 12), (32, 13)] none (by kernel_rfl) (by kernel_rfl) (by kernel_rfl) (by kernel_rfl) rfl
        · intro xs w hw hp K hK
          simp only [holdsL, List.nil_append, List.cons_append, List.getD_cons_succ, List.getD_cons_zero, if_true, and_true] at hp
          go_simp
          exact hK _ (Grow.refl _)
        -- operation 4
        apply lexf_eq hsz [(3, true)] [(19, 0), (20, 1), (21, 2), (22, 3), (25, 6), (26, 7), (27, 8), (28, 9), (29, 10), (30, 11), (31, 12), (32, 13)] none (by kernel_rfl) (by kernel_rfl) (by kernel_rfl) (by kernel_rfl) rfl
        · intro xs w hw hp K hK
          simp only [holdsL, List.nil_append, List.cons_append, List.getD_cons_succ, List.getD_cons_zero, if_true, and_true] at hp
          go_simp
          exact hK _ (Grow.refl _)
        -- operation 5
        apply lexf_eq hsz [(4, true)] [(19, 0), (20, 1), (21, 2), (22, 3), (23, 4), (25, 6), (26, 7), (27, 8), (28, 9), (29, 10), (31, 12), (32, 13)] none (by kernel_rfl) (by kernel_rfl) (by kernel_rfl) (by kernel_rfl) rfl
        · intro xs w hw hp K hK
          simp only [holdsL, List.nil_append, List.cons_append, List.getD_cons_succ, List.getD_cons_zero, if_true, and_true] at hp
          obtain ⟨y0, y1, y2, y3, y4, y5, y6, _⟩ := HBx.out w (Grow.undrew hw)
          go_simp
          exact hK _ (Grow.refl _)
        -- operation 6
        apply lexf_eq hsz [] [(19, 0), (20, 1), (21, 2), (22, 3), (23, 4), (24, 5), (27, 8), (28, 9), (29, 10), (30, 11), (31, 12), (32, 13)] none (by kernel_rfl) (by kernel_rfl) (by kernel_rfl) (by kernel_rfl) rfl
        · intro xs w hw hp K hK
          go_simp
          exact hK _ (Grow.refl _)
        -- operation 7
        apply lexf_eq hsz [(6, true)] [(19, 0), (20, 1), (21, 2), (22, 3), (23, 4), (24, 5), (25, 6), (28, 9), (29, 10), (30, 11), (31, 12), (32, 13)] none (by kernel_rfl) (by kernel_rfl) (by kernel_rfl) (by kernel_rfl) rfl
        · intro xs w hw hp K hK
          simp only [holdsL, List.nil_append, List.cons_append, List.getD_cons_succ, List.getD_cons_zero, if_true, and_true] at hp
          go_simp
          exact hK _ (Grow.refl _)
        -- operation 8
        apply lexf_eq hsz [(7, true)] [(19, 0), (20, 1), (21, 2), (22, 3), (23, 4), (24, 5), (25, 6), (26, 7), (29, 10), (30, 11), (31, 12), (32, 13)] none (by kernel_rfl) (by kernel_rfl) (by kernel_rfl) (by kernel_rfl) rfl
        · intro xs w hw hp K hK
          simp only [holdsL, List.nil_append, List.cons_append, List.getD_cons_succ, List.getD_cons_zero, if_true, and_true] at hp
          go_simp
          exact hK _ (Grow.refl _)
        -- operation 9
        apply lexf_eq hsz [(8, true)] [(19, 0), (20, 1), (21, 2), (22, 3), (23, 4), (24, 5), (25, 6), (26, 7), (27, 8), (30, 11), (31, 12), (32, 13)] none (by kernel_rfl) (by kernel_rfl) (by kernel_rfl) (by kernel_rfl) rfl
        · intro xs w hw hp K hK
          simp only [holdsL, List.nil_append, List.cons_append, List.getD_cons_succ, List.getD_cons_zero, if_true, and_true] at hp
          go_simp
          exact hK _ (Grow.refl _)
        -- operation 10
        apply lexf_eq hsz [(9, true)] [(19, 0), (20, 1), (21, 2), (22, 3), (23, 4), (24, 5), (25, 6), (26, 7), (27, 8), (28, 9), (31, 12), (32, 13)] none (by kernel_rfl) (by kernel_rfl) (by kernel_rfl) (by kernel_rfl) rfl
        · intro xs w hw hp K hK
          simp only [holdsL, List.nil_append, List.cons_append, List.getD_cons_succ, List.getD_cons_zero, if_true, and_true] at hp
          obtain ⟨y0, y1, y2, y3, y4, y5, y6, _⟩ := HBx.out w (Grow.undrew hw)
          go_simp
          exact hK _ (Grow.refl _)
        -- operation 11
        apply lexf_eq hsz [(5, true), (10, true)] [(19, 0), (20, 1), (21, 2), (22, 3), (23, 4), (24, 5), (25, 6), (26, 7), (27, 8), (28, 9), (29, 10), (32, 13)] none (by kernel_rfl) (by kernel_rfl) (by kernel_rfl) (by kernel_rfl) rfl
        · intro xs w hw hp K hK
          simp only [holdsL, List.nil_append, List.cons_append, List.getD_cons_succ, List.getD_cons_zero, if_true, and_true] at hp
          go_simp
          exact hK _ (Grow.refl _)
        -- operation 12
        refine lexf_says hsz (fun v u => ∃ b2, v = .slice (some ⟨b2, 0, none⟩) 1 1 ∧ Blk u b2 59 [.int .i64 t.xid, .int .i64 t.last]) (fun _ _ _ g h => h.elim fun b2 h => ⟨b2, h.1, h.2.fits g⟩) [(11, true)] [(19, 0), (20, 1), (21, 2), (22, 3), (23, 4), (24, 5), (25, 6), (26, 7), (27, 8), (28, 9), (29, 10), (30, 11)] none (by kernel_rfl) (by kernel_rfl) (by kernel_rfl) (by kernel_rfl) rfl ?_ ?_
        · intro xs w hw hp K hK
          simp only [holdsL, List.nil_append, List.cons_append, List.getD_cons_succ, List.getD_cons_zero, if_true, and_true] at hp
          go_simp
          exact hK _ _ ⟨_, rfl, Blk.new w _ [_, _]⟩ ((Grow.refl _).alloc _)
        intro xs w hw hp
        have ha0 := HA0.out
        clear HA0 hsz s5 s3
        simp only [holdsL, List.nil_append, List.cons_append, List.getD_cons_succ, List.getD_cons_zero, if_true, and_true] at hp
        have h0 := hp.1
        have h12 := hp.2.2.2.2.2.2.2.2.2.2.2.2
        clear hp
        subst ha0
        simp only [putAll, h0]
        obtain ⟨b2, h31, hB2⟩ := h12
        have hgw : Grow wr w := hw.undrew
        simp only [h31, List.drop_succ_cons, List.drop_zero]
        go_frame
        have HOw := keep (owns_fitsT HO.out hgw)
        have HGw := keep (Below.trans HG.out (Below.mono hgw HG.out.size))
        have HC2 := keep (blk_two hB2)
        have hzw := HGw.out.size
        clear hw hgw hB2 h0 h31 HO HG hcell y0 y1 y2 y3 y4 y5 y6
        go_wp2_with ((at_builtin; go_must (refine wpList_append_own_at _ rfl _ _ 51 rfl w1.heap.size 59 iB (.agg #[.int .i64 0, .int .i64 0]) 2 16 Try.underlying51 hiB hzB0 hzB1 hzB2 rfl (by decide) _ _ _ rfl HOw.out ⟨b2, 0, none⟩ 1 1 [.int .i64 t.xid, .int .i64 t.last] rfl rfl HC2.out (by intro u hu; simp at hu; rcases hu with rfl | rfl <;> rfl) (by unfold maxLen; omega) (by omega) hzw ?_); intro v' xa hown' hgrow _ _; obtain ⟨a', cap', rfl⟩ := own_form hown'))
        have HG9 := keep (Below.grown HGw.out hgrow hzw (fun g e => (HOw.out.lt g e).1))
        have h9 := hown'
        rw [show bgCells bs ++ [.int .i64 t.xid, .int .i64 t.last] = bgCells (bs ++ [(t.xid, t.last)]) by rw [bgCells_append]; rfl] at h9
        have HO9 := keep h9
        clear h9 hown' hgrow
        go_roundw
        case rel => exact show BegRel T w1 _ _ _ from ⟨k + 1, a', cap', by omega, by rw [HSt.out]; simp, by first | go_num | simp, keep (by rw [HSt.out]; simpa using HO9.out), HG9⟩
        case measure => simp [intOf]; omega
    · have e : k = T.length := by omega
      subst e
      rw [List.take_length] at *
      have hpos : ∀ b ∈ begunT (stT T), 0 ≤ b.1 ∧ b.1 ≤ 9223372036854775807 := by
        intro b hb
        obtain ⟨x, hx, _, rfl⟩ := mem_begs.1 ((begunT_perm _).mem_iff.1 hb)
        refine ⟨(HF.out.pos x hx).1, ?_⟩
        obtain ⟨y, hy, rfl⟩ := List.mem_map.1 hx
        exact HN.out y hy
      have hll : (begs (stT T)).length ≤ 4398046511104 := Nat.le_trans (begs_len _) (by have := HL.out; simpa [stT] using this)
      have hs := sort_begs (begs (stT T)) (begunT (stT T)) (begunT_perm _) (begunT_up HF.out) hpos w1.heap.size w1 wr HG.out HG.out.size _ HO.out hll
      have hfr := own_fresh HO.out
      generalize (begs (stT T)).length = nn at *
      clear hll hpos HO hkl
      go_wp2_with (go_at_call 42; refine hs.mono ?_; rintro e w' ⟨rfl, hrow, hb⟩)
      go_ret
      exact ⟨_, rfl, hrow, HB1.out.trans (hb.mono HB1.out.size), hfr.mono HB1.out.size⟩

end Go.Proofs.Ytgijmlienolhpaa
