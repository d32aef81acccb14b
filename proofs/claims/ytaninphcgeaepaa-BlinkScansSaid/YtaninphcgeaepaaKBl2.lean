import Derived.Test.YtaninphcgeaepaaKAp1
import Derived.Test.YtaninphcgeaepaaKSl1
import Derived.Deep.CutRange
import Derived.Deep.MidRow
namespace Go.Proofs.Ytaninphcgeaepaa
open Go.RowKit
attribute [local go_sem] givesF_none givesF_some evalF_tmp evalF_const evalF_global evalF_func lookL isB_bool isB_undef givesUpon_value givesUpon_skip givesUpon_enter
attribute [local simp] neq_entry sameE_self
attribute [local go_sem] guard_entry
set_option maxRecDepth 100000 in
set_option maxHeartbeats 4000000 in
theorem hits_same (l : List En) (v v2 : Value) (w_ : World) (hi : Row w_ 36 v l.length (eCells l)) (hj : Row w_ 36 v2 l.length (eCells l)) (hl : (l.length : Int) ≤ 4398046510976) :
  Calls Try.prog 15 #[v, v2] w_ fun x w' => x = .returned (.bool true) ∧ Below w_.heap.size w_ w' := by
 obtain ⟨ia, ic, rfl⟩ := en_form hi
 obtain ⟨ja, jc, rfl⟩ := en_form hj
 have HI0 := keep hi
 have HJ0 := keep hj
 clear hi hj
 go_enter Try.func15, Try.ntmps15
 go_wp2_with fail
 go_loopw [5] (fun i wr => ∃ n : Nat, n ≤ l.length ∧ i = .int .i64 n ∧ Kept (Grow w_ wr)) (fun i _ => l.length - (intOf i).toNat)
 case atStart => exact ⟨0, Nat.zero_le _, rfl, keep (Grow.refl _)⟩
 case round =>
  obtain ⟨n, hn, rfl, HG⟩ := hrel
  by_cases hlt : n < l.length
  ·obtain ⟨c1, off1, cap1, e1, hc1⟩ := en_at HI0.out hlt
   obtain ⟨c2, off2, cap2, e2, hc2⟩ := en_at HJ0.out hlt
   simp only [Value.slice.injEq] at e1 e2
   obtain ⟨rfl, x1, x2⟩ := e1
   obtain ⟨rfl, x3, x4⟩ := e2
   generalize l[n] = e at *
   obtain ⟨k, p, s⟩ := e
   dsimp only at hc1 hc2
   have HI7 := keep (fun (u : World) (hu : Grow wr.drew u) => hc1 u (Grow.trans HG.out (Grow.undrew hu)))
   have HJ7 := keep (fun (u : World) (hu : Grow wr.drew u) => hc2 u (Grow.trans HG.out (Grow.undrew hu)))
   clear hc1 hc2 x1 x2 x3 x4
   go_upto_region 6 with fail
   refine wp_region_grow_named (by kernel_rfl) 8 (by kernel_rfl) [(17, 0), (18, 1), (19, 2), (20, 3), (21, 4), (22, 5), (23, 6), (24, 7)] (by kernel_rfl) [(0, true), (1, true), (2, true), (3, true), (4, true), (5, true), (6, true), (7, true)] (by kernel_rfl) rfl rfl ?_
   intro a0 ha0
   have hsz : a0.tmps.size = 26 := (size_at ha0).trans rfl
   have s0 := slot_at ha0 0 rfl
   have s1 := slot_at ha0 1 rfl
   have s5 := slot_at ha0 5 rfl
   have HA0 := keep ha0
   clear ha0
   apply lq hsz [] [(18, 1), (20, 3), (21, 4), (22, 5), (23, 6), (24, 7), (25, 8)] none (by kernel_rfl) rfl
   ·intro xs w hw hp K hK
    go_simp
    exact hK _ (Grow.refl _)
   apply lq hsz [] [(17, 0), (20, 3), (21, 4), (22, 5), (23, 6), (24, 7), (25, 8)] none (by kernel_rfl) rfl
   ·intro xs w hw hp K hK
    go_simp
    exact hK _ (Grow.refl _)
   apply lq hsz [(0, true), (1, true)] [(17, 0), (18, 1), (21, 4), (22, 5), (23, 6), (24, 7), (25, 8)] none (by kernel_rfl) rfl
   ·intro xs w hw hp K hK
    simp only [holdsL, List.nil_append, List.cons_append, List.getD_cons_succ, List.getD_cons_zero, if_true, and_true] at hp
    have q1 : n < l.length := hlt
    go_simp
    exact hK _ (Grow.refl _)
   apply lq hsz [(2, true)] [(17, 0), (18, 1), (19, 2), (21, 4), (22, 5), (23, 6), (24, 7)] none (by kernel_rfl) rfl
   ·intro xs w hw hp K hK
    simp only [holdsL, List.nil_append, List.cons_append, List.getD_cons_succ, List.getD_cons_zero, if_true, and_true] at hp
    obtain ⟨c0, c1, c2⟩ := HI7.out w hw
    go_simp
    exact hK _ (Grow.refl _)
   apply lq hsz [] [(17, 0), (18, 1), (19, 2), (20, 3), (22, 5), (24, 7), (25, 8)] none (by kernel_rfl) rfl
   ·intro xs w hw hp K hK
    go_simp
    exact hK _ (Grow.refl _)
   apply lq hsz [] [(17, 0), (18, 1), (19, 2), (20, 3), (21, 4), (24, 7), (25, 8)] none (by kernel_rfl) rfl
   ·intro xs w hw hp K hK
    go_simp
    exact hK _ (Grow.refl _)
   apply lq hsz [(4, true), (5, true)] [(17, 0), (18, 1), (19, 2), (20, 3), (21, 4), (22, 5), (25, 8)] none (by kernel_rfl) rfl
   ·intro xs w hw hp K hK
    simp only [holdsL, List.nil_append, List.cons_append, List.getD_cons_succ, List.getD_cons_zero, if_true, and_true] at hp
    have q1 : n < l.length := hlt
    go_simp
    exact hK _ (Grow.refl _)
   apply lq hsz [(6, true)] [(17, 0), (18, 1), (19, 2), (20, 3), (21, 4), (22, 5), (23, 6)] none (by kernel_rfl) rfl
   ·intro xs w hw hp K hK
    simp only [holdsL, List.nil_append, List.cons_append, List.getD_cons_succ, List.getD_cons_zero, if_true, and_true] at hp
    obtain ⟨c0, c1, c2⟩ := HJ7.out w hw
    go_simp
    exact hK _ (Grow.refl _)
   intro xs w hw hp
   have ha0 := HA0.out
   clear HA0 hsz s0 s1 s5
   simp only [holdsL, List.nil_append, List.cons_append, List.getD_cons_succ, List.getD_cons_zero, if_true, and_true] at hp
   have h3 := hp.2.2.2.1
   have h7 := hp.2.2.2.2.2.2.2
   clear hp
   subst ha0
   simp only [putAll, h3, h7]
   have hG := Grow.trans HG.out hw.undrew
   clear hw h3 h7 HI7 HJ7
   have HG2 := keep hG
   clear hG
   go_wp2_with fail
   go_roundw
   case rel => exact ⟨n + 1, by omega, by go_num, HG2⟩
   case measure => simp [intOf]; omega
  ·have e : n = l.length := by omega
   subst e
   go_wp2_with fail
   go_ret
   exact ⟨rfl, HG.out⟩
def recV (kind page : Int) (d : ByteArray) : Value := .agg #[.int .i64 0, .int .i64 0, .int .i64 0, .int .u8 kind, .int .i64 0, .int .i64 page, .int .i64 0, .int .i64 0, .int .i64 0, .int .i64 0, .string d, .slice none 0 0, .slice none 0 0, .slice none 0 0, .slice none 0 0, .slice none 0 0]
def recCells (kind page : Int) (d : ByteArray) : List Value := [.int .i64 0, .int .i64 0, .int .i64 0, .int .u8 kind, .int .i64 0, .int .i64 page, .int .i64 0, .int .i64 0, .int .i64 0, .int .i64 0, .string d, .slice none 0 0, .slice none 0 0, .slice none 0 0, .slice none 0 0, .slice none 0 0]
theorem recres {w : World} {b t : Nat} {v0 v1 v2 v3 v4 v5 v6 v7 v8 v9 v10 v11 v12 v13 v14 v15 : Value} (h : Blk w b t [v0, v1, v2, v3, v4, v5, v6, v7, v8, v9, v10, v11, v12, v13, v14, v15]) :
  (w.cell? ⟨b, 0, none⟩ = some v0 ∧ w.cell? ⟨b, 1, none⟩ = some v1 ∧ w.cell? ⟨b, 2, none⟩ = some v2 ∧ w.cell? ⟨b, 3, none⟩ = some v3 ∧ w.cell? ⟨b, 4, none⟩ = some v4 ∧ w.cell? ⟨b, 5, none⟩ = some v5 ∧ w.cell? ⟨b, 6, none⟩ = some v6 ∧ w.cell? ⟨b, 7, none⟩ = some v7 ∧
   w.cell? ⟨b, 8, none⟩ = some v8 ∧ w.cell? ⟨b, 9, none⟩ = some v9 ∧ w.cell? ⟨b, 10, none⟩ = some v10 ∧ w.cell? ⟨b, 11, none⟩ = some v11 ∧ w.cell? ⟨b, 12, none⟩ = some v12 ∧ w.cell? ⟨b, 13, none⟩ = some v13 ∧ w.cell? ⟨b, 14, none⟩ = some v14 ∧ w.cell? ⟨b, 15, none⟩ = some v15) ∧
  (∀ j, w.frozen? ⟨b, j, none⟩ = false) := by
 refine ⟨⟨?_, ?_, ?_, ?_, ?_, ?_, ?_, ?_, ?_, ?_, ?_, ?_, ?_, ?_, ?_, ?_⟩, fun j => h.free j⟩ <;> exact h.cell _ (by simp)
theorem setCells_blk {w : World} {b t : Nat} {cs : List Value} (h : Blk w b t cs) (vs : List Value) (hl : vs.length = cs.length) : Blk (w.setCells b 0 vs) b t vs := by
 have go : ∀ (vs : List Value) (o : Nat) (w : World) (cs : List Value), Blk w b t cs → o + vs.length = cs.length → Blk (w.setCells b o vs) b t (cs.take o ++ vs) := by
  intro vs
  induction vs with
  | nil =>
   intro o w cs h hl
   simp only [List.length_nil, Nat.add_zero] at hl
   rw [World.setCells, List.append_nil, hl, List.take_length]
   exact h
  | cons v r ih =>
   intro o w cs h hl
   rw [World.setCells]
   simp only [List.length_cons] at hl
   have h2 := ih (o + 1) _ _ (h.set o v) (by rw [List.length_set]; omega)
   have e : (cs.set o v).take (o + 1) = cs.take o ++ [v] := by
    rw [List.take_add_one]
    simp [List.take_set, show o < cs.length by omega]
    rw [List.set_eq_of_length_le (by rw [List.length_take]; omega)]
   rw [e, List.append_assoc] at h2
   exact h2
 have := go vs 0 w cs h (by omega)
 simpa using this
theorem setCells_but (w : World) (b : Nat) (vs : List Value) : But b w (w.setCells b 0 vs) := by
 have go : ∀ (vs : List Value) (o : Nat) (u : World), But b w u → But b w (u.setCells b o vs) := by
  intro vs
  induction vs with
  | nil => intro o u h; exact h
  | cons v r ih =>
   intro o u h
   rw [World.setCells]
   exact ih (o + 1) _ (h.setCell o v)
 exact go vs 0 w (But.refl b w)
theorem sizeRecord : (Try.prog.info? 50).map (·.size) = some 16 := by kernel_rfl
theorem wpList_store_rec {ops : Array Oper} {rest : List Oper} {o : Oper} {a : Act} {Q : Exit → Act → World → Prop} {w : World} (hgd : o.guard = none) (x y : Operand) (ho : o.op = .store 50 x y) (b : Nat) (vs : List Value)
  (hx : a.eval x = .pointer (some ⟨b, 0, none⟩)) (hy : a.eval y = .agg vs.toArray) {cs : List Value} (hb : Blk w b 50 cs) (hc : cs.length = 16) (hv : vs.length = 16) (h1 : vs.all (·.oneCell') = true)
  (h : ∀ w', Blk w' b 50 vs → But b w w' → wpList Try.prog ops Q rest (a.put o.dst undef) w') : wpList Try.prog ops Q (o :: rest) a w := by
 refine wpList_store_mid hgd _ x y ho b 0 vs.toArray hx hy ?_ (by rw [sizeRecord]; simp [hv]) (by simpa using h1) (h _ (setCells_blk hb vs (by omega)) (setCells_but w b vs))
 intro j hj
 have hj2 : j < cs.length := by
  have : vs.toArray.size = vs.length := by simp
  omega
 refine ⟨?_, by rw [Nat.zero_add]; exact hb.free j⟩
 rw [Nat.zero_add, hb.cell j hj2]
 rfl
set_option maxRecDepth 100000 in
set_option maxHeartbeats 2000000 in
theorem contains_e (t : En) (l : List En) (v : Value) (w_ : World) (h : EnsS w_ v l) (hl : l.length ≤ 1759218604441) :
  Calls Try.prog 27 #[v, enV t] w_ fun x w' => x = .returned (.bool (decide (t ∈ l))) ∧ Below w_.heap.size w_ w' := by
 obtain ⟨w0, hw0⟩ : ∃ w0, w0 = w_.alloc (.cells #[.string (str t.1), .int .i64 t.2.1, .int .i64 t.2.2] 36) := ⟨_, rfl⟩
 have hg0 : Grow w_ w0 := by subst hw0; exact (Grow.refl w_).alloc _
 have hT0 : Blk w0 w_.heap.size 36 [.string (str t.1), .int .i64 t.2.1, .int .i64 t.2.2] := by subst hw0; exact Blk.new w_ _ [_, _, _]
 have hix := index_any t l v w0 (RowS.fits h hg0) hl
 unfold enV at hix
 have HIx := keep hix
 obtain ⟨c0, c1, c2, _⟩ := enres hT0
 clear hix hT0 h
 unfold enV
 go_enter Try.func27, Try.ntmps27
 go_upto_region 1 with fail
 rw [← hw0]
 clear hw0
 go_wp2_with fail
 refine HIx.out.mono ?_
 rintro x w1 ⟨i, rfl, hi, hb⟩
 have hd : decide (0 ≤ i) = decide (t ∈ l) := by
  rcases hi with ⟨rfl, h1⟩ | ⟨k, rfl, hk, h1⟩
  ·rw [decide_eq_false h1]; rfl
  ·rw [decide_eq_true (show t ∈ l by rw [← h1]; exact List.getElem_mem hk)]
   exact decide_eq_true (by omega)
 go_wp2_with fail
 go_ret
 exact ⟨by rw [← hd]; rfl, Grow.trans hg0 hb⟩
end Go.Proofs.Ytaninphcgeaepaa
