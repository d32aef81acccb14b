import Derived.Test.YtaninphcgeaepaaGreatKAp1
import Derived.Test.YtaninphcgeaepaaGreatKRl1
import Derived.Deep.CutRange
import Derived.Deep.MidRow
import Derived.Test.YtaninphcgeaepaaGreatKCg7
import Derived.Test.YtaninphcgeaepaaGreatKCg4
import Derived.Test.YtaninphcgeaepaaGreatKRe1
import Derived.Test.YtaninphcgeaepaaGreatKGr1
import Derived.Test.YtaninphcgeaepaaGreatKRu2
import Derived.Test.YtaninphcgeaepaaGreatKRk1
/- almonrylaw15.hits of equal lists; almonryref04.Same of equal records that hold no lists; slices.Contains over entries. -/
namespace Go.Proofs.YtaninphcgeaepaaGreat
open Go.RowKit
attribute [local go_sem] givesF_none givesF_some evalF_tmp evalF_const evalF_global evalF_func lookL isB_bool isB_undef givesUpon_value givesUpon_skip givesUpon_enter

attribute [local simp] neq_entry sameE_self
attribute [local go_sem] guard_entry
set_option maxRecDepth 100000 in
set_option maxHeartbeats 4000000 in
theorem hits_same (l : List En) (v v2 : Value) (w_ : World) (hi : Row w_ 41 v l.length (eCells l)) (hj : Row w_ 41 v2 l.length (eCells l)) (hl : (l.length : Int) ≤ 4398046510976) :
    Calls Tryz.prog 19 #[v, v2] w_ fun x w' => x = .returned (.bool true) ∧ Below w_.heap.size w_ w' := by
  obtain ⟨ia, ic, rfl⟩ := en_form hi
  obtain ⟨ja, jc, rfl⟩ := en_form hj
  have HI0 := keep hi
  have HJ0 := keep hj
  clear hi hj
  go_enter Tryz.func19, Tryz.ntmps19
  go_wp2_with fail
  go_loopw [5] (fun i wr => ∃ n : Nat, n ≤ l.length ∧ i = .int .i64 n ∧ Kept (Grow w_ wr)) (fun i _ => l.length - (intOf i).toNat)
  case atStart => exact ⟨0, Nat.zero_le _, rfl, keep (Grow.refl _)⟩
  case round =>
    obtain ⟨n, hn, rfl, HG⟩ := hrel
    by_cases hlt : n < l.length
    · obtain ⟨c1, off1, cap1, e1, hc1⟩ := en_at HI0.out hlt
      obtain ⟨c2, off2, cap2, e2, hc2⟩ := en_at HJ0.out hlt
      simp only [Value.slice.injEq] at e1 e2
      obtain ⟨rfl, x1, x2⟩ := e1
      obtain ⟨rfl, x3, x4⟩ := e2
      generalize l[n] = e at *
      obtain ⟨k, p, s⟩ := e
      dsimp only at hc1 hc2
      have HI7 := keep (fun (u : World) (hu : Grow wr.drew u) => hc1 u (Grow.trans HG.out (Grow.undrew hu)))
      have HJ7 := keep (fun (u : World) (hu : Grow wr.drew u) => hc2 u (Grow.trans HG.out (Grow.undrew hu)))
      clear hc1 hc2 x1 x2 x3 x4
      go_upto_region 6 with fail
      refine wp_region_grow_named (by kernel_rfl) 8 (by kernel_rfl) [(17, 0), (18, 1), (19, 2), (20, 3), (21, 4), (22, 5), (23, 6), (24, 7)] (by kernel_rfl) [(0, true), (1, true), (2, true), (3, true), (4, true), (5, true), (6, true), (7, true)] (by kernel_rfl) rfl rfl ?_
      intro a0 ha0
      have hsz : a0.tmps.size = 26 := (size_at ha0).trans rfl
      have s0 := slot_at ha0 0 rfl
      have s1 := slot_at ha0 1 rfl
      have s5 := slot_at ha0 5 rfl
      have HA0 := keep ha0
      clear ha0
      -- operation 0
      apply lexf_eq hsz [] [(18, 1), (20, 3), (21, 4), (22, 5), (23, 6), (24, 7), (25, 8)] none (by kernel_rfl) (by kernel_rfl) (by kernel_rfl) (by kernel_rfl) rfl
      · intro xs w hw hp K hK
        go_simp
        exact hK _ (Grow.refl _)
      -- operation 1
      apply lexf_eq hsz [] [(17, 0), (20, 3), (21, 4), (22, 5), (23, 6), (24, 7), (25, 8)] none (by kernel_rfl) (by kernel_rfl) (by kernel_rfl) (by kernel_rfl) rfl
      · intro xs w hw hp K hK
        go_simp
        exact hK _ (Grow.refl _)
      -- operation 2
      apply lexf_eq hsz [(0, true), (1, true)] [(17, 0), (18, 1), (21, 4), (22, 5), (23, 6), (24, 7), (25, 8)] none (by kernel_rfl) (by kernel_rfl) (by kernel_rfl) (by kernel_rfl) rfl
      · intro xs w hw hp K hK
        simp only [holdsL, List.nil_append, List.cons_append, List.getD_cons_succ, List.getD_cons_zero, if_true, and_true] at hp
        have q1 : n < l.length := hlt
        go_simp
        exact hK _ (Grow.refl _)
      -- operation 3
      apply lexf_eq hsz [(2, true)] [(17, 0), (18, 1), (19, 2), (21, 4), (22, 5), (23, 6), (24, 7)] none (by kernel_rfl) (by kernel_rfl) (by kernel_rfl) (by kernel_rfl) rfl
      · intro xs w hw hp K hK
        simp only [holdsL, List.nil_append, List.cons_append, List.getD_cons_succ, List.getD_cons_zero, if_true, and_true] at hp
        obtain ⟨c0, c1, c2⟩ := HI7.out w hw
        go_simp
        exact hK _ (Grow.refl _)
      -- operation 4
      apply lexf_eq hsz [] [(17, 0), (18, 1), (19, 2), (20, 3), (22, 5), (24, 7), (25, 8)] none (by kernel_rfl) (by kernel_rfl) (by kernel_rfl) (by kernel_rfl) rfl
      · intro xs w hw hp K hK
        go_simp
        exact hK _ (Grow.refl _)
      -- operation 5
      apply lexf_eq hsz [] [(17, 0), (18, 1), (19, 2), (20, 3), (21, 4), (24, 7), (25, 8)] none (by kernel_rfl) (by kernel_rfl) (by kernel_rfl) (by kernel_rfl) rfl
      · intro xs w hw hp K hK
        go_simp
        exact hK _ (Grow.refl _)
      -- operation 6
      apply lexf_eq hsz [(4, true), (5, true)] [(17, 0), (18, 1), (19, 2), (20, 3), (21, 4), (22, 5), (25, 8)] none (by kernel_rfl) (by kernel_rfl) (by kernel_rfl) (by kernel_rfl) rfl
      · intro xs w hw hp K hK
        simp only [holdsL, List.nil_append, List.cons_append, List.getD_cons_succ, List.getD_cons_zero, if_true, and_true] at hp
        have q1 : n < l.length := hlt
        go_simp
        exact hK _ (Grow.refl _)
      -- operation 7
      apply lexf_eq hsz [(6, true)] [(17, 0), (18, 1), (19, 2), (20, 3), (21, 4), (22, 5), (23, 6)] none (by kernel_rfl) (by kernel_rfl) (by kernel_rfl) (by kernel_rfl) rfl
      · intro xs w hw hp K hK
        simp only [holdsL, List.nil_append, List.cons_append, List.getD_cons_succ, List.getD_cons_zero, if_true, and_true] at hp
        obtain ⟨c0, c1, c2⟩ := HJ7.out w hw
        go_simp
        exact hK _ (Grow.refl _)
      intro xs w hw hp
      have ha0 := HA0.out
      clear HA0 hsz s0 s1 s5
      simp only [holdsL, List.nil_append, List.cons_append, List.getD_cons_succ, List.getD_cons_zero, if_true, and_true] at hp
      have h3 := hp.2.2.2.1
      have h7 := hp.2.2.2.2.2.2.2
      clear hp
      subst ha0
      simp only [putAll, h3, h7]
      have hG := Grow.trans HG.out hw.undrew
      clear hw h3 h7 HI7 HJ7
      have HG2 := keep hG
      clear hG
      go_wp2_with fail
      go_roundw
      case rel => exact ⟨n + 1, by omega, by go_num, HG2⟩
      case measure => simp [intOf]; omega
    · have e : n = l.length := by omega
      subst e
      go_wp2_with fail
      go_ret
      exact ⟨rfl, HG.out⟩

theorem ints_nil (w_ : World) : Calls Tryz.prog 33 #[.slice none 0 0, .slice none 0 0] w_ fun x w' => x = .returned (.bool true) ∧ Below w_.heap.size w_ w' := by
  go_enter Tryz.func33, Tryz.ntmps33
  go_wp2_with fail
  go_loopw [5] (fun i wr => i = .int .i64 0 ∧ Kept (Grow w_ wr)) (fun _ _ => 0)
  case atStart => exact ⟨rfl, keep (Grow.refl _)⟩
  case round =>
    obtain ⟨rfl, HG⟩ := hrel
    go_wp2_with fail
    go_ret
    exact ⟨rfl, HG.out⟩

/-- A record of a kind and a page, with bytes, and nothing else. -/
def recV (kind page : Int) (d : ByteArray) : Value := .agg #[.int .i64 0, .int .i64 0, .int .i64 0, .int .u8 kind, .int .i64 0, .int .i64 page, .int .i64 0, .int .i64 0, .int .i64 0, .int .i64 0, .string d, .slice none 0 0, .slice none 0 0, .slice none 0 0, .slice none 0 0, .slice none 0 0]
def recCells (kind page : Int) (d : ByteArray) : List Value := [.int .i64 0, .int .i64 0, .int .i64 0, .int .u8 kind, .int .i64 0, .int .i64 page, .int .i64 0, .int .i64 0, .int .i64 0, .int .i64 0, .string d, .slice none 0 0, .slice none 0 0, .slice none 0 0, .slice none 0 0, .slice none 0 0]
theorem recres {w : World} {b t : Nat} {v0 v1 v2 v3 v4 v5 v6 v7 v8 v9 v10 v11 v12 v13 v14 v15 : Value} (h : Blk w b t [v0, v1, v2, v3, v4, v5, v6, v7, v8, v9, v10, v11, v12, v13, v14, v15]) :
    (w.cell? ⟨b, 0, none⟩ = some v0 ∧ w.cell? ⟨b, 1, none⟩ = some v1 ∧ w.cell? ⟨b, 2, none⟩ = some v2 ∧ w.cell? ⟨b, 3, none⟩ = some v3 ∧ w.cell? ⟨b, 4, none⟩ = some v4 ∧ w.cell? ⟨b, 5, none⟩ = some v5 ∧ w.cell? ⟨b, 6, none⟩ = some v6 ∧ w.cell? ⟨b, 7, none⟩ = some v7 ∧
     w.cell? ⟨b, 8, none⟩ = some v8 ∧ w.cell? ⟨b, 9, none⟩ = some v9 ∧ w.cell? ⟨b, 10, none⟩ = some v10 ∧ w.cell? ⟨b, 11, none⟩ = some v11 ∧ w.cell? ⟨b, 12, none⟩ = some v12 ∧ w.cell? ⟨b, 13, none⟩ = some v13 ∧ w.cell? ⟨b, 14, none⟩ = some v14 ∧ w.cell? ⟨b, 15, none⟩ = some v15) ∧
    (∀ j, w.frozen? ⟨b, j, none⟩ = false) := by
  refine ⟨⟨?_, ?_, ?_, ?_, ?_, ?_, ?_, ?_, ?_, ?_, ?_, ?_, ?_, ?_, ?_, ?_⟩, fun j => h.free j⟩ <;> exact h.cell _ (by simp)

theorem setCells_blk {w : World} {b t : Nat} {cs : List Value} (h : Blk w b t cs) (vs : List Value) (hl : vs.length = cs.length) : Blk (w.setCells b 0 vs) b t vs := by
  have go : ∀ (vs : List Value) (o : Nat) (w : World) (cs : List Value), Blk w b t cs → o + vs.length = cs.length → Blk (w.setCells b o vs) b t (cs.take o ++ vs) := by
    intro vs
    induction vs with
    | nil =>
      intro o w cs h hl
      simp only [List.length_nil, Nat.add_zero] at hl
      rw [World.setCells, List.append_nil, hl, List.take_length]
      exact h
    | cons v r ih =>
      intro o w cs h hl
      rw [World.setCells]
      simp only [List.length_cons] at hl
      have h2 := ih (o + 1) _ _ (h.set o v) (by rw [List.length_set]; omega)
      have e : (cs.set o v).take (o + 1) = cs.take o ++ [v] := by
        rw [List.take_add_one]
        simp [List.take_set, show o < cs.length by omega]
        rw [List.set_eq_of_length_le (by rw [List.length_take]; omega)]
      rw [e, List.append_assoc] at h2
      exact h2
  have := go vs 0 w cs h (by omega)
  simpa using this
theorem setCells_but (w : World) (b : Nat) (vs : List Value) : But b w (w.setCells b 0 vs) := by
  have go : ∀ (vs : List Value) (o : Nat) (u : World), But b w u → But b w (u.setCells b o vs) := by
    intro vs
    induction vs with
    | nil => intro o u h; exact h
    | cons v r ih =>
      intro o u h
      rw [World.setCells]
      exact ih (o + 1) _ (h.setCell o v)
  exact go vs 0 w (But.refl b w)
theorem sizeRecord : (Tryz.prog.info? 36).map (·.size) = some 16 := by kernel_rfl
/-- A whole record is stored into its box. -/
theorem wpList_store_rec {ops : Array Oper} {rest : List Oper} {o : Oper} {a : Act} {Q : Exit → Act → World → Prop} {w : World} (hgd : o.guard = none) (x y : Operand) (ho : o.op = .store 36 x y) (b : Nat) (vs : List Value)
    (hx : a.eval x = .pointer (some ⟨b, 0, none⟩)) (hy : a.eval y = .agg vs.toArray) {cs : List Value} (hb : Blk w b 36 cs) (hc : cs.length = 16) (hv : vs.length = 16) (h1 : vs.all (·.oneCell') = true)
    (h : ∀ w', Blk w' b 36 vs → But b w w' → wpList Tryz.prog ops Q rest (a.put o.dst undef) w') : wpList Tryz.prog ops Q (o :: rest) a w := by
  refine wpList_store_mid hgd _ x y ho b 0 vs.toArray hx hy ?_ (by rw [sizeRecord]; simp [hv]) (by simpa using h1) (h _ (setCells_blk hb vs (by omega)) (setCells_but w b vs))
  intro j hj
  have hj2 : j < cs.length := by
    have : vs.toArray.size = vs.length := by simp
    omega
  refine ⟨?_, by rw [Nat.zero_add]; exact hb.free j⟩
  rw [Nat.zero_add, hb.cell j hj2]
  rfl

set_option maxRecDepth 100000 in
set_option maxHeartbeats 4000000 in
theorem rsame_nil (k p : Int) (d : ByteArray) (w_ : World) :
    Calls Tryz.prog 11 #[recV k p d, recV k p d] w_ fun x w' => x = .returned (.bool true) ∧ Below w_.heap.size w_ w' := by
  obtain ⟨w0, hw0⟩ : ∃ w0, w0 = ((w_.alloc (.cells (recCells k p d).toArray 36)).alloc (.cells (recCells k p d).toArray 36)) := ⟨_, rfl⟩
  have hg0 : Grow w_ w0 := by subst hw0; exact ((Grow.refl w_).alloc _).alloc _
  have hA0 : Blk w0 w_.heap.size 36 (recCells k p d) := by
    have := (Blk.new w_ 36 (recCells k p d)).alloc (.cells (recCells k p d).toArray 36)
    subst hw0; exact this
  have hB0 : Blk w0 (w_.heap.size + 1) 36 (recCells k p d) := by
    have := Blk.new (w_.alloc (.cells (recCells k p d).toArray 36)) 36 (recCells k p d)
    have e : (w_.alloc (.cells (recCells k p d).toArray 36)).heap.size = w_.heap.size + 1 := by simp
    rw [e] at this
    subst hw0; exact this
  have HA0 := keep hA0
  have HB0 := keep hB0
  have HG0 := keep hg0
  unfold recCells at hw0 hA0 hB0
  obtain ⟨⟨p0, p1, p2, p3, p4, p5, p6, p7, p8, p9, p10, p11, p12, p13, p14, p15⟩, _⟩ := recres hA0
  obtain ⟨⟨q0, q1, q2, q3, q4, q5, q6, q7, q8, q9, q10, q11, q12, q13, q14, q15⟩, _⟩ := recres hB0
  clear hA0 hB0 hg0
  unfold recV
  go_enter Tryz.func11, Tryz.ntmps11
  go_upto_region 1 with fail
  rw [← hw0]
  clear hw0
  go_wp2_with fail
  refine (ints_nil w0).mono ?_
  rintro x w1 ⟨rfl, hb1⟩
  clear p0 p1 p2 p3 p4 p5 p6 p7 p8 p9 p10 p11 p12 p13 p14 p15 q0 q1 q2 q3 q4 q5 q6 q7 q8 q9 q10 q11 q12 q13 q14 q15
  have hA := HA0.out.fits hb1
  have hB := HB0.out.fits hb1
  unfold recCells at hA hB
  obtain ⟨⟨p0, p1, p2, p3, p4, p5, p6, p7, p8, p9, p10, p11, p12, p13, p14, p15⟩, _⟩ := recres hA
  obtain ⟨⟨q0, q1, q2, q3, q4, q5, q6, q7, q8, q9, q10, q11, q12, q13, q14, q15⟩, _⟩ := recres hB
  clear hA hB
  go_wp2_with fail
  refine (ints_nil w1).mono ?_
  rintro x w2 ⟨rfl, hb2⟩
  have HG2 := keep (Grow.trans hb1 hb2)
  clear hb1 hb2
  clear p0 p1 p2 p3 p4 p5 p6 p7 p8 p9 p10 p11 p12 p13 p14 p15 q0 q1 q2 q3 q4 q5 q6 q7 q8 q9 q10 q11 q12 q13 q14 q15
  have hA := HA0.out.fits HG2.out
  have hB := HB0.out.fits HG2.out
  unfold recCells at hA hB
  obtain ⟨⟨p0, p1, p2, p3, p4, p5, p6, p7, p8, p9, p10, p11, p12, p13, p14, p15⟩, _⟩ := recres hA
  obtain ⟨⟨q0, q1, q2, q3, q4, q5, q6, q7, q8, q9, q10, q11, q12, q13, q14, q15⟩, _⟩ := recres hB
  clear hA hB
  go_wp2_with fail
  go_loopw [5] (fun i wr => i = .int .i64 0 ∧ Kept (Grow w0 wr)) (fun _ _ => 0)
  case atStart => exact ⟨rfl, HG2⟩
  case round =>
    obtain ⟨rfl, HG⟩ := hrel
    clear p0 p1 p2 p3 p4 p5 p6 p7 p8 p9 p10 p11 p12 p13 p14 p15 q0 q1 q2 q3 q4 q5 q6 q7 q8 q9 q10 q11 q12 q13 q14 q15
    have hA := HA0.out.fits HG.out
    have hB := HB0.out.fits HG.out
    unfold recCells at hA hB
    obtain ⟨⟨p0, p1, p2, p3, p4, p5, p6, p7, p8, p9, p10, p11, p12, p13, p14, p15⟩, _⟩ := recres hA
    obtain ⟨⟨q0, q1, q2, q3, q4, q5, q6, q7, q8, q9, q10, q11, q12, q13, q14, q15⟩, _⟩ := recres hB
    clear hA hB
    generalize wr = wa at *
    go_wp2_with fail
    go_loopw [6] (fun i wr => i = .int .i64 0 ∧ Kept (Grow w0 wr)) (fun _ _ => 0)
    case atStart => exact ⟨rfl, HG⟩
    case round =>
      clear HG
      obtain ⟨rfl, HG⟩ := hrel
      clear p0 p1 p2 p3 p4 p5 p6 p7 p8 p9 p10 p11 p12 p13 p14 p15 q0 q1 q2 q3 q4 q5 q6 q7 q8 q9 q10 q11 q12 q13 q14 q15
      have hA := HA0.out.fits HG.out
      have hB := HB0.out.fits HG.out
      unfold recCells at hA hB
      obtain ⟨⟨p0, p1, p2, p3, p4, p5, p6, p7, p8, p9, p10, p11, p12, p13, p14, p15⟩, _⟩ := recres hA
      obtain ⟨⟨q0, q1, q2, q3, q4, q5, q6, q7, q8, q9, q10, q11, q12, q13, q14, q15⟩, _⟩ := recres hB
      clear hA hB
      generalize wr = wb at *
      go_wp2_with fail
      go_loopw [7] (fun i wr => i = .int .i64 0 ∧ Kept (Grow w0 wr)) (fun _ _ => 0)
      case atStart => exact ⟨rfl, HG⟩
      case round =>
        clear HG
        obtain ⟨rfl, HG⟩ := hrel
        clear p0 p1 p2 p3 p4 p5 p6 p7 p8 p9 p10 p11 p12 p13 p14 p15 q0 q1 q2 q3 q4 q5 q6 q7 q8 q9 q10 q11 q12 q13 q14 q15
        have hA := HA0.out.fits HG.out
        have hB := HB0.out.fits HG.out
        unfold recCells at hA hB
        obtain ⟨⟨p0, p1, p2, p3, p4, p5, p6, p7, p8, p9, p10, p11, p12, p13, p14, p15⟩, _⟩ := recres hA
        obtain ⟨⟨q0, q1, q2, q3, q4, q5, q6, q7, q8, q9, q10, q11, q12, q13, q14, q15⟩, _⟩ := recres hB
        clear hA hB
        go_wp2_with fail
        go_ret
        exact ⟨rfl, Grow.trans HG0.out HG.out⟩

set_option maxRecDepth 100000 in
set_option maxHeartbeats 2000000 in
theorem contains_e (t : En) (l : List En) (v : Value) (w_ : World) (h : EnsS w_ v l) (hl : l.length ≤ 1759218604441) :
    Calls Tryz.prog 43 #[v, enV t] w_ fun x w' => x = .returned (.bool (decide (t ∈ l))) ∧ Below w_.heap.size w_ w' := by
  obtain ⟨w0, hw0⟩ : ∃ w0, w0 = w_.alloc (.cells #[.string (str t.1), .int .i64 t.2.1, .int .i64 t.2.2] 41) := ⟨_, rfl⟩
  have hg0 : Grow w_ w0 := by subst hw0; exact (Grow.refl w_).alloc _
  have hT0 : Blk w0 w_.heap.size 41 [.string (str t.1), .int .i64 t.2.1, .int .i64 t.2.2] := by subst hw0; exact Blk.new w_ _ [_, _, _]
  have hix := index_any t l v w0 (RowS.fits h hg0) hl
  unfold enV at hix
  have HIx := keep hix
  obtain ⟨c0, c1, c2, _⟩ := enres hT0
  clear hix hT0 h
  unfold enV
  go_enter Tryz.func43, Tryz.ntmps43
  go_upto_region 1 with fail
  rw [← hw0]
  clear hw0
  go_wp2_with fail
  refine HIx.out.mono ?_
  rintro x w1 ⟨i, rfl, hi, hb⟩
  have hd : decide (0 ≤ i) = decide (t ∈ l) := by
    rcases hi with ⟨rfl, h1⟩ | ⟨k, rfl, hk, h1⟩
    · rw [decide_eq_false h1]; rfl
    · rw [decide_eq_true (show t ∈ l by rw [← h1]; exact List.getElem_mem hk)]
      exact decide_eq_true (by omega)
  go_wp2_with fail
  go_ret
  exact ⟨by rw [← hd]; rfl, Grow.trans hg0 hb⟩

end Go.Proofs.YtaninphcgeaepaaGreat

/- Taking an entry out: blink.Leave, and the document's. -/
namespace Go.Proofs.YtaninphcgeaepaaGreat
open Go.RowKit
attribute [local go_sem] givesF_none givesF_some evalF_tmp evalF_const evalF_global evalF_func lookL isB_bool isB_undef givesUpon_value givesUpon_skip givesUpon_enter
attribute [local simp] eql_entry
attribute [local go_sem] guard_entry

theorem per_new (P : Pg) (iv : Value) (k : List UInt8) (p s : Int) (w_ w0 : World) (h : w0 = ((w_.alloc (.cells (pgCells P iv).toArray 24)).alloc (.cells #[.string (str k), .int .i64 p, .int .i64 s] 41)).alloc (.cells #[.int .i64 0, .int .i64 0, .int .i64 0, .int .u8 0, .int .i64 0, .int .i64 0, .int .i64 0, .int .i64 0, .int .i64 0, .int .i64 0, .string ⟨#[]⟩, .slice none 0 0, .slice none 0 0, .slice none 0 0, .slice none 0 0, .slice none 0 0] 36)) :
    Grow w_ w0 ∧ Blk w0 w_.heap.size 24 (pgCells P iv) ∧ Blk w0 (w_.heap.size + 1) 41 [.string (str k), .int .i64 p, .int .i64 s] ∧ Blk w0 (w_.heap.size + 2) 36 [.int .i64 0, .int .i64 0, .int .i64 0, .int .u8 0, .int .i64 0, .int .i64 0, .int .i64 0, .int .i64 0, .int .i64 0, .int .i64 0, .string ⟨#[]⟩, .slice none 0 0, .slice none 0 0, .slice none 0 0, .slice none 0 0, .slice none 0 0] := by
  refine ⟨?_, ?_, ?_, ?_⟩
  · subst h; exact (((Grow.refl w_).alloc _).alloc _).alloc _
  · have := ((Blk.new w_ 24 (pgCells P iv)).alloc (.cells #[.string (str k), .int .i64 p, .int .i64 s] 41)).alloc (.cells #[.int .i64 0, .int .i64 0, .int .i64 0, .int .u8 0, .int .i64 0, .int .i64 0, .int .i64 0, .int .i64 0, .int .i64 0, .int .i64 0, .string ⟨#[]⟩, .slice none 0 0, .slice none 0 0, .slice none 0 0, .slice none 0 0, .slice none 0 0] 36)
    subst h; exact this
  · have := (Blk.new (w_.alloc (.cells (pgCells P iv).toArray 24)) 41 [.string (str k), .int .i64 p, .int .i64 s]).alloc (.cells #[.int .i64 0, .int .i64 0, .int .i64 0, .int .u8 0, .int .i64 0, .int .i64 0, .int .i64 0, .int .i64 0, .int .i64 0, .int .i64 0, .string ⟨#[]⟩, .slice none 0 0, .slice none 0 0, .slice none 0 0, .slice none 0 0, .slice none 0 0] 36)
    have e : (w_.alloc (.cells (pgCells P iv).toArray 24)).heap.size = w_.heap.size + 1 := by simp
    rw [e] at this
    subst h; exact this
  · have := Blk.new ((w_.alloc (.cells (pgCells P iv).toArray 24)).alloc (.cells #[.string (str k), .int .i64 p, .int .i64 s] 41)) 36 [.int .i64 0, .int .i64 0, .int .i64 0, .int .u8 0, .int .i64 0, .int .i64 0, .int .i64 0, .int .i64 0, .int .i64 0, .int .i64 0, .string ⟨#[]⟩, .slice none 0 0, .slice none 0 0, .slice none 0 0, .slice none 0 0, .slice none 0 0]
    have e : ((w_.alloc (.cells (pgCells P iv).toArray 24)).alloc (.cells #[.string (str k), .int .i64 p, .int .i64 s] 41)).heap.size = w_.heap.size + 2 := by simp
    rw [e] at this
    subst h; exact this
theorem recset {w : World} {b : Nat} {a0 a1 a2 a3 a4 a5 a6 a7 a8 a9 a10 a11 a12 a13 a14 a15 : Value} (h : Blk w b 36 [a0, a1, a2, a3, a4, a5, a6, a7, a8, a9, a10, a11, a12, a13, a14, a15]) (b0 b1 b2 b3 b4 b5 b6 b7 b8 b9 b10 b11 b12 b13 b14 b15 : Value) :
    Blk ((((((((((((((((w.setCell ⟨b, 0, none⟩ b0).setCell ⟨b, 1, none⟩ b1).setCell ⟨b, 2, none⟩ b2).setCell ⟨b, 3, none⟩ b3).setCell ⟨b, 4, none⟩ b4).setCell ⟨b, 5, none⟩ b5).setCell ⟨b, 6, none⟩ b6).setCell ⟨b, 7, none⟩ b7).setCell ⟨b, 8, none⟩ b8).setCell ⟨b, 9, none⟩ b9).setCell ⟨b, 10, none⟩ b10).setCell ⟨b, 11, none⟩ b11).setCell ⟨b, 12, none⟩ b12).setCell ⟨b, 13, none⟩ b13).setCell ⟨b, 14, none⟩ b14).setCell ⟨b, 15, none⟩ b15) b 36 [b0, b1, b2, b3, b4, b5, b6, b7, b8, b9, b10, b11, b12, b13, b14, b15] := (((((((((((((((h.set 0 b0).set 1 b1).set 2 b2).set 3 b3).set 4 b4).set 5 b5).set 6 b6).set 7 b7).set 8 b8).set 9 b9).set 10 b10).set 11 b11).set 12 b12).set 13 b13).set 14 b14).set 15 b15
theorem recbut (w : World) (b : Nat) (b0 b1 b2 b3 b4 b5 b6 b7 b8 b9 b10 b11 b12 b13 b14 b15 : Value) : But b w ((((((((((((((((w.setCell ⟨b, 0, none⟩ b0).setCell ⟨b, 1, none⟩ b1).setCell ⟨b, 2, none⟩ b2).setCell ⟨b, 3, none⟩ b3).setCell ⟨b, 4, none⟩ b4).setCell ⟨b, 5, none⟩ b5).setCell ⟨b, 6, none⟩ b6).setCell ⟨b, 7, none⟩ b7).setCell ⟨b, 8, none⟩ b8).setCell ⟨b, 9, none⟩ b9).setCell ⟨b, 10, none⟩ b10).setCell ⟨b, 11, none⟩ b11).setCell ⟨b, 12, none⟩ b12).setCell ⟨b, 13, none⟩ b13).setCell ⟨b, 14, none⟩ b14).setCell ⟨b, 15, none⟩ b15) := ((((((((((((((((But.refl b w).setCell 0 b0).setCell 1 b1).setCell 2 b2).setCell 3 b3).setCell 4 b4).setCell 5 b5).setCell 6 b6).setCell 7 b7).setCell 8 b8).setCell 9 b9).setCell 10 b10).setCell 11 b11).setCell 12 b12).setCell 13 b13).setCell 14 b14).setCell 15 b15

/-- The record that takes an entry out, and what is wrong. -/
def leaveN (P : Pg) (e : En) : Option (List UInt8) × Int := if entriesOk P then (if e ∈ ensN P then (some (enBytes e []), 0) else (none, 150)) else (none, 140)
def leaveV (n : Int) (x : Option (List UInt8)) : Value := match x with
  | some d => recV 4 n (str d)
  | none => recV 0 0 ⟨#[]⟩
def LeavePost (P : Pg) (n : Int) (e : En) (w : World) (x : Ending) (w' : World) : Prop := x = .returned (.tuple #[leaveV n (leaveN P e).1, .int .i64 (leaveN P e).2]) ∧ Below w.heap.size w w'

theorem mem_ok {P : Pg} {e : En} (h : entriesOk P = true) (he : e ∈ ensN P) : enOk e = true := by
  obtain ⟨j, hj, rfl⟩ := List.mem_iff_getElem.1 he
  have hj2 : j < P.items.length := by rw [← ensN_length P]; exact hj
  have hlv : P.level = 0 := by
    unfold entriesOk at h
    simp only [Bool.and_eq_true, decide_eq_true_eq] at h
    exact h.2
  rw [ens_item P hj2]
  exact (leaf_item (ent_open h) hlv hj2).1
theorem leave_facts (P : Pg) (e : En) : (entC P = 140 ∧ leaveN P e = (none, 140) ∧ (openOk P = false ∨ P.level ≠ 0)) ∨ (entC P = 0 ∧ openOk P = true ∧ P.level = 0 ∧ leaveN P e = (if e ∈ entL P then (some (enBytes e []), 0) else (none, 150)) ∧ (e ∈ entL P → enOk e = true) ∧ (entL P).length ≤ 255) := by
  have hl := entL_len P
  unfold entC leaveN
  cases h : entriesOk P with
  | false =>
    refine .inl ⟨rfl, rfl, ?_⟩
    unfold entriesOk at h
    simp only [Bool.and_eq_false_iff, decide_eq_false_iff_not] at h
    exact h
  | true =>
    have e9 : entL P = ensN P := by unfold entL; rw [h]; rfl
    have h2 := h
    unfold entriesOk at h2
    simp only [Bool.and_eq_true, decide_eq_true_eq] at h2
    rw [e9] at hl ⊢
    exact .inr ⟨rfl, h2.1, h2.2, rfl, fun h9 => mem_ok h h9, hl⟩

set_option maxRecDepth 100000 in
set_option maxHeartbeats 4000000 in
theorem leave_any (P : Pg) (iv : Value) (n : Int) (e : En) (w_ : World) (hin : PgIn w_ iv P) :
    Calls Tryz.prog 15 #[pgV P iv, .int .i64 n, enV e] w_ (LeavePost P n e w_) := by
  have hen := fun (u : World) (hu : Grow w_ u) => (entries_node P iv u (hin.fits hu)).mono fun x w' h => ent_uni h
  have hco := fun (u : World) (v : Value) (l : List En) (h : EnsS u v l) (hl : l.length ≤ 255) => contains_e e l v u h (by omega)
  have hec := fun (u : World) (h : enOk e = true) => encode_any e u
  have hee : enOk e = true → encN e = (enBytes e [], 0) := fun h => by unfold encN; rw [h]; rfl
  have hfa := leave_facts P e
  have hpo : ∀ (x : Ending) (w' : World), LeavePost P n e w_ x w' ↔ (x = .returned (.tuple #[leaveV n (leaveN P e).1, .int .i64 (leaveN P e).2]) ∧ Below w_.heap.size w_ w') := fun _ _ => Iff.rfl
  generalize entL P = L at *
  generalize entC P = C at *
  generalize leaveN P e = Y at *
  have hec2 := fun (u : World) (h : enOk e = true) => by have h2 := hec u h; rw [hee h] at h2; exact h2
  clear hec hee
  generalize enBytes e [] = BY at *
  obtain ⟨k, p, s⟩ := e
  unfold pgV at hen
  unfold enV at hco hec2
  dsimp only at hco hec2
  obtain ⟨y1, y2⟩ := Y
  dsimp only at hpo
  obtain ⟨w0, hw0⟩ : ∃ w0, w0 = (((w_.alloc (.cells (pgCells P iv).toArray 24)).alloc (.cells #[.string (str k), .int .i64 p, .int .i64 s] 41)).alloc (.cells #[.int .i64 0, .int .i64 0, .int .i64 0, .int .u8 0, .int .i64 0, .int .i64 0, .int .i64 0, .int .i64 0, .int .i64 0, .int .i64 0, .string ⟨#[]⟩, .slice none 0 0, .slice none 0 0, .slice none 0 0, .slice none 0 0, .slice none 0 0] 36)) := ⟨_, rfl⟩
  obtain ⟨hg0, hP0, hE0, hR0⟩ := per_new P _ k p s w_ w0 hw0
  have HEn := keep hen
  have HCo := keep hco
  have HEc := keep hec2
  have HPo := keep hpo
  have HP0 := keep hP0
  have HE0 := keep hE0
  have HR0 := keep hR0
  have HG0 := keep hg0
  have hz0 := hR0.lt
  clear hen hco hec2 hpo hin hE0 hR0 hg0
  unfold pgCells at hw0 hP0
  obtain ⟨p0, p1, p2, p3, p4, p5, _⟩ := pgres hP0
  clear hP0
  unfold pgV enV
  go_enter Tryz.func15, Tryz.ntmps15
  go_upto_region 1 with fail
  rw [← hw0]
  clear hw0
  go_wp2_with fail
  refine (HEn.out w0 HG0.out).mono ?_
  rintro x w1 ⟨a, c, rfl, hes, hb1⟩
  have HG1 := keep hb1
  have HEs := keep hes
  clear p0 p1 p2 p3 p4 p5 hb1 hes HEn
  rcases hfa with ⟨rfl, hy, _⟩ | ⟨rfl, _, _, hy, hok, hl⟩
  · have HY := keep hy
    clear hy
    have HR := keep (HR0.out.fits HG1.out)
    have Hg := keep (Grow.trans HG0.out HG1.out)
    go_wp2_with ((refine wpList_store_rec rfl _ _ rfl (w_.heap.size + 2) _ rfl rfl HR.out rfl rfl rfl ?_); intro wz hset hbz; have Hset := keep hset; have Hbut := keep hbz; clear hset hbz)
    refine bodyPost_ret (v := .tuple #[recV 0 0 ⟨#[]⟩, .int .i64 140]) ?_ rfl ?_
    · obtain ⟨⟨s0_, s1_, s2_, s3_, s4_, s5_, s6_, s7_, s8_, s9_, s10_, s11_, s12_, s13_, s14_, s15_⟩, _⟩ := recres Hset.out
      simp [results, Tryz.results15, go_sem, s0_, s1_, s2_, s3_, s4_, s5_, s6_, s7_, s8_, s9_, s10_, s11_, s12_, s13_, s14_, s15_, recV]
      try rfl
    · refine (HPo.out _ _).2 ⟨?_, But.below Hg.out Hbut.out (by omega) Hg.out.size⟩
      have hy := HY.out
      simp only [Prod.mk.injEq] at hy
      rw [hy.1, hy.2]
      rfl
  · have hE1 := HE0.out.fits HG1.out
    obtain ⟨c0, c1, c2, _⟩ := enres hE1
    have HOk := keep hok
    have HYy := keep hy
    clear hok hE1 hy
    go_wp2_with fail
    refine (HCo.out w1 _ L HEs.out hl).mono ?_
    rintro x w2 ⟨rfl, hb2⟩
    have HG2 := keep (Grow.trans HG1.out hb2)
    clear c0 c1 c2 hb2
    by_cases hm : (k, p, s) ∈ L
    · have hy := HYy.out
      rw [if_pos hm] at hy
      have HY := keep hy
      have hE2 := HE0.out.fits HG2.out
      obtain ⟨c0, c1, c2, _⟩ := enres hE2
      have hec := HEc.out w2 (HOk.out hm)
      have HEc2 := keep hec
      rw [decide_eq_true hm]
      clear hy hm hE2 HYy hec HEc HOk
      go_wp2_with fail
      refine HEc2.out.mono ?_
      rintro x w3 ⟨rfl, hb3⟩
      have HG3 := keep (Grow.trans HG2.out hb3)
      clear c0 c1 c2 hb3
      have HR := keep (HR0.out.fits HG3.out)
      have Hg := keep (Grow.trans HG0.out HG3.out)
      go_wp2_with ((refine wpList_store_rec rfl _ _ rfl (w_.heap.size + 2) _ rfl rfl HR.out rfl rfl rfl ?_); intro wz hset hbz; have Hset := keep hset; have Hbut := keep hbz; clear hset hbz)
      refine bodyPost_ret (v := .tuple #[recV 4 n (str BY), .int .i64 0]) ?_ rfl ?_
      · obtain ⟨⟨s0_, s1_, s2_, s3_, s4_, s5_, s6_, s7_, s8_, s9_, s10_, s11_, s12_, s13_, s14_, s15_⟩, _⟩ := recres Hset.out
        simp [results, Tryz.results15, go_sem, s0_, s1_, s2_, s3_, s4_, s5_, s6_, s7_, s8_, s9_, s10_, s11_, s12_, s13_, s14_, s15_, recV]
        try rfl
      · refine (HPo.out _ _).2 ⟨?_, But.below Hg.out Hbut.out (by omega) Hg.out.size⟩
        have hy := HY.out
        simp only [Prod.mk.injEq] at hy
        rw [hy.1, hy.2]
        rfl
    · have hy := HYy.out
      rw [if_neg hm] at hy
      have HY := keep hy
      rw [decide_eq_false hm]
      clear hy hm HYy
      have HR := keep (HR0.out.fits HG2.out)
      have Hg := keep (Grow.trans HG0.out HG2.out)
      go_wp2_with ((refine wpList_store_rec rfl _ _ rfl (w_.heap.size + 2) _ rfl rfl HR.out rfl rfl rfl ?_); intro wz hset hbz; have Hset := keep hset; have Hbut := keep hbz; clear hset hbz)
      refine bodyPost_ret (v := .tuple #[recV 0 0 ⟨#[]⟩, .int .i64 150]) ?_ rfl ?_
      · obtain ⟨⟨s0_, s1_, s2_, s3_, s4_, s5_, s6_, s7_, s8_, s9_, s10_, s11_, s12_, s13_, s14_, s15_⟩, _⟩ := recres Hset.out
        simp [results, Tryz.results15, go_sem, s0_, s1_, s2_, s3_, s4_, s5_, s6_, s7_, s8_, s9_, s10_, s11_, s12_, s13_, s14_, s15_, recV]
        try rfl
      · refine (HPo.out _ _).2 ⟨?_, But.below Hg.out Hbut.out (by omega) Hg.out.size⟩
        have hy := HY.out
        simp only [Prod.mk.injEq] at hy
        rw [hy.1, hy.2]
        rfl

end Go.Proofs.YtaninphcgeaepaaGreat

/- Taking an entry out: the document's Leave. -/
namespace Go.Proofs.YtaninphcgeaepaaGreat
open Go.RowKit
attribute [local go_sem] givesF_none givesF_some evalF_tmp evalF_const evalF_global evalF_func lookL isB_bool isB_undef givesUpon_value givesUpon_skip givesUpon_enter
attribute [local simp] eql_entry
attribute [local go_sem] guard_entry

set_option maxRecDepth 100000 in
set_option maxHeartbeats 4000000 in
theorem rleave_any (P : Pg) (iv : Value) (n : Int) (e : En) (w_ : World) (hin : PgIn w_ iv P) :
    Calls Tryz.prog 16 #[pgV P iv, .int .i64 n, enV e] w_ (LeavePost P n e w_) := by
  have hen := fun (u : World) (hu : Grow w_ u) => (rentries_any P iv u (hin.fits hu)).mono fun x w' h => ent_uni h
  have hco := fun (u : World) (v : Value) (l : List En) (h : EnsS u v l) (hl : l.length ≤ 255) => contains_e e l v u h (by omega)
  have hec := fun (u : World) (h : enOk e = true) => rencode_any e u
  have hee : enOk e = true → encN e = (enBytes e [], 0) := fun h => by unfold encN; rw [h]; rfl
  have hfa := leave_facts P e
  have hpo : ∀ (x : Ending) (w' : World), LeavePost P n e w_ x w' ↔ (x = .returned (.tuple #[leaveV n (leaveN P e).1, .int .i64 (leaveN P e).2]) ∧ Below w_.heap.size w_ w') := fun _ _ => Iff.rfl
  have hck := fun (u : World) (hu : Grow w_ u) => rcheck_any P iv u (hin.fits hu)
  unfold ChkPost pgV at hck
  have HCk := keep hck
  clear hck
  generalize openOk P = O at *
  generalize entL P = L at *
  generalize entC P = C at *
  generalize leaveN P e = Y at *
  have hec2 := fun (u : World) (h : enOk e = true) => by have h2 := hec u h; rw [hee h] at h2; exact h2
  clear hec hee
  generalize enBytes e [] = BY at *
  obtain ⟨k, p, s⟩ := e
  unfold pgV at hen
  unfold enV at hco hec2
  dsimp only at hco hec2
  obtain ⟨y1, y2⟩ := Y
  dsimp only at hpo
  obtain ⟨w0, hw0⟩ : ∃ w0, w0 = (((w_.alloc (.cells (pgCells P iv).toArray 24)).alloc (.cells #[.string (str k), .int .i64 p, .int .i64 s] 41)).alloc (.cells #[.int .i64 0, .int .i64 0, .int .i64 0, .int .u8 0, .int .i64 0, .int .i64 0, .int .i64 0, .int .i64 0, .int .i64 0, .int .i64 0, .string ⟨#[]⟩, .slice none 0 0, .slice none 0 0, .slice none 0 0, .slice none 0 0, .slice none 0 0] 36)) := ⟨_, rfl⟩
  obtain ⟨hg0, hP0, hE0, hR0⟩ := per_new P _ k p s w_ w0 hw0
  have HEn := keep hen
  have HCo := keep hco
  have HEc := keep hec2
  have HPo := keep hpo
  have HP0 := keep hP0
  have HE0 := keep hE0
  have HR0 := keep hR0
  have HG0 := keep hg0
  have hz0 := hR0.lt
  clear hen hco hec2 hpo hin hE0 hR0 hg0
  unfold pgCells at hw0 hP0
  obtain ⟨p0, p1, p2, p3, p4, p5, _⟩ := pgres hP0
  clear hP0
  unfold pgV enV
  go_enter Tryz.func16, Tryz.ntmps16
  go_upto_region 1 with fail
  rw [← hw0]
  clear hw0
  go_wp2_with fail
  refine (HCk.out w0 HG0.out).mono ?_
  rintro x w1 ⟨rfl, hb1⟩
  have HG1 := keep hb1
  have hP1 := HP0.out.fits hb1
  unfold pgCells at hP1
  clear p0 p1 p2 p3 p4 p5 hb1 HCk HCo
  obtain ⟨p0, p1, p2, p3, p4, p5, _⟩ := pgres hP1
  clear hP1
  rcases hfa with ⟨rfl, hy, ho⟩ | ⟨rfl, rfl, hlv, hy, hok, hl⟩
  · have HY := keep hy
    clear hy
    cases O with
    | false =>
      simp only [Bool.false_eq_true, if_false]
      clear p0 p1 p2 p3 p4 p5 ho
      have HR := keep (HR0.out.fits HG1.out)
      have Hg := keep (Grow.trans HG0.out HG1.out)
      go_wp2_with ((refine wpList_store_rec rfl _ _ rfl (w_.heap.size + 2) _ rfl rfl HR.out rfl rfl rfl ?_); intro wz hset hbz; have Hset := keep hset; have Hbut := keep hbz; clear hset hbz)
      refine bodyPost_ret (v := .tuple #[recV 0 0 ⟨#[]⟩, .int .i64 140]) ?_ rfl ?_
      · obtain ⟨⟨s0_, s1_, s2_, s3_, s4_, s5_, s6_, s7_, s8_, s9_, s10_, s11_, s12_, s13_, s14_, s15_⟩, _⟩ := recres Hset.out
        simp [results, Tryz.results16, go_sem, s0_, s1_, s2_, s3_, s4_, s5_, s6_, s7_, s8_, s9_, s10_, s11_, s12_, s13_, s14_, s15_, recV]
        try rfl
      · refine (HPo.out _ _).2 ⟨?_, But.below Hg.out Hbut.out (by omega) Hg.out.size⟩
        have hy := HY.out
        simp only [Prod.mk.injEq] at hy
        rw [hy.1, hy.2]
        rfl
    | true =>
      simp only [if_true]
      have hlv : ¬ P.level = 0 := by simpa using ho
      have HR := keep (HR0.out.fits HG1.out)
      have Hg := keep (Grow.trans HG0.out HG1.out)
      go_wp2_with ((refine wpList_store_rec rfl _ _ rfl (w_.heap.size + 2) _ rfl rfl HR.out rfl rfl rfl ?_); intro wz hset hbz; have Hset := keep hset; have Hbut := keep hbz; clear hset hbz)
      refine bodyPost_ret (v := .tuple #[recV 0 0 ⟨#[]⟩, .int .i64 140]) ?_ rfl ?_
      · obtain ⟨⟨s0_, s1_, s2_, s3_, s4_, s5_, s6_, s7_, s8_, s9_, s10_, s11_, s12_, s13_, s14_, s15_⟩, _⟩ := recres Hset.out
        simp [results, Tryz.results16, go_sem, s0_, s1_, s2_, s3_, s4_, s5_, s6_, s7_, s8_, s9_, s10_, s11_, s12_, s13_, s14_, s15_, recV]
        try rfl
      · refine (HPo.out _ _).2 ⟨?_, But.below Hg.out Hbut.out (by omega) Hg.out.size⟩
        have hy := HY.out
        simp only [Prod.mk.injEq] at hy
        rw [hy.1, hy.2]
        rfl
  · simp only [if_true]
    have HOk := keep hok
    have HYy := keep hy
    have HLv := keep hlv
    clear hok hy
    go_upto_region 3 with fail
    clear hlv
    go_wp2_with fail
    refine (HEn.out w1 (Grow.trans HG0.out HG1.out)).mono ?_
    rintro x w2 ⟨a, c, rfl, hes, hb2⟩
    have HG2 := keep (Grow.trans HG1.out hb2)
    have HEs := keep hes
    clear p0 p1 p2 p3 p4 p5 hb2 hes HEn
    go_wp2_with fail
    go_loopw [10] (fun x wr => ∃ m : Nat, m ≤ L.length ∧ x = .int .i64 m ∧ Kept (∀ j (hj : j < L.length), j < m → L[j] ≠ (k, p, s)) ∧ Kept (Grow w2 wr)) (fun x _ => L.length - (intOf x).toNat)
    case atStart => exact ⟨0, Nat.zero_le _, rfl, keep (fun _ _ h => absurd h (by omega)), keep (Grow.refl _)⟩
    case round =>
      obtain ⟨m, hm, rfl, HNe, HG⟩ := hrel
      have HG9 := keep (Grow.trans HG2.out HG.out)
      by_cases hlt : m < L.length
      · obtain ⟨ce, offe, cape, ee, hce⟩ := ens_at HEs.out hlt
        simp only [Value.slice.injEq] at ee
        obtain ⟨rfl, x1, x2⟩ := ee
        obtain ⟨g, hgl⟩ : ∃ g, L[m] = g := ⟨_, rfl⟩
        rw [hgl] at hce
        have HGl := keep hgl
        clear hgl
        obtain ⟨gk, gp, gs⟩ := g
        obtain ⟨c0, c1, c2⟩ := hce wr HG.out
        obtain ⟨e0, e1, e2, _⟩ := enres (HE0.out.fits HG9.out)
        have q2 : (m : Int) < (L.length : Int) := by omega
        dsimp only at c0 c1 c2
        clear hce x1 x2
        go_upto_region 7 with fail
        generalize hS : sameE (gk, gp, gs) (k, p, s) = S at *
        cases S with
        | false =>
          have HS := keep hS
          go_quiet (fail)
          clear c0 c1 c2 e0 e1 e2
          go_wp2_with fail
          go_roundw
          case rel =>
            refine ⟨m + 1, by omega, by go_num, keep (fun j hj h => ?_), keep (Grow.trans HG.out (below_drewN (Grow.refl _) _))⟩
            by_cases e : j = m
            · subst e
              rw [HGl.out]
              exact of_decide_eq_false HS.out
            · exact HNe.out j hj (by omega)
          case measure => simp [intOf]; omega
        | true =>
          have he : L[m]'hlt = (k, p, s) := HGl.out.trans (of_decide_eq_true hS)
          have hmem : (k, p, s) ∈ L := by rw [← he]; exact List.getElem_mem hlt
          have hy := HYy.out
          rw [if_pos hmem] at hy
          have HY := keep hy
          have HEc2 := keep (fun (u : World) => HEc.out u (HOk.out hmem))
          clear hy hmem he HYy HEc HOk
          go_quiet (fail)
          clear c0 c1 c2 e0 e1 e2 hS
          generalize hwq : wr.drewN _ = wq at *
          have HGq := keep (show Grow w0 wq by subst hwq; exact Grow.trans HG9.out (below_drewN (Grow.refl _) _))
          clear hwq
          obtain ⟨e0, e1, e2, _⟩ := enres (HE0.out.fits HGq.out)
          go_wp2_with fail
          refine (HEc2.out wq).mono ?_
          rintro x w3 ⟨rfl, hb3⟩
          have HG3 := keep (Grow.trans HGq.out hb3)
          clear e0 e1 e2 hb3
          have HR := keep (HR0.out.fits HG3.out)
          have Hg := keep (Grow.trans HG0.out HG3.out)
          go_wp2_with ((refine wpList_store_rec rfl _ _ rfl (w_.heap.size + 2) _ rfl rfl HR.out rfl rfl rfl ?_); intro wz hset hbz; have Hset := keep hset; have Hbut := keep hbz; clear hset hbz)
          refine bodyPost_ret (v := .tuple #[recV 4 n (str BY), .int .i64 0]) ?_ rfl ?_
          · obtain ⟨⟨s0_, s1_, s2_, s3_, s4_, s5_, s6_, s7_, s8_, s9_, s10_, s11_, s12_, s13_, s14_, s15_⟩, _⟩ := recres Hset.out
            simp [results, Tryz.results16, go_sem, s0_, s1_, s2_, s3_, s4_, s5_, s6_, s7_, s8_, s9_, s10_, s11_, s12_, s13_, s14_, s15_, recV]
            try rfl
          · refine (HPo.out _ _).2 ⟨?_, But.below Hg.out Hbut.out (by omega) Hg.out.size⟩
            have hy := HY.out
            simp only [Prod.mk.injEq] at hy
            rw [hy.1, hy.2]
            rfl
      · have e : m = L.length := by omega
        subst e
        have hy := HYy.out
        rw [if_neg (fun h => by
          obtain ⟨j, hj, e⟩ := List.mem_iff_getElem.1 h
          exact HNe.out j hj hj e)] at hy
        have HY := keep hy
        clear hy HYy HEc HOk
        have HR := keep (HR0.out.fits HG9.out)
        have Hg := keep (Grow.trans HG0.out HG9.out)
        go_wp2_with ((refine wpList_store_rec rfl _ _ rfl (w_.heap.size + 2) _ rfl rfl HR.out rfl rfl rfl ?_); intro wz hset hbz; have Hset := keep hset; have Hbut := keep hbz; clear hset hbz)
        refine bodyPost_ret (v := .tuple #[recV 0 0 ⟨#[]⟩, .int .i64 150]) ?_ rfl ?_
        · obtain ⟨⟨s0_, s1_, s2_, s3_, s4_, s5_, s6_, s7_, s8_, s9_, s10_, s11_, s12_, s13_, s14_, s15_⟩, _⟩ := recres Hset.out
          simp [results, Tryz.results16, go_sem, s0_, s1_, s2_, s3_, s4_, s5_, s6_, s7_, s8_, s9_, s10_, s11_, s12_, s13_, s14_, s15_, recV]
          try rfl
        · refine (HPo.out _ _).2 ⟨?_, But.below Hg.out Hbut.out (by omega) Hg.out.size⟩
          have hy := HY.out
          simp only [Prod.mk.injEq] at hy
          rw [hy.1, hy.2]
          rfl

end Go.Proofs.YtaninphcgeaepaaGreat
