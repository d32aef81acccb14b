import Derived.Test.YtaninphcgeaepaaGreatKRt1
import Derived.Deep.CutRange
/- node.Split: of no node, and of a leaf. -/
namespace Go.Proofs.YtaninphcgeaepaaGreat
open Go.RowKit
attribute [local go_sem] givesF_none givesF_some evalF_tmp evalF_const evalF_global evalF_func lookL isB_bool isB_undef givesUpon_value givesUpon_skip givesUpon_enter

/-- Pages and an entry are answered. -/
def SplitPost (A B : Pg) (e : En) (c : Int) (w : World) (x : Ending) (w' : World) : Prop :=
  ∃ av bv, x = .returned (.tuple #[pgV A av, pgV B bv, enV e, .int .i64 c]) ∧ ItemsC w' av A.items ∧ ItemsC w' bv B.items ∧ Below w.heap.size w w'
def splitOk (P : Pg) (r : Int) : Bool := openOk P && (decide (2 ≤ P.items.length) && inB r 1 65535)
/-- A leaf's left and right half. -/
def leftN (P : Pg) (r : Int) : Pg := { P with items := P.items.take ((P.items.length + 1) / 2), right := r, high := enBytes ((ensN P).getD ((P.items.length + 1) / 2 - 1) leastE) [] }
def rightN (P : Pg) : Pg := { P with items := P.items.drop ((P.items.length + 1) / 2) }
def borderN (P : Pg) : En := (ensN P).getD ((P.items.length + 1) / 2 - 1) leastE

/-- Two blocks of cells may be written, nothing else is. -/
structure Put2 (r1 r2 t : Nat) (vs1 vs2 : List Value) (u v : World) : Prop where
  os : v.os = u.os
  tape : v.tape = u.tape
  output : v.output = u.output
  size : u.heap.size ≤ v.heap.size
  block : ∀ k, k < u.heap.size → k ≠ r1 → k ≠ r2 → v.heap[k]? = u.heap[k]?
  six1 : (∃ a0 a1 a2 a3 a4 a5, Blk u r1 t [a0, a1, a2, a3, a4, a5]) → ∃ a0 a1 a2 a3 a4 a5, Blk v r1 t [a0, a1, a2, a3, a4, a5]
  six2 : (∃ a0 a1 a2 a3 a4 a5, Blk u r2 t [a0, a1, a2, a3, a4, a5]) → ∃ a0 a1 a2 a3 a4 a5, Blk v r2 t [a0, a1, a2, a3, a4, a5]
  vs1 : Blk u r1 t vs1 → Blk v r1 t vs1
  vs2 : Blk u r2 t vs2 → Blk v r2 t vs2
theorem Put2.refl {r1 r2 t : Nat} {vs1 vs2 : List Value} (u : World) : Put2 r1 r2 t vs1 vs2 u u := ⟨rfl, rfl, rfl, Nat.le_refl _, fun _ _ _ _ => rfl, id, id, id, id⟩
theorem Put2.trans {r1 r2 t : Nat} {vs1 vs2 : List Value} {u v w : World} (h : Put2 r1 r2 t vs1 vs2 u v) (k : Put2 r1 r2 t vs1 vs2 v w) : Put2 r1 r2 t vs1 vs2 u w :=
  ⟨k.os.trans h.os, k.tape.trans h.tape, k.output.trans h.output, Nat.le_trans h.size k.size, fun i hi h1 h2 => (k.block i (Nat.lt_of_lt_of_le hi h.size) h1 h2).trans (h.block i hi h1 h2), fun x => k.six1 (h.six1 x), fun x => k.six2 (h.six2 x), fun x => k.vs1 (h.vs1 x), fun x => k.vs2 (h.vs2 x)⟩
theorem Put2.undrew {r1 r2 t : Nat} {vs1 vs2 : List Value} {u v : World} (h : Put2 r1 r2 t vs1 vs2 u.drew v) : Put2 r1 r2 t vs1 vs2 u v := ⟨h.os, h.tape, h.output, h.size, h.block, h.six1, h.six2, h.vs1, h.vs2⟩
theorem Put2.blk {r1 r2 t : Nat} {vs1 vs2 : List Value} {u v : World} (h : Put2 r1 r2 t vs1 vs2 u v) {b e : Nat} {cs : List Value} (hb : Blk u b e cs) (h1 : b ≠ r1) (h2 : b ≠ r2) : Blk v b e cs := by
  have := hb.lt; unfold Blk at *; rw [h.block _ this h1 h2]; exact hb
theorem Put2.below {r1 r2 t B : Nat} {vs1 vs2 : List Value} {z u v : World} (h : Put2 r1 r2 t vs1 vs2 u v) (hz : Below B z u) (h1 : B ≤ r1) (h2 : B ≤ r2) (hB : B ≤ u.heap.size) : Below B z v :=
  ⟨h.os.trans hz.os, h.tape.trans hz.tape, h.output.trans hz.output, Nat.le_trans hz.size h.size, fun k hk => (h.block k (by omega) (by omega) (by omega)).trans (hz.block k hk)⟩
theorem Put2.row {r1 r2 t e n : Nat} {vs1 vs2 cs : List Value} {u v : World} {x : Value} (h : Put2 r1 r2 t vs1 vs2 u v) (hr : RowS u e x n cs) (h1 : ∃ cs1, Blk u r1 t cs1) (h2 : ∃ cs2, Blk u r2 t cs2) (he : e ≠ t) : RowS v e x n cs :=
  hr.move fun c blk f hc => by
    obtain ⟨cs1, h1⟩ := h1
    obtain ⟨cs2, h2⟩ := h2
    rw [h.block c (lt_of_block hc) ?_ ?_]
    · exact hc
    · rintro rfl
      unfold Blk at h1
      rw [h1] at hc
      simp at hc
      exact he hc.2.1.symm
    · rintro rfl
      unfold Blk at h2
      rw [h2] at hc
      simp at hc
      exact he hc.2.1.symm

theorem Put2.one1 {r1 r2 t : Nat} {vs1 vs2 : List Value} {u v : World} (k : But r1 u v) (h12 : r1 ≠ r2) (h : Blk v r1 t vs1) (hs : ∃ a0 a1 a2 a3 a4 a5, vs1 = [a0, a1, a2, a3, a4, a5]) : Put2 r1 r2 t vs1 vs2 u v :=
  ⟨k.os, k.tape, k.output, k.size, fun i hi h1 _ => k.block i hi h1, fun _ => by obtain ⟨_, _, _, _, _, _, rfl⟩ := hs; exact ⟨_, _, _, _, _, _, h⟩, fun ⟨_, _, _, _, _, _, h2⟩ => ⟨_, _, _, _, _, _, h2.but k h12.symm⟩, fun _ => h, fun h2 => h2.but k h12.symm⟩
theorem Put2.one2 {r1 r2 t : Nat} {vs1 vs2 : List Value} {u v : World} (k : But r2 u v) (h12 : r1 ≠ r2) (h : Blk v r2 t vs2) (hs : ∃ a0 a1 a2 a3 a4 a5, vs2 = [a0, a1, a2, a3, a4, a5]) : Put2 r1 r2 t vs1 vs2 u v :=
  ⟨k.os, k.tape, k.output, k.size, fun i hi _ h2 => k.block i hi h2, fun ⟨_, _, _, _, _, _, h1⟩ => ⟨_, _, _, _, _, _, h1.but k h12⟩, fun _ => by obtain ⟨_, _, _, _, _, _, rfl⟩ := hs; exact ⟨_, _, _, _, _, _, h⟩, fun h1 => h1.but k h12, fun _ => h⟩

theorem decN_ok {l : List UInt8} (h : (decN l).2 = 0) : enOk (decN l).1 = true := by
  unfold decN at *
  cases hd : decOkN l with
  | false => rw [hd] at h; simp at h
  | true =>
    simp only [if_true]
    unfold decOkN at hd
    rw [Bool.and_eq_true] at hd
    exact hd.2
theorem ens_ok {P : Pg} (h : openOk P = true) (hlv : P.level = 0) : ∀ e ∈ ensN P, enOk e = true := by
  intro e he
  unfold openOk at h
  simp only [Bool.and_eq_true] at h
  obtain ⟨j, hj, rfl⟩ := List.mem_iff_getElem.1 he
  rw [ensN_length] at hj
  have h1 := okTo_at h.2.1 j hj
  simp only [roundOk, Bool.and_eq_true, decide_eq_true_eq] at h1
  have h2 := h1.2.1
  rw [hlv] at h2
  have e1 : (ensN P)[j] = (decN (P.items.getD j [])).1 := by
    simp [ensN, ensTo, itemN, hlv, hj]
  rw [e1]
  exact decN_ok (by simpa [itemN] using h2)

theorem sub_lo {w : World} {c off cap k : Nat} {l : List (List UInt8)} (h : Items w (.slice (some ⟨c, off, none⟩) l.length cap) l) (hk : k ≤ l.length) : Items w (.slice (some ⟨c, off, none⟩) k cap) (l.take k) := by
  have hl : (l.take k).length = k := by rw [List.length_take]; omega
  rcases h with ⟨h1, h2, a, cap', h3⟩ | ⟨c', off', cap', h1, h3⟩
  · have : k = 0 := by omega
    subst this
    exact .inl ⟨by simp, by simp [sCells], _, _, rfl⟩
  · simp only [Value.slice.injEq, Option.some.injEq, Addr.mk.injEq] at h1
    obtain ⟨⟨rfl, rfl, _⟩, _, rfl⟩ := h1
    refine .inr ⟨c, off, cap, by rw [hl], fun j hj => ?_⟩
    rw [sCells_length, hl] at hj
    rw [h3 j (by rw [sCells_length]; omega)]
    simp [sCells]
theorem sub_hi {w : World} {c off cap cap2 k : Nat} {l : List (List UInt8)} (h : Items w (.slice (some ⟨c, off, none⟩) l.length cap) l) (hk : k < l.length) : Items w (.slice (some ⟨c, off + k, none⟩) (l.length - k) cap2) (l.drop k) := by
  have hl : (l.drop k).length = l.length - k := List.length_drop
  rcases h with ⟨h1, h2, a, cap', h3⟩ | ⟨c', off', cap', h1, h3⟩
  · omega
  · simp only [Value.slice.injEq, Option.some.injEq, Addr.mk.injEq] at h1
    obtain ⟨⟨rfl, rfl, _⟩, _, rfl⟩ := h1
    refine .inr ⟨c, off + k, cap2, by rw [hl], fun j hj => ?_⟩
    rw [sCells_length, hl] at hj
    rw [Nat.add_assoc, h3 (k + j) (by rw [sCells_length]; omega)]
    simp [sCells]

set_option maxRecDepth 100000 in
set_option maxHeartbeats 4000000 in
theorem split_leaf (P : Pg) (iv : Value) (r : Int) (w_ : World) (hin : PgIn w_ iv P) (hcap : Capd iv) (hlv : P.level = 0) (hsp : splitOk P r = true) :
    Calls Tryz.prog 23 #[pgV P iv, .int .i64 r] w_ (SplitPost (leftN P r) (rightN P) (borderN P) 0 w_) := by
  obtain ⟨w0, hw0⟩ : ∃ w0, w0 = ((((w_.alloc (.cells (pgCells P iv).toArray 24)).alloc (.cells #[.int .i64 0, .int .i64 0, .int .i64 0, .int .i64 0, .string ⟨#[]⟩, .slice none 0 0] 24)).alloc (.cells #[.int .i64 0, .int .i64 0, .int .i64 0, .int .i64 0, .string ⟨#[]⟩, .slice none 0 0] 24)).alloc (.cells #[.string ⟨#[]⟩, .int .i64 0, .int .i64 0] 41)) := ⟨_, rfl⟩
  have hg0 : Grow w_ w0 := by subst hw0; exact ((((Grow.refl w_).alloc _).alloc _).alloc _).alloc _
  have hP0 : Blk w0 w_.heap.size 24 (pgCells P iv) := by
    have := (((Blk.new w_ 24 (pgCells P iv)).alloc (.cells #[.int .i64 0, .int .i64 0, .int .i64 0, .int .i64 0, .string ⟨#[]⟩, .slice none 0 0] 24)).alloc (.cells #[.int .i64 0, .int .i64 0, .int .i64 0, .int .i64 0, .string ⟨#[]⟩, .slice none 0 0] 24)).alloc (.cells #[.string ⟨#[]⟩, .int .i64 0, .int .i64 0] 41)
    subst hw0; exact this
  have hA0 : Blk w0 (w_.heap.size + 1) 24 [.int .i64 0, .int .i64 0, .int .i64 0, .int .i64 0, .string ⟨#[]⟩, .slice none 0 0] := by
    have := ((Blk.new (w_.alloc (.cells (pgCells P iv).toArray 24)) 24 [.int .i64 0, .int .i64 0, .int .i64 0, .int .i64 0, .string ⟨#[]⟩, .slice none 0 0]).alloc (.cells #[.int .i64 0, .int .i64 0, .int .i64 0, .int .i64 0, .string ⟨#[]⟩, .slice none 0 0] 24)).alloc (.cells #[.string ⟨#[]⟩, .int .i64 0, .int .i64 0] 41)
    have e : (w_.alloc (.cells (pgCells P iv).toArray 24)).heap.size = w_.heap.size + 1 := by simp
    rw [e] at this
    subst hw0; exact this
  have hB0 : Blk w0 (w_.heap.size + 2) 24 [.int .i64 0, .int .i64 0, .int .i64 0, .int .i64 0, .string ⟨#[]⟩, .slice none 0 0] := by
    have := (Blk.new ((w_.alloc (.cells (pgCells P iv).toArray 24)).alloc (.cells #[.int .i64 0, .int .i64 0, .int .i64 0, .int .i64 0, .string ⟨#[]⟩, .slice none 0 0] 24)) 24 [.int .i64 0, .int .i64 0, .int .i64 0, .int .i64 0, .string ⟨#[]⟩, .slice none 0 0]).alloc (.cells #[.string ⟨#[]⟩, .int .i64 0, .int .i64 0] 41)
    have e : ((w_.alloc (.cells (pgCells P iv).toArray 24)).alloc (.cells #[.int .i64 0, .int .i64 0, .int .i64 0, .int .i64 0, .string ⟨#[]⟩, .slice none 0 0] 24)).heap.size = w_.heap.size + 2 := by simp
    rw [e] at this
    subst hw0; exact this
  have hR0 : Blk w0 (w_.heap.size + 3) 41 [.string ⟨#[]⟩, .int .i64 0, .int .i64 0] := by
    have := Blk.new (((w_.alloc (.cells (pgCells P iv).toArray 24)).alloc (.cells #[.int .i64 0, .int .i64 0, .int .i64 0, .int .i64 0, .string ⟨#[]⟩, .slice none 0 0] 24)).alloc (.cells #[.int .i64 0, .int .i64 0, .int .i64 0, .int .i64 0, .string ⟨#[]⟩, .slice none 0 0] 24)) 41 [.string ⟨#[]⟩, .int .i64 0, .int .i64 0]
    have e : (((w_.alloc (.cells (pgCells P iv).toArray 24)).alloc (.cells #[.int .i64 0, .int .i64 0, .int .i64 0, .int .i64 0, .string ⟨#[]⟩, .slice none 0 0] 24)).alloc (.cells #[.int .i64 0, .int .i64 0, .int .i64 0, .int .i64 0, .string ⟨#[]⟩, .slice none 0 0] 24)).heap.size = w_.heap.size + 3 := by simp
    rw [e] at this
    subst hw0; exact this
  have hzR := hR0.lt
  have hop := opened_pg (hin.fits hg0)
  obtain ⟨hopen, hlen, hr⟩ : openOk P = true ∧ 2 ≤ P.items.length ∧ inB r 1 65535 = true := by simpa [splitOk, and_assoc] using hsp
  obtain ⟨ci, offi, ic, hive, hcells⟩ := items_cells hin.1 (by omega)
  subst hive
  have hcap2 : P.items.length ≤ ic := hcap
  clear hcap
  have hic := fun u => isChild_any r u
  rw [hr] at hic
  have HIc := keep hic
  have HOp := keep hop
  have HOpen := keep hopen
  have HIn := keep hin
  have HP0 := keep hP0
  have HA0 := keep hA0
  have HB0 := keep hB0
  have HR0 := keep hR0
  have HLv := keep hlv
  have HLen := keep hlen
  have hlen2 : ¬ (P.items.length : Int) < 2 := by omega
  clear hop hopen hin hA0 hB0 hR0 hsp hr hic hcells hlv hlen
  unfold pgCells at hw0 hP0
  obtain ⟨p0, p1, p2, p3, p4, p5, _⟩ := pgres hP0
  unfold pgV
  go_enter Tryz.func23, Tryz.ntmps23
  go_upto_region 1 with fail
  rw [← hw0]
  clear hw0
  go_wp2_with fail
  refine HOp.out.mono ?_
  rintro x w1 ⟨a1, n1, c1, a2, n2, c2, hi, bd, ok, rfl, hok, hyes, hb1⟩
  rw [HOpen.out] at hok
  subst hok
  obtain ⟨hes, _, rfl, rfl⟩ := hyes rfl
  clear p0 p1 p2 p3 p4 p5 hP0 hyes
  obtain ⟨w2, hw2⟩ : ∃ w2, w2 = w1.alloc (.cells #[.slice a1 n1 c1, .slice a2 n2 c2, .string (str (hiN P).1), .int .i64 (hiN P).2.1, .int .i64 (hiN P).2.2, .bool (bdN P)] 97) := ⟨_, rfl⟩
  have hg2 : Grow w0 w2 := by subst hw2; exact Grow.alloc hb1 _
  have hO2 : Blk w2 w1.heap.size 97 [.slice a1 n1 c1, .slice a2 n2 c2, .string (str (hiN P).1), .int .i64 (hiN P).2.1, .int .i64 (hiN P).2.2, .bool (bdN P)] := by subst hw2; exact Blk.new w1 _ [_, _, _, _, _, _]
  have hes2 : EnsS w2 (.slice a1 n1 c1) (ensN P) := by subst hw2; exact RowS.fits hes ((Grow.refl _).alloc _)
  have HEs := keep hes2
  have HO2 := keep hO2
  have HG2 := keep hg2
  have HW1 := keep (show w0.heap.size ≤ w1.heap.size from hb1.size)
  clear hes hes2 hb1 hO2 hg2
  go_upto_region 2 with fail
  rw [← hw2]
  clear hw2
  have hP2 := HP0.out.fits HG2.out
  unfold pgCells at hP2
  obtain ⟨p0, p1, p2, p3, p4, p5, _⟩ := pgres hP2
  go_wp2_with fail
  refine (HIc.out w2).mono ?_
  rintro x w3 ⟨rfl, rfl⟩
  go_upto_region 6 with fail
  have hl255 := (open_fine HOpen.out).1
  have ek : wrap64 ((wrap64 ((P.items.length : Int) + 1)).tdiv 2) = (((P.items.length + 1) / 2 : Nat) : Int) := by
    rw [show ((P.items.length : Int) + 1) = ((P.items.length + 1 : Nat) : Int) by omega, wrap64_small (P.items.length + 1) (by omega)]
    rw [show (((P.items.length + 1 : Nat) : Int)).tdiv 2 = (((P.items.length + 1) / 2 : Nat) : Int) from rfl, wrap64_small _ (by omega)]
  rw [ek]
  clear ek
  have hleft : leftN P r = { P with items := P.items.take ((P.items.length + 1) / 2), right := r, high := enBytes ((ensN P).getD ((P.items.length + 1) / 2 - 1) leastE) [] } := rfl
  have hright : rightN P = { P with items := P.items.drop ((P.items.length + 1) / 2) } := rfl
  have hborder : borderN P = (ensN P).getD ((P.items.length + 1) / 2 - 1) leastE := rfl
  obtain ⟨k, hk⟩ : ∃ k, k = (P.items.length + 1) / 2 := ⟨_, rfl⟩
  rw [← hk] at hleft hright hborder ⊢
  have hk1 : 1 ≤ k := by have := HLen.out; omega
  have hk2 : k < P.items.length := by have := HLen.out; omega
  clear hk
  have HLeft := keep hleft
  have HRight := keep hright
  have HBorder := keep hborder
  clear hleft hright hborder p0 p1 p2 p3 p4 p5 hlen2
  obtain ⟨p0, p1, p2, p3, p4, p5, _⟩ := pgres hP2
  have hsz := HG2.out.size
  have hl1 : w_.heap.size < w2.heap.size := by omega
  have hl2 : w_.heap.size < w2.heap.size + 1 := by omega
  have hl3 : ¬ w_.heap.size = w2.heap.size := by omega
  have hl4 : ¬ w_.heap.size = w2.heap.size + 1 := by omega
  have hl5 : ¬ w2.heap.size = w_.heap.size := by omega
  have hl6 : ¬ w2.heap.size + 1 = w_.heap.size := by omega
  have hA9 := keep (Blk.drew ((Blk.new w2 24 (pgCells P (.slice (some ⟨ci, offi, none⟩) P.items.length ic))).alloc (.cells (pgCells P (.slice (some ⟨ci, offi, none⟩) P.items.length ic)).toArray 24)))
  have hB9 := Blk.drew (Blk.new (w2.alloc (.cells (pgCells P (.slice (some ⟨ci, offi, none⟩) P.items.length ic)).toArray 24)) 24 (pgCells P (.slice (some ⟨ci, offi, none⟩) P.items.length ic)))
  rw [show (w2.alloc (.cells (pgCells P (.slice (some ⟨ci, offi, none⟩) P.items.length ic)).toArray 24)).heap.size = w2.heap.size + 1 by simp] at hB9
  have hB9 := keep hB9
  have hg9 := keep (Below.drew (Grow.alloc (Grow.alloc (Grow.refl w2) (.cells (pgCells P (.slice (some ⟨ci, offi, none⟩) P.items.length ic)).toArray 24)) (.cells (pgCells P (.slice (some ⟨ci, offi, none⟩) P.items.length ic)).toArray 24)))
  go_cut [12, 13] from 40 to 41 (fun s12 s13 wx => ∃ a b, s12 = .pointer (some ⟨a, 0, none⟩) ∧ s13 = .pointer (some ⟨b, 0, none⟩) ∧ a ≠ b ∧ w2.heap.size ≤ a ∧ w2.heap.size ≤ b ∧ Blk wx a 24 (pgCells P (.slice (some ⟨ci, offi, none⟩) P.items.length ic)) ∧ Blk wx b 24 (pgCells P (.slice (some ⟨ci, offi, none⟩) P.items.length ic)) ∧ Below w2.heap.size w2 wx)
  case first =>
    go_region
    all_goals go_wp2_with fail
    all_goals go_meet
    all_goals (case rel =>
      first
        | exact ⟨_, _, rfl, rfl, by omega, Nat.le_refl _, by omega, hA9.out, hB9.out, hg9.out⟩
        | exact ⟨_, _, rfl, rfl, by omega, by omega, Nat.le_refl _, hB9.out, hA9.out, hg9.out⟩)
  case rest =>
    obtain ⟨a, b, rfl, rfl, hab, hNa, hNb, hA3, hB3, hg3⟩ := hcut
    clear p0 p1 p2 p3 p4 p5 hA9 hB9 hg9 hl1 hl2 hl3 hl4 hl5 hl6
    generalize wc = w3 at *
    have hP3 := hP2.fits hg3
    have hN3 := hg3.size
    have HP7 := keep (fun (u : World) (hu : Grow w3.drew u) => Blk.fits (Blk.drew hP3) hu)
    have HI3 := keep (Row.fits HIn.out.1 (Grow.trans hg0 (Grow.trans HG2.out hg3)) : Items w3 (.slice (some ⟨ci, offi, none⟩) P.items.length ic) P.items)
    have HI7 := keep (fun (u : World) (hu : Grow w3.drew u) => (Row.fits HI3.out (Grow.undrew hu) : Items u (.slice (some ⟨ci, offi, none⟩) P.items.length ic) P.items))
    have hk3 : k ≤ ic := by omega
    have hk4 : ¬ ic = k := by omega
    have hk5 : k ≤ P.items.length := by omega
    have HA3 := keep hA3
    have HB3 := keep hB3
    have HG3 := keep hg3
    have HAB := keep (And.intro hab (And.intro hNa (And.intro hNb hN3)))
    have HK := keep (And.intro hk1 hk2)
    have HL255 := keep hl255
    clear hA3 hB3 hg3 hP2 hP3 hab hNa hNb hN3
    go_upto_region 7 with fail
    refine wp_region_grow_named (by kernel_rfl) 11 (by kernel_rfl) [(42, 0), (43, 1), (44, 2), (45, 3), (46, 4), (47, 5), (48, 6), (49, 7), (50, 8), (51, 9), (52, 10)] (by kernel_rfl) [(0, true), (1, true), (2, true), (3, true), (4, true), (5, true), (6, true), (7, true), (8, true), (9, true), (10, true)] (by kernel_rfl) rfl rfl ?_
    intro a0 ha0
    have hsz : a0.tmps.size = 87 := (size_at ha0).trans rfl
    have s2 := slot_at ha0 2 rfl
    have s11 := slot_at ha0 11 rfl
    have s12 := slot_at ha0 12 rfl
    have HA0 := keep ha0
    clear ha0
    -- operation 0
    apply lexf_eq hsz [] [(44, 2), (45, 3), (46, 4), (47, 5), (48, 6), (49, 7), (50, 8), (51, 9)] none (by kernel_rfl) (by kernel_rfl) (by kernel_rfl) (by kernel_rfl) rfl
    · intro xs w hw hp K hK
      go_simp
      exact hK _ (Grow.refl _)
    -- operation 1
    apply lexf_eq hsz [(0, true)] [(42, 0), (44, 2), (46, 4), (47, 5), (48, 6), (49, 7), (50, 8), (51, 9)] none (by kernel_rfl) (by kernel_rfl) (by kernel_rfl) (by kernel_rfl) rfl
    · intro xs w hw hp K hK
      simp only [holdsL, List.nil_append, List.cons_append, List.getD_cons_succ, List.getD_cons_zero, if_true, and_true] at hp
      obtain ⟨p0, p1, p2, p3, p4, p5, _⟩ := pgres (HP7.out w hw)
      go_simp
      exact hK _ (Grow.refl _)
    -- operation 2
    apply lexf_eq hsz [] [(42, 0), (43, 1), (46, 4), (47, 5), (48, 6), (49, 7), (50, 8), (51, 9)] none (by kernel_rfl) (by kernel_rfl) (by kernel_rfl) (by kernel_rfl) rfl
    · intro xs w hw hp K hK
      go_simp
      exact hK _ (Grow.refl _)
    -- operation 3
    apply lexf_eq hsz [(1, true), (2, true)] [(42, 0), (43, 1), (44, 2), (47, 5), (48, 6), (49, 7), (50, 8), (51, 9)] none (by kernel_rfl) (by kernel_rfl) (by kernel_rfl) (by kernel_rfl) rfl
    · intro xs w hw hp K hK
      simp only [holdsL, List.nil_append, List.cons_append, List.getD_cons_succ, List.getD_cons_zero, if_true, and_true] at hp
      go_simp
      exact hK _ (Grow.refl _)
    -- operation 4
    refine lexf_says hsz (fun v u => ItemsC u v (P.items.take k)) (fun _ _ _ g h => h.fits g) [(3, true)] [(42, 0), (43, 1), (44, 2), (45, 3), (47, 5), (48, 6), (49, 7), (50, 8)] none (by kernel_rfl) (by kernel_rfl) (by kernel_rfl) (by kernel_rfl) rfl ?_ ?_
    · intro xs w hw hp K hK
      simp only [holdsL, List.nil_append, List.cons_append, List.getD_cons_succ, List.getD_cons_zero, if_true, and_true] at hp
      go_simp
      exact (clone_any _ (P.items.take k) w (sub_lo (HI7.out w hw) hk5) (by rw [List.length_take]; omega)).mono fun e w' ⟨v', h1, h2, h3⟩ => ⟨v', h1, hK _ _ (items_owned h2) h3⟩
    -- operation 5
    apply lexf_eq hsz [] [(42, 0), (43, 1), (44, 2), (45, 3), (46, 4), (49, 7), (50, 8), (51, 9), (52, 10)] none (by kernel_rfl) (by kernel_rfl) (by kernel_rfl) (by kernel_rfl) rfl
    · intro xs w hw hp K hK
      go_simp
      exact hK _ (Grow.refl _)
    -- operation 6
    apply lexf_eq hsz [(5, true)] [(42, 0), (43, 1), (44, 2), (45, 3), (46, 4), (47, 5), (49, 7), (51, 9), (52, 10)] none (by kernel_rfl) (by kernel_rfl) (by kernel_rfl) (by kernel_rfl) rfl
    · intro xs w hw hp K hK
      simp only [holdsL, List.nil_append, List.cons_append, List.getD_cons_succ, List.getD_cons_zero, if_true, and_true] at hp
      obtain ⟨p0, p1, p2, p3, p4, p5, _⟩ := pgres (HP7.out w hw)
      go_simp
      exact hK _ (Grow.refl _)
    -- operation 7
    apply lexf_eq hsz [] [(42, 0), (43, 1), (44, 2), (45, 3), (46, 4), (47, 5), (48, 6), (51, 9), (52, 10)] none (by kernel_rfl) (by kernel_rfl) (by kernel_rfl) (by kernel_rfl) rfl
    · intro xs w hw hp K hK
      go_simp
      exact hK _ (Grow.refl _)
    -- operation 8
    apply lexf_eq hsz [(6, true), (7, true)] [(42, 0), (43, 1), (44, 2), (45, 3), (46, 4), (47, 5), (48, 6), (49, 7), (52, 10)] none (by kernel_rfl) (by kernel_rfl) (by kernel_rfl) (by kernel_rfl) rfl
    · intro xs w hw hp K hK
      simp only [holdsL, List.nil_append, List.cons_append, List.getD_cons_succ, List.getD_cons_zero, if_true, and_true] at hp
      go_simp
      exact hK _ (Grow.refl _)
    -- operation 9
    refine lexf_says hsz (fun v u => ItemsC u v (P.items.drop k)) (fun _ _ _ g h => h.fits g) [(8, true)] [(42, 0), (43, 1), (44, 2), (45, 3), (46, 4), (47, 5), (48, 6), (49, 7), (50, 8), (52, 10)] none (by kernel_rfl) (by kernel_rfl) (by kernel_rfl) (by kernel_rfl) rfl ?_ ?_
    · intro xs w hw hp K hK
      simp only [holdsL, List.nil_append, List.cons_append, List.getD_cons_succ, List.getD_cons_zero, if_true, and_true] at hp
      go_simp
      exact (clone_any _ (P.items.drop k) w (sub_hi (HI7.out w hw) HK.out.2) (by rw [List.length_drop]; omega)).mono fun e w' ⟨v', h1, h2, h3⟩ => ⟨v', h1, hK _ _ (items_owned h2) h3⟩
    -- operation 10
    apply lexf_eq hsz [] [(42, 0), (43, 1), (44, 2), (45, 3), (46, 4), (47, 5), (48, 6), (49, 7), (50, 8), (51, 9)] none (by kernel_rfl) (by kernel_rfl) (by kernel_rfl) (by kernel_rfl) rfl
    · intro xs w hw hp K hK
      go_simp
      exact hK _ (Grow.refl _)
    intro xs w hw hp
    have ha0 := HA0.out
    clear HA0 hsz s2 s11 s12
    simp only [holdsL, List.nil_append, List.cons_append, List.getD_cons_succ, List.getD_cons_zero, if_true, and_true] at hp
    have h4 := hp.2.2.2.2.1
    have h9 := hp.2.2.2.2.2.2.2.2.2.1
    have h10 := hp.2.2.2.2.2.2.2.2.2.2
    clear hp
    subst ha0
    simp only [putAll, h10]
    have hgw := hw.undrew
    obtain ⟨h4, h4c⟩ := h4
    obtain ⟨h9, h9c⟩ := h9
    obtain ⟨la, lc, hl4⟩ := itemsS_form h4
    obtain ⟨ra, rc, hl9⟩ := itemsS_form h9
    rw [show (P.items.take k).length = k by rw [List.length_take]; omega] at hl4
    rw [List.length_drop] at hl9
    generalize xs 4 = v4 at *
    generalize xs 9 = v9 at *
    subst hl4 hl9
    obtain ⟨hab, hNa, hNb, hN3⟩ := HAB.out
    have hA4 := HA3.out.fits hgw
    have hB4 := HB3.out.fits hgw
    have hg4 : Below w2.heap.size w2 w := Grow.trans HG3.out hgw
    have hA5 := (hA4.set 5 (.slice la k lc)).set_other ⟨b, 5, none⟩ (show a ≠ b from hab) (.slice ra (P.items.length - k) rc)
    have hB5 := (hB4.set_other ⟨a, 5, none⟩ (show b ≠ a from fun e => hab e.symm) (.slice la k lc)).set 5 (.slice ra (P.items.length - k) rc)
    have h4s := items_but h4 ((But.refl a w).setCell 5 (.slice la k lc)) hA4 (by decide)
    have h9s := items_but h9 ((But.refl a w).setCell 5 (.slice la k lc)) hA4 (by decide)
    have hB4' := hB4.set_other ⟨a, 5, none⟩ (show b ≠ a from fun e => hab e.symm) (.slice la k lc)
    have h4t : ItemsC _ _ _ := ⟨items_but h4s ((But.refl b _).setCell 5 (.slice ra (P.items.length - k) rc)) hB4' (by decide), h4c⟩
    have h9t : ItemsC _ _ _ := ⟨items_but h9s ((But.refl b _).setCell 5 (.slice ra (P.items.length - k) rc)) hB4' (by decide), h9c⟩
    have hg5 : Below w2.heap.size w2 _ := But.below (But.below hg4 ((But.refl a w).setCell 5 (.slice la k lc)) hNa hg4.size) ((But.refl b _).setCell 5 (.slice ra (P.items.length - k) rc)) hNb (by simp; exact hg4.size)
    have hsz5 : w.heap.size ≤ ((w.setCell ⟨a, 5, none⟩ (.slice la k lc)).setCell ⟨b, 5, none⟩ (.slice ra (P.items.length - k) rc)).heap.size := by simp
    have HA5 := keep hA5
    have HB5 := keep hB5
    have H4 := keep h4t
    have H9 := keep h9t
    have HG5 := keep hg5
    unfold pgCells at hA4 hB4
    obtain ⟨p0, p1, p2, p3, p4, p5, q0, q1, q2, q3, q4, q5⟩ := pgres hA4
    obtain ⟨y0, y1, y2, y3, y4, y5, z0, z1, z2, z3, z4, z5⟩ := pgres hB4
    clear hw h4 h9 h4s h9s h4t h9t hA5 hB5 hg5 hg4 hB4' HI7 HP7 hA4 hB4 hgw hsz5 HA3 HB3 h4c h9c
    go_upto_region 8 with fail
    clear p0 p1 p2 p3 p4 p5 q0 q1 q2 q3 q4 q5 y0 y1 y2 y3 y4 y5 z0 z1 z2 z3 z4 z5
    have hA5 := HA5.out
    have hB5 := HB5.out
    have h4t := H4.out
    have h9t := H9.out
    have hg5 := HG5.out
    clear HA5 HB5 H4 H9 HG5
    generalize (w.setCell ⟨a, 5, none⟩ (.slice la k lc)).setCell ⟨b, 5, none⟩ (.slice ra (P.items.length - k) rc) = w5 at *
    have HW2 : Kept (w1.heap.size < w2.heap.size) := keep HO2.out.lt
    have hO5 := HO2.out.below hg5 HW2.out
    have hes5 : EnsS w5 (.slice a1 n1 c1) (ensN P) := RowS.fits HEs.out hg5
    have hP5 := (HP0.out.fits HG2.out).below hg5 (by have := HW1.out; have := HW2.out; omega)
    have hA_ := HA0.out.fits HG2.out
    have hB_ := HB0.out.fits HG2.out
    have hR_ := HR0.out.fits HG2.out
    have hlen2 := ensN_length P
    obtain ⟨ce, offe, cape, hev, hec⟩ := ens_cells hes5.weak (by have := HK.out; omega)
    simp only [Value.slice.injEq] at hev
    obtain ⟨rfl, rfl, rfl⟩ := hev
    have hkl : k - 1 < (ensN P).length := by have := HK.out; omega
    have hec1 := hec (k - 1) hkl
    have hbo : borderN P = (ensN P)[k - 1] := by rw [HBorder.out]; simp [hkl]
    have hbok : enOk (borderN P) = true := ens_ok HOpen.out HLv.out _ (by rw [hbo]; exact List.getElem_mem hkl)
    rw [← hbo] at hec1
    have hbn : (ensN P).getD (k - 1) leastE = borderN P := HBorder.out.symm
    have hleft := HLeft.out
    rw [hbn] at hleft
    have hby := fun u => bytes_any (borderN P) (.slice none 0 0) [] u (enOk_fine hbok) (none_ints u) (by simp) (by simp)
    generalize borderN P = BE at *
    obtain ⟨bk, bp, bs⟩ := BE
    generalize enBytes (bk, bp, bs) [] = BY at *
    unfold enV at hby
    dsimp only at hby hec1
    obtain ⟨ec0, ec1, ec2⟩ := hec1
    have hkm : wrap64 ((k : Int) - 1) = (k : Int) - 1 := by
      have := HK.out
      have := HL255.out
      rw [show (k : Int) - 1 = ((k - 1 : Nat) : Int) by omega]
      exact wrap64_small _ (by omega)
    have hk0 : (0 : Int) ≤ (k : Int) - 1 := by have := HK.out; omega
    have hkn : (k : Int) - 1 < ((ensN P).length : Int) := by have := HK.out; omega
    obtain ⟨o0, o1, o2, o3, o4, o5, _⟩ := pgres hO5
    have HBy := keep hby
    have HBok := keep hbok
    have HLeft2 := keep hleft
    have HP5 := keep hP5
    have HA_ := keep hA_
    have HB_ := keep hB_
    have HR_ := keep hR_
    have H4 := keep h4t
    have H9 := keep h9t
    have HA5 := keep hA5
    have HB5 := keep hB5
    have HG5 := keep hg5
    clear hby hbok hleft hbn hbo hec hes5 hO5 hP5 hA_ hB_ hR_ hlen2 hkl HLeft HBorder HEs h4t h9t hA5 hB5 hg5
    go_upto_region 9 with fail
    obtain ⟨w6, hw6⟩ : ∃ w6, w6 = w5.alloc (.cells #[.string (str bk), .int .i64 bp, .int .i64 bs] 41) := ⟨_, rfl⟩
    rw [← hw6]
    have hg6 : Grow w5 w6 := by subst hw6; exact (Grow.refl _).alloc _
    have hX6 : Blk w6 w5.heap.size 41 [.string (str bk), .int .i64 bp, .int .i64 bs] := by subst hw6; exact Blk.new w5 _ [_, _, _]
    have hP6 := HP5.out.fits hg6
    have hlv0 : ¬ (0 : Int) < P.level := by rw [HLv.out]; omega
    have HG6 := keep hg6
    have HX6 := keep hX6
    clear hw6 o0 o1 o2 o3 o4 o5 ec0 ec1 ec2 hg6 hkm hk0 hkn
    unfold pgCells at hP6
    obtain ⟨p0, p1, p2, p3, p4, p5, _⟩ := pgres hP6
    obtain ⟨x0, x1, x2, _⟩ := enres hX6
    clear hX6
    go_wp2_with fail
    refine (HBy.out w6).mono ?_
    rintro x w7 ⟨rfl, hb7⟩
    clear p0 p1 p2 p3 p4 p5 x0 x1 x2 hP6 hlv0
    obtain ⟨hab, hNa, hNb, hN3⟩ := HAB.out
    have hg7 : Grow w5 w7 := Grow.trans HG6.out hb7
    have hA7 := HA5.out.fits hg7
    have hB7 := HB5.out.fits hg7
    have hX7 := HX6.out.fits hb7
    have h47 := H4.out.fits hg7
    have h97 := H9.out.fits hg7
    have hsa := HA5.out.lt
    have hA8 := (hA7.set 3 (.int .i64 r)).set 4 (.string (str BY))
    have hbut8 : But a w7 ((w7.setCell ⟨a, 3, none⟩ (.int .i64 r)).setCell ⟨a, 4, none⟩ (.string (str BY))) := ((But.refl a w7).setCell 3 _).setCell 4 _
    have hB8 := hB7.but hbut8 hab.symm
    have hX8 := hX7.but hbut8 (show w5.heap.size ≠ a by omega)
    have h48 := itemsC_but h47 hbut8 hA7 (by decide)
    have h98 := itemsC_but h97 hbut8 hA7 (by decide)
    have hG8 : Below w2.heap.size w2 _ := But.below (Below.trans HG5.out (hg7.mono HG5.out.size)) hbut8 hNa (Nat.le_trans HG5.out.size hg7.size)
    unfold pgCells at hA7
    obtain ⟨p0, p1, p2, p3, p4, p5, q0, q1, q2, q3, q4, q5⟩ := pgres hA7
    have HA8 := keep hA8
    have HB8 := keep hB8
    have HX8 := keep hX8
    have H48 := keep h48
    have H98 := keep h98
    have HG8 := keep hG8
    clear hA7 hB7 hX7 h47 h97 hA8 hB8 hX8 h48 h98 hG8 hbut8 hb7 hg7 hsa
    go_upto_region 13 with fail
    have hA8 := HA8.out
    have hB8 := HB8.out
    have hX8 := HX8.out
    have h48 := H48.out
    have h98 := H98.out
    have hG8 := HG8.out
    clear HA8 HB8 HX8 H48 H98 HG8 p0 p1 p2 p3 p4 p5 q0 q1 q2 q3 q4 q5 HA5 HB5 H4 H9 HG6 HX6
    generalize (w7.setCell ⟨a, 3, none⟩ (.int .i64 r)).setCell ⟨a, 4, none⟩ (.string (str BY)) = w8 at *
    have hz1 := HW1.out
    have hz2 := HW2.out
    have hA_8 := HA_.out.below hG8 (by omega)
    have hB_8 := HB_.out.below hG8 (by omega)
    have hR_8 := HR_.out.below hG8 (by omega)
    have HA13 := keep (fun (u : World) (hu : Put2 (w_.heap.size + 1) (w_.heap.size + 2) 24 [.int .i64 P.lsn, .int .i64 P.kind, .int .i64 P.level, .int .i64 r, .string (str BY), .slice la k lc] [.int .i64 P.lsn, .int .i64 P.kind, .int .i64 P.level, .int .i64 P.right, .string (str P.high), .slice ra (P.items.length - k) rc] w8.drew u) => hu.blk (Blk.drew hA8) (by omega) (by omega))
    have HB13 := keep (fun (u : World) (hu : Put2 (w_.heap.size + 1) (w_.heap.size + 2) 24 [.int .i64 P.lsn, .int .i64 P.kind, .int .i64 P.level, .int .i64 r, .string (str BY), .slice la k lc] [.int .i64 P.lsn, .int .i64 P.kind, .int .i64 P.level, .int .i64 P.right, .string (str P.high), .slice ra (P.items.length - k) rc] w8.drew u) => hu.blk (Blk.drew hB8) (by omega) (by omega))
    have HX13 := keep (fun (u : World) (hu : Put2 (w_.heap.size + 1) (w_.heap.size + 2) 24 [.int .i64 P.lsn, .int .i64 P.kind, .int .i64 P.level, .int .i64 r, .string (str BY), .slice la k lc] [.int .i64 P.lsn, .int .i64 P.kind, .int .i64 P.level, .int .i64 P.right, .string (str P.high), .slice ra (P.items.length - k) rc] w8.drew u) => hu.blk (Blk.drew hX8) (by have := HG5.out.size; omega) (by have := HG5.out.size; omega))
    have HR13 := keep (fun (u : World) (hu : Put2 (w_.heap.size + 1) (w_.heap.size + 2) 24 [.int .i64 P.lsn, .int .i64 P.kind, .int .i64 P.level, .int .i64 r, .string (str BY), .slice la k lc] [.int .i64 P.lsn, .int .i64 P.kind, .int .i64 P.level, .int .i64 P.right, .string (str P.high), .slice ra (P.items.length - k) rc] w8.drew u) => hu.blk (Blk.drew hR_8) (by omega) (by omega))
    have HS1 := keep (fun (u : World) (hu : Put2 (w_.heap.size + 1) (w_.heap.size + 2) 24 [.int .i64 P.lsn, .int .i64 P.kind, .int .i64 P.level, .int .i64 r, .string (str BY), .slice la k lc] [.int .i64 P.lsn, .int .i64 P.kind, .int .i64 P.level, .int .i64 P.right, .string (str P.high), .slice ra (P.items.length - k) rc] w8.drew u) => hu.six1 ⟨_, _, _, _, _, _, Blk.drew hA_8⟩)
    have HS2 := keep (fun (u : World) (hu : Put2 (w_.heap.size + 1) (w_.heap.size + 2) 24 [.int .i64 P.lsn, .int .i64 P.kind, .int .i64 P.level, .int .i64 r, .string (str BY), .slice la k lc] [.int .i64 P.lsn, .int .i64 P.kind, .int .i64 P.level, .int .i64 P.right, .string (str P.high), .slice ra (P.items.length - k) rc] w8.drew u) => hu.six2 ⟨_, _, _, _, _, _, Blk.drew hB_8⟩)
    have H413 := keep (fun (u : World) (hu : Put2 (w_.heap.size + 1) (w_.heap.size + 2) 24 [.int .i64 P.lsn, .int .i64 P.kind, .int .i64 P.level, .int .i64 r, .string (str BY), .slice la k lc] [.int .i64 P.lsn, .int .i64 P.kind, .int .i64 P.level, .int .i64 P.right, .string (str P.high), .slice ra (P.items.length - k) rc] w8 u) => (⟨hu.row h48.1 ⟨_, hA_8⟩ ⟨_, hB_8⟩ (by decide), h48.2⟩ : ItemsC u _ _))
    have H913 := keep (fun (u : World) (hu : Put2 (w_.heap.size + 1) (w_.heap.size + 2) 24 [.int .i64 P.lsn, .int .i64 P.kind, .int .i64 P.level, .int .i64 r, .string (str BY), .slice la k lc] [.int .i64 P.lsn, .int .i64 P.kind, .int .i64 P.level, .int .i64 P.right, .string (str P.high), .slice ra (P.items.length - k) rc] w8 u) => (⟨hu.row h98.1 ⟨_, hA_8⟩ ⟨_, hB_8⟩ (by decide), h98.2⟩ : ItemsC u _ _))
    have HGG := keep (Below.trans hg0 (Below.trans (Below.mono HG2.out (by omega)) (hG8.mono (by omega))) : Below w_.heap.size w_ w8)
    have Hz8 := keep (show w_.heap.size + 3 < w8.heap.size by have := hG8.size; omega)
    clear hA8 hB8 hX8 h48 h98 hG8 hA_8 hB_8 hR_8 HA_ HB_ HR_ hz1 hz2
    refine wp_region_ext_named (by kernel_rfl) 5 (Put2 (w_.heap.size + 1) (w_.heap.size + 2) 24 [.int .i64 P.lsn, .int .i64 P.kind, .int .i64 P.level, .int .i64 r, .string (str BY), .slice la k lc] [.int .i64 P.lsn, .int .i64 P.kind, .int .i64 P.level, .int .i64 P.right, .string (str P.high), .slice ra (P.items.length - k) rc]) (Put2.refl _) (fun _ _ _ => Put2.trans) (by kernel_rfl) [(84, 0), (85, 1), (86, 2)] (by kernel_rfl) [(0, true), (1, true), (2, true), (3, false), (4, false)] (by kernel_rfl) rfl rfl ?_
    intro a0 ha0
    have hsz : a0.tmps.size = 87 := (size_at ha0).trans rfl
    have s4 := slot_at ha0 4 rfl
    have s5 := slot_at ha0 5 rfl
    have s12 := slot_at ha0 12 rfl
    have s13 := slot_at ha0 13 rfl
    have s14 := slot_at ha0 14 rfl
    have HA0 := keep ha0
    clear ha0
    -- operation 0
    apply lexf_eq hsz [] [(85, 1), (86, 2)] none (by kernel_rfl) (by kernel_rfl) (by kernel_rfl) (by kernel_rfl) rfl
    · intro xs w hw hp K hK
      obtain ⟨p0, p1, p2, p3, p4, p5, _⟩ := pgres (HA13.out w hw)
      go_simp
      exact hK _ (Put2.refl _)
    -- operation 1
    apply lexf_eq hsz [] [(84, 0), (86, 2)] none (by kernel_rfl) (by kernel_rfl) (by kernel_rfl) (by kernel_rfl) rfl
    · intro xs w hw hp K hK
      obtain ⟨p0, p1, p2, p3, p4, p5, _⟩ := pgres (HB13.out w hw)
      go_simp
      exact hK _ (Put2.refl _)
    -- operation 2
    apply lexf_eq hsz [] [(84, 0), (85, 1)] none (by kernel_rfl) (by kernel_rfl) (by kernel_rfl) (by kernel_rfl) rfl
    · intro xs w hw hp K hK
      obtain ⟨x0, x1, x2, _⟩ := enres (HX13.out w hw)
      go_simp
      exact hK _ (Put2.refl _)
    -- operation 3
    refine lexf_none hsz (fun u => Blk u (w_.heap.size + 1) 24 [.int .i64 P.lsn, .int .i64 P.kind, .int .i64 P.level, .int .i64 r, .string (str BY), .slice la k lc]) (fun u v hu h => hu.vs1 h) [(0, true)] [(84, 0), (85, 1), (86, 2)] none (by kernel_rfl) (by kernel_rfl) (by kernel_rfl) (by kernel_rfl) rfl ?_ ?_
    · intro xs w hw hp K hK
      simp only [holdsL, List.nil_append, List.cons_append, List.getD_cons_succ, List.getD_cons_zero, if_true, and_true] at hp
      obtain ⟨a0_, a1_, a2_, a3_, a4_, a5_, hR7⟩ := HS1.out w hw
      obtain ⟨r0, r1, r2, r3, r4, r5, f0, f1, f2, f3, f4, f5⟩ := pgres hR7
      have Hset := keep (pgset hR7 (.int .i64 P.lsn) (.int .i64 P.kind) (.int .i64 P.level) (.int .i64 r) (.string (str BY)) (.slice la k lc))
      have Hbut := keep (pgbut w (w_.heap.size + 1) (.int .i64 P.lsn) (.int .i64 P.kind) (.int .i64 P.level) (.int .i64 r) (.string (str BY)) (.slice la k lc))
      clear hR7
      go_simp
      exact hK _ _ Hset.out (Put2.one1 Hbut.out (by omega) Hset.out ⟨_, _, _, _, _, _, rfl⟩)
    -- operation 4
    refine lexf_none hsz (fun u => Blk u (w_.heap.size + 2) 24 [.int .i64 P.lsn, .int .i64 P.kind, .int .i64 P.level, .int .i64 P.right, .string (str P.high), .slice ra (P.items.length - k) rc]) (fun u v hu h => hu.vs2 h) [(1, true), (3, false)] [(84, 0), (85, 1), (86, 2)] none (by kernel_rfl) (by kernel_rfl) (by kernel_rfl) (by kernel_rfl) rfl ?_ ?_
    · intro xs w hw hp K hK
      simp only [holdsL, List.nil_append, List.cons_append, List.getD_cons_succ, List.getD_cons_zero, if_true, and_true] at hp
      obtain ⟨a0_, a1_, a2_, a3_, a4_, a5_, hR7⟩ := HS2.out w hw
      obtain ⟨r0, r1, r2, r3, r4, r5, f0, f1, f2, f3, f4, f5⟩ := pgres hR7
      have Hset := keep (pgset hR7 (.int .i64 P.lsn) (.int .i64 P.kind) (.int .i64 P.level) (.int .i64 P.right) (.string (str P.high)) (.slice ra (P.items.length - k) rc))
      have Hbut := keep (pgbut w (w_.heap.size + 2) (.int .i64 P.lsn) (.int .i64 P.kind) (.int .i64 P.level) (.int .i64 P.right) (.string (str P.high)) (.slice ra (P.items.length - k) rc))
      clear hR7
      go_simp
      exact hK _ _ Hset.out (Put2.one2 Hbut.out (by omega) Hset.out ⟨_, _, _, _, _, _, rfl⟩)
    intro xs w hw hp
    have ha0 := HA0.out
    clear HA0 hsz s4 s5 s12 s13 s14
    simp only [holdsL, List.nil_append, List.cons_append, List.getD_cons_succ, List.getD_cons_zero, if_true, and_true] at hp
    have h2 := hp.2.2.1
    have h3 := hp.2.2.2.1
    have h4b := hp.2.2.2.2
    clear hp
    subst ha0
    simp only [putAll, h2]
    have hput := hw.undrew
    have hX := HX13.out w hw
    have hR := HR13.out w hw
    have h4 := H413.out w hput
    have h9 := H913.out w hput
    have hb := hput.below HGG.out (by omega) (by omega) (by have := Hz8.out; omega)
    obtain ⟨r0, r1, r2, f0, f1, f2⟩ := enres hR
    have Hset := keep (enset hR (.string (str bk)) (.int .i64 bp) (.int .i64 bs))
    have Hbut := keep (enbut w (w_.heap.size + 3) (.string (str bk)) (.int .i64 bp) (.int .i64 bs))
    have HS3 := keep (h3.but Hbut.out (by omega))
    have HS4 := keep (h4b.but Hbut.out (by omega))
    have H4f : Kept (ItemsC _ _ _) := keep (itemsC_but h4 Hbut.out hR (by decide))
    have H9f : Kept (ItemsC _ _ _) := keep (itemsC_but h9 Hbut.out hR (by decide))
    have Hb := keep (But.below hb Hbut.out (by omega) hb.size)
    clear hw h3 h4b hput hX hR h4 h9 hb
    go_wp2_with fail
    rw [HLeft2.out, HRight.out]
    refine bodyPost_ret (v := .tuple #[pgV { P with items := P.items.take k, right := r, high := BY } (.slice la k lc), pgV { P with items := P.items.drop k } (.slice ra (P.items.length - k) rc), enV (bk, bp, bs), .int .i64 0]) ?_ rfl ⟨_, _, rfl, H4f.out, H9f.out, Hb.out⟩
    obtain ⟨s0, s1, s2, _⟩ := enres Hset.out
    obtain ⟨t0, t1, t2, t3, t4, t5, _⟩ := pgres HS3.out
    obtain ⟨u0, u1, u2, u3, u4, u5, _⟩ := pgres HS4.out
    simp [results, Tryz.results23, go_sem, s0, s1, s2, t0, t1, t2, t3, t4, t5, u0, u1, u2, u3, u4, u5, pgV, enV]

end Go.Proofs.YtaninphcgeaepaaGreat

/- node.Split: of what is not split. -/
namespace Go.Proofs.YtaninphcgeaepaaGreat
open Go.RowKit
attribute [local go_sem] givesF_none givesF_some evalF_tmp evalF_const evalF_global evalF_func lookL isB_bool isB_undef givesUpon_value givesUpon_skip givesUpon_enter

set_option maxRecDepth 100000 in
set_option maxHeartbeats 4000000 in
theorem split_no (P : Pg) (iv : Value) (r : Int) (w_ : World) (hin : PgIn w_ iv P) (hsp : splitOk P r = false) :
    Calls Tryz.prog 23 #[pgV P iv, .int .i64 r] w_ (SplitPost zeroP zeroP leastE 140 w_) := by
  obtain ⟨w0, hw0⟩ : ∃ w0, w0 = ((((w_.alloc (.cells (pgCells P iv).toArray 24)).alloc (.cells #[.int .i64 0, .int .i64 0, .int .i64 0, .int .i64 0, .string ⟨#[]⟩, .slice none 0 0] 24)).alloc (.cells #[.int .i64 0, .int .i64 0, .int .i64 0, .int .i64 0, .string ⟨#[]⟩, .slice none 0 0] 24)).alloc (.cells #[.string ⟨#[]⟩, .int .i64 0, .int .i64 0] 41)) := ⟨_, rfl⟩
  have hg0 : Grow w_ w0 := by subst hw0; exact ((((Grow.refl w_).alloc _).alloc _).alloc _).alloc _
  have hP0 : Blk w0 w_.heap.size 24 (pgCells P iv) := by
    have := (((Blk.new w_ 24 (pgCells P iv)).alloc (.cells #[.int .i64 0, .int .i64 0, .int .i64 0, .int .i64 0, .string ⟨#[]⟩, .slice none 0 0] 24)).alloc (.cells #[.int .i64 0, .int .i64 0, .int .i64 0, .int .i64 0, .string ⟨#[]⟩, .slice none 0 0] 24)).alloc (.cells #[.string ⟨#[]⟩, .int .i64 0, .int .i64 0] 41)
    subst hw0; exact this
  have hA0 : Blk w0 (w_.heap.size + 1) 24 [.int .i64 0, .int .i64 0, .int .i64 0, .int .i64 0, .string ⟨#[]⟩, .slice none 0 0] := by
    have := ((Blk.new (w_.alloc (.cells (pgCells P iv).toArray 24)) 24 [.int .i64 0, .int .i64 0, .int .i64 0, .int .i64 0, .string ⟨#[]⟩, .slice none 0 0]).alloc (.cells #[.int .i64 0, .int .i64 0, .int .i64 0, .int .i64 0, .string ⟨#[]⟩, .slice none 0 0] 24)).alloc (.cells #[.string ⟨#[]⟩, .int .i64 0, .int .i64 0] 41)
    have e : (w_.alloc (.cells (pgCells P iv).toArray 24)).heap.size = w_.heap.size + 1 := by simp
    rw [e] at this
    subst hw0; exact this
  have hB0 : Blk w0 (w_.heap.size + 2) 24 [.int .i64 0, .int .i64 0, .int .i64 0, .int .i64 0, .string ⟨#[]⟩, .slice none 0 0] := by
    have := (Blk.new ((w_.alloc (.cells (pgCells P iv).toArray 24)).alloc (.cells #[.int .i64 0, .int .i64 0, .int .i64 0, .int .i64 0, .string ⟨#[]⟩, .slice none 0 0] 24)) 24 [.int .i64 0, .int .i64 0, .int .i64 0, .int .i64 0, .string ⟨#[]⟩, .slice none 0 0]).alloc (.cells #[.string ⟨#[]⟩, .int .i64 0, .int .i64 0] 41)
    have e : ((w_.alloc (.cells (pgCells P iv).toArray 24)).alloc (.cells #[.int .i64 0, .int .i64 0, .int .i64 0, .int .i64 0, .string ⟨#[]⟩, .slice none 0 0] 24)).heap.size = w_.heap.size + 2 := by simp
    rw [e] at this
    subst hw0; exact this
  have hR0 : Blk w0 (w_.heap.size + 3) 41 [.string ⟨#[]⟩, .int .i64 0, .int .i64 0] := by
    have := Blk.new (((w_.alloc (.cells (pgCells P iv).toArray 24)).alloc (.cells #[.int .i64 0, .int .i64 0, .int .i64 0, .int .i64 0, .string ⟨#[]⟩, .slice none 0 0] 24)).alloc (.cells #[.int .i64 0, .int .i64 0, .int .i64 0, .int .i64 0, .string ⟨#[]⟩, .slice none 0 0] 24)) 41 [.string ⟨#[]⟩, .int .i64 0, .int .i64 0]
    have e : (((w_.alloc (.cells (pgCells P iv).toArray 24)).alloc (.cells #[.int .i64 0, .int .i64 0, .int .i64 0, .int .i64 0, .string ⟨#[]⟩, .slice none 0 0] 24)).alloc (.cells #[.int .i64 0, .int .i64 0, .int .i64 0, .int .i64 0, .string ⟨#[]⟩, .slice none 0 0] 24)).heap.size = w_.heap.size + 3 := by simp
    rw [e] at this
    subst hw0; exact this
  have hzR := hR0.lt
  have hop := opened_pg (hin.fits hg0)
  obtain ⟨ia, ic, rfl⟩ := items_form hin.1
  have hic := fun u => isChild_any r u
  have hd : (openOk P && (decide (2 ≤ P.items.length) && inB r 1 65535)) = false := hsp
  generalize inB r 1 65535 = IB at *
  have HIc := keep hic
  have HOp := keep hop
  have HD := keep hd
  have HIn := keep hin
  have HP0 := keep hP0
  have HA0 := keep hA0
  have HB0 := keep hB0
  have HR0 := keep hR0
  clear hop hin hA0 hB0 hR0 hsp hd hic
  unfold pgCells at hw0 hP0
  obtain ⟨p0, p1, p2, p3, p4, p5, _⟩ := pgres hP0
  unfold pgV
  go_enter Tryz.func23, Tryz.ntmps23
  go_upto_region 1 with fail
  rw [← hw0]
  clear hw0
  go_wp2_with fail
  refine HOp.out.mono ?_
  rintro x w1 ⟨a1, n1, c1, a2, n2, c2, hi, bd, ok, rfl, hok, hyes, hb1⟩
  have hd := HD.out
  rw [← hok] at hd
  have HD2 := keep hd
  clear p0 p1 p2 p3 p4 p5 hP0 hyes hok hd HD
  obtain ⟨w2, hw2⟩ : ∃ w2, w2 = w1.alloc (.cells #[.slice a1 n1 c1, .slice a2 n2 c2, .string (str hi.1), .int .i64 hi.2.1, .int .i64 hi.2.2, .bool bd] 97) := ⟨_, rfl⟩
  have hg2 : Grow w0 w2 := by subst hw2; exact Grow.alloc hb1 _
  have HG2 := keep hg2
  have HGW := keep (Grow.trans hg0 hg2)
  clear hb1 hg2
  go_upto_region 2 with fail
  rw [← hw2]
  clear hw2
  have hP2 := HP0.out.fits HG2.out
  unfold pgCells at hP2
  obtain ⟨p0, p1, p2, p3, p4, p5, _⟩ := pgres hP2
  clear hP2
  cases ok with
  | false =>
    have hA2 := HA0.out.fits HG2.out
    have hB2 := HB0.out.fits HG2.out
    have hR2 := HR0.out.fits HG2.out
    have HsA := keep (pgset hA2 (.int .i64 0) (.int .i64 0) (.int .i64 0) (.int .i64 0) (.string ⟨#[]⟩) (.slice none 0 0))
    have HbA := keep (pgbut w2 (w_.heap.size + 1) (.int .i64 0) (.int .i64 0) (.int .i64 0) (.int .i64 0) (.string ⟨#[]⟩) (.slice none 0 0))
    have hBA := hB2.but HbA.out (by omega)
    have hRA := hR2.but HbA.out (by omega)
    have HsB := keep (pgset hBA (.int .i64 0) (.int .i64 0) (.int .i64 0) (.int .i64 0) (.string ⟨#[]⟩) (.slice none 0 0))
    have HbB := keep (pgbut ((((((w2.setCell ⟨w_.heap.size + 1, 0, none⟩ (.int .i64 0)).setCell ⟨w_.heap.size + 1, 1, none⟩ (.int .i64 0)).setCell ⟨w_.heap.size + 1, 2, none⟩ (.int .i64 0)).setCell ⟨w_.heap.size + 1, 3, none⟩ (.int .i64 0)).setCell ⟨w_.heap.size + 1, 4, none⟩ (.string ⟨#[]⟩)).setCell ⟨w_.heap.size + 1, 5, none⟩ (.slice none 0 0)) (w_.heap.size + 2) (.int .i64 0) (.int .i64 0) (.int .i64 0) (.int .i64 0) (.string ⟨#[]⟩) (.slice none 0 0))
    have hRB := hRA.but HbB.out (by omega)
    have HsR := keep (enset hRB (.string ⟨#[]⟩) (.int .i64 0) (.int .i64 0))
    have HbR := keep (enbut ((((((((((((w2.setCell ⟨w_.heap.size + 1, 0, none⟩ (.int .i64 0)).setCell ⟨w_.heap.size + 1, 1, none⟩ (.int .i64 0)).setCell ⟨w_.heap.size + 1, 2, none⟩ (.int .i64 0)).setCell ⟨w_.heap.size + 1, 3, none⟩ (.int .i64 0)).setCell ⟨w_.heap.size + 1, 4, none⟩ (.string ⟨#[]⟩)).setCell ⟨w_.heap.size + 1, 5, none⟩ (.slice none 0 0)).setCell ⟨w_.heap.size + 2, 0, none⟩ (.int .i64 0)).setCell ⟨w_.heap.size + 2, 1, none⟩ (.int .i64 0)).setCell ⟨w_.heap.size + 2, 2, none⟩ (.int .i64 0)).setCell ⟨w_.heap.size + 2, 3, none⟩ (.int .i64 0)).setCell ⟨w_.heap.size + 2, 4, none⟩ (.string ⟨#[]⟩)).setCell ⟨w_.heap.size + 2, 5, none⟩ (.slice none 0 0)) (w_.heap.size + 3) (.string ⟨#[]⟩) (.int .i64 0) (.int .i64 0))
    have HfA := keep ((HsA.out.but HbB.out (by omega)).but HbR.out (by omega))
    have HfB := keep (HsB.out.but HbR.out (by omega))
    have hlt2 := hR2.lt
    obtain ⟨r0, r1, r2, r3, r4, r5, f0, f1, f2, f3, f4, f5⟩ := pgres hA2
    obtain ⟨s0, s1, s2, s3, s4, s5, g0, g1, g2, g3, g4, g5⟩ := pgres hB2
    obtain ⟨t0, t1, t2, h0, h1, h2⟩ := enres hR2
    clear hA2 hB2 hR2 hBA hRA hRB
    go_wp2_with fail
    have hb1 := But.below HGW.out HbA.out (by omega) (by omega)
    have hb2 := But.below hb1 HbB.out (by omega) hb1.size
    have hb3 := But.below hb2 HbR.out (by omega) hb2.size
    refine bodyPost_ret (v := .tuple #[pgV zeroP (.slice none 0 0), pgV zeroP (.slice none 0 0), enV leastE, .int .i64 140]) ?_ rfl ⟨_, _, rfl, ItemsC.nil _, ItemsC.nil _, hb3⟩
    obtain ⟨x0, x1, x2, _⟩ := enres HsR.out
    obtain ⟨y0, y1, y2, y3, y4, y5, _⟩ := pgres HfA.out
    obtain ⟨z0, z1, z2, z3, z4, z5, _⟩ := pgres HfB.out
    simp [results, Tryz.results23, go_sem, x0, x1, x2, y0, y1, y2, y3, y4, y5, z0, z1, z2, z3, z4, z5, pgV, enV, zeroP, leastE]
    rfl
  | true =>
    by_cases hlen : (P.items.length : Int) < 2
    · have hA2 := HA0.out.fits HG2.out
      have hB2 := HB0.out.fits HG2.out
      have hR2 := HR0.out.fits HG2.out
      have HsA := keep (pgset hA2 (.int .i64 0) (.int .i64 0) (.int .i64 0) (.int .i64 0) (.string ⟨#[]⟩) (.slice none 0 0))
      have HbA := keep (pgbut w2 (w_.heap.size + 1) (.int .i64 0) (.int .i64 0) (.int .i64 0) (.int .i64 0) (.string ⟨#[]⟩) (.slice none 0 0))
      have hBA := hB2.but HbA.out (by omega)
      have hRA := hR2.but HbA.out (by omega)
      have HsB := keep (pgset hBA (.int .i64 0) (.int .i64 0) (.int .i64 0) (.int .i64 0) (.string ⟨#[]⟩) (.slice none 0 0))
      have HbB := keep (pgbut ((((((w2.setCell ⟨w_.heap.size + 1, 0, none⟩ (.int .i64 0)).setCell ⟨w_.heap.size + 1, 1, none⟩ (.int .i64 0)).setCell ⟨w_.heap.size + 1, 2, none⟩ (.int .i64 0)).setCell ⟨w_.heap.size + 1, 3, none⟩ (.int .i64 0)).setCell ⟨w_.heap.size + 1, 4, none⟩ (.string ⟨#[]⟩)).setCell ⟨w_.heap.size + 1, 5, none⟩ (.slice none 0 0)) (w_.heap.size + 2) (.int .i64 0) (.int .i64 0) (.int .i64 0) (.int .i64 0) (.string ⟨#[]⟩) (.slice none 0 0))
      have hRB := hRA.but HbB.out (by omega)
      have HsR := keep (enset hRB (.string ⟨#[]⟩) (.int .i64 0) (.int .i64 0))
      have HbR := keep (enbut ((((((((((((w2.setCell ⟨w_.heap.size + 1, 0, none⟩ (.int .i64 0)).setCell ⟨w_.heap.size + 1, 1, none⟩ (.int .i64 0)).setCell ⟨w_.heap.size + 1, 2, none⟩ (.int .i64 0)).setCell ⟨w_.heap.size + 1, 3, none⟩ (.int .i64 0)).setCell ⟨w_.heap.size + 1, 4, none⟩ (.string ⟨#[]⟩)).setCell ⟨w_.heap.size + 1, 5, none⟩ (.slice none 0 0)).setCell ⟨w_.heap.size + 2, 0, none⟩ (.int .i64 0)).setCell ⟨w_.heap.size + 2, 1, none⟩ (.int .i64 0)).setCell ⟨w_.heap.size + 2, 2, none⟩ (.int .i64 0)).setCell ⟨w_.heap.size + 2, 3, none⟩ (.int .i64 0)).setCell ⟨w_.heap.size + 2, 4, none⟩ (.string ⟨#[]⟩)).setCell ⟨w_.heap.size + 2, 5, none⟩ (.slice none 0 0)) (w_.heap.size + 3) (.string ⟨#[]⟩) (.int .i64 0) (.int .i64 0))
      have HfA := keep ((HsA.out.but HbB.out (by omega)).but HbR.out (by omega))
      have HfB := keep (HsB.out.but HbR.out (by omega))
      have hlt2 := hR2.lt
      obtain ⟨r0, r1, r2, r3, r4, r5, f0, f1, f2, f3, f4, f5⟩ := pgres hA2
      obtain ⟨s0, s1, s2, s3, s4, s5, g0, g1, g2, g3, g4, g5⟩ := pgres hB2
      obtain ⟨t0, t1, t2, h0, h1, h2⟩ := enres hR2
      clear hA2 hB2 hR2 hBA hRA hRB
      go_wp2_with fail
      have hb1 := But.below HGW.out HbA.out (by omega) (by omega)
      have hb2 := But.below hb1 HbB.out (by omega) hb1.size
      have hb3 := But.below hb2 HbR.out (by omega) hb2.size
      refine bodyPost_ret (v := .tuple #[pgV zeroP (.slice none 0 0), pgV zeroP (.slice none 0 0), enV leastE, .int .i64 140]) ?_ rfl ⟨_, _, rfl, ItemsC.nil _, ItemsC.nil _, hb3⟩
      obtain ⟨x0, x1, x2, _⟩ := enres HsR.out
      obtain ⟨y0, y1, y2, y3, y4, y5, _⟩ := pgres HfA.out
      obtain ⟨z0, z1, z2, z3, z4, z5, _⟩ := pgres HfB.out
      simp [results, Tryz.results23, go_sem, x0, x1, x2, y0, y1, y2, y3, y4, y5, z0, z1, z2, z3, z4, z5, pgV, enV, zeroP, leastE]
      rfl
    · have hib : IB = false := by
        have := HD2.out
        rw [Bool.true_and, decide_eq_true (show 2 ≤ P.items.length by omega), Bool.true_and] at this
        exact this
      subst hib
      have hA2 := HA0.out.fits HG2.out
      have hB2 := HB0.out.fits HG2.out
      have hR2 := HR0.out.fits HG2.out
      have HsA := keep (pgset hA2 (.int .i64 0) (.int .i64 0) (.int .i64 0) (.int .i64 0) (.string ⟨#[]⟩) (.slice none 0 0))
      have HbA := keep (pgbut w2 (w_.heap.size + 1) (.int .i64 0) (.int .i64 0) (.int .i64 0) (.int .i64 0) (.string ⟨#[]⟩) (.slice none 0 0))
      have hBA := hB2.but HbA.out (by omega)
      have hRA := hR2.but HbA.out (by omega)
      have HsB := keep (pgset hBA (.int .i64 0) (.int .i64 0) (.int .i64 0) (.int .i64 0) (.string ⟨#[]⟩) (.slice none 0 0))
      have HbB := keep (pgbut ((((((w2.setCell ⟨w_.heap.size + 1, 0, none⟩ (.int .i64 0)).setCell ⟨w_.heap.size + 1, 1, none⟩ (.int .i64 0)).setCell ⟨w_.heap.size + 1, 2, none⟩ (.int .i64 0)).setCell ⟨w_.heap.size + 1, 3, none⟩ (.int .i64 0)).setCell ⟨w_.heap.size + 1, 4, none⟩ (.string ⟨#[]⟩)).setCell ⟨w_.heap.size + 1, 5, none⟩ (.slice none 0 0)) (w_.heap.size + 2) (.int .i64 0) (.int .i64 0) (.int .i64 0) (.int .i64 0) (.string ⟨#[]⟩) (.slice none 0 0))
      have hRB := hRA.but HbB.out (by omega)
      have HsR := keep (enset hRB (.string ⟨#[]⟩) (.int .i64 0) (.int .i64 0))
      have HbR := keep (enbut ((((((((((((w2.setCell ⟨w_.heap.size + 1, 0, none⟩ (.int .i64 0)).setCell ⟨w_.heap.size + 1, 1, none⟩ (.int .i64 0)).setCell ⟨w_.heap.size + 1, 2, none⟩ (.int .i64 0)).setCell ⟨w_.heap.size + 1, 3, none⟩ (.int .i64 0)).setCell ⟨w_.heap.size + 1, 4, none⟩ (.string ⟨#[]⟩)).setCell ⟨w_.heap.size + 1, 5, none⟩ (.slice none 0 0)).setCell ⟨w_.heap.size + 2, 0, none⟩ (.int .i64 0)).setCell ⟨w_.heap.size + 2, 1, none⟩ (.int .i64 0)).setCell ⟨w_.heap.size + 2, 2, none⟩ (.int .i64 0)).setCell ⟨w_.heap.size + 2, 3, none⟩ (.int .i64 0)).setCell ⟨w_.heap.size + 2, 4, none⟩ (.string ⟨#[]⟩)).setCell ⟨w_.heap.size + 2, 5, none⟩ (.slice none 0 0)) (w_.heap.size + 3) (.string ⟨#[]⟩) (.int .i64 0) (.int .i64 0))
      have HfA := keep ((HsA.out.but HbB.out (by omega)).but HbR.out (by omega))
      have HfB := keep (HsB.out.but HbR.out (by omega))
      have hlt2 := hR2.lt
      obtain ⟨r0, r1, r2, r3, r4, r5, f0, f1, f2, f3, f4, f5⟩ := pgres hA2
      obtain ⟨s0, s1, s2, s3, s4, s5, g0, g1, g2, g3, g4, g5⟩ := pgres hB2
      obtain ⟨t0, t1, t2, h0, h1, h2⟩ := enres hR2
      clear hA2 hB2 hR2 hBA hRA hRB
      go_wp2_with fail
      refine (HIc.out w2).mono ?_
      rintro x w3 ⟨rfl, rfl⟩
      go_wp2_with fail
      have hb1 := But.below HGW.out HbA.out (by omega) (by omega)
      have hb2 := But.below hb1 HbB.out (by omega) hb1.size
      have hb3 := But.below hb2 HbR.out (by omega) hb2.size
      refine bodyPost_ret (v := .tuple #[pgV zeroP (.slice none 0 0), pgV zeroP (.slice none 0 0), enV leastE, .int .i64 140]) ?_ rfl ⟨_, _, rfl, ItemsC.nil _, ItemsC.nil _, hb3⟩
      obtain ⟨x0, x1, x2, _⟩ := enres HsR.out
      obtain ⟨y0, y1, y2, y3, y4, y5, _⟩ := pgres HfA.out
      obtain ⟨z0, z1, z2, z3, z4, z5, _⟩ := pgres HfB.out
      simp [results, Tryz.results23, go_sem, x0, x1, x2, y0, y1, y2, y3, y4, y5, z0, z1, z2, z3, z4, z5, pgV, enV, zeroP, leastE]
      rfl


end Go.Proofs.YtaninphcgeaepaaGreat
