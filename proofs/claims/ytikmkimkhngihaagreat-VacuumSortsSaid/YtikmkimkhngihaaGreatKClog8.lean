
import Derived.Test.YtikmkimkhngihaaGreatKClog6
/- clog.Blank, Set. -/
namespace Go.Proofs.YtikmkimkhngihaaGreat
open Go.RowKit

def noPg : Pg := { lsn := 0, kind := 0, level := 0, right := 0, high := [], items := [] }
def pg0 : List Value := [.int .i64 0, .int .i64 0, .int .i64 0, .int .i64 0, .string ⟨#[]⟩, .slice none 0 0]

/-- A page and what is wrong, as they are handed back. -/
def PgPost (P : Pg) (c : Int) (w : World) (e : Ending) (w' : World) : Prop := ∃ iv, e = .returned (.tuple #[pgV P iv, .int .i64 c]) ∧ ItemsS w' iv P.items ∧ Below w.heap.size w w'

def blankS (m fr : Int) : Pg × Int := if idsB m [fr] then (madeP fr.toNat (List.replicate ((m + 3) / 4).toNat 0) 0, 0) else (noPg, 1)

set_option maxRecDepth 100000 in
set_option maxHeartbeats 1000000 in
theorem blank_bad (m fr : Int) (w : World) (h : idsB m [fr] = false) : Calls Tryz.prog 15 #[.int .i64 m, .int .i64 fr] w (PgPost noPg 1 w) := by
  cases hm : modB m with
  | false =>
    go_enter Tryz.func15, Tryz.ntmps15
    go_wp2_with fail
    generalize hw0 : w.alloc (.cells #[.int .i64 0, .int .i64 0, .int .i64 0, .int .i64 0, .string ⟨#[]⟩, .slice none 0 0] 30) = w0
    have hB0 : Blk w0 w.heap.size 30 pg0 := by subst hw0; exact Blk.new w _ _
    have hg0 : Grow w w0 := by subst hw0; exact (Grow.refl w).alloc _
    clear hw0
    refine (isModulus_any _ _).mono ?_
    rintro e w1 ⟨rfl, hb1⟩
    have hB1 := hB0.fits hb1
    obtain ⟨c0, c1, c2, c3, c4, c5, f0, f1, f2, f3, f4, f5⟩ := pgres hB1
    have hset := pgset hB1 (.int .i64 0) (.int .i64 0) (.int .i64 0) (.int .i64 0) (.string ⟨#[]⟩) (.slice none 0 0)
    have hbut := pgbut w1 w.heap.size (.int .i64 0) (.int .i64 0) (.int .i64 0) (.int .i64 0) (.string ⟨#[]⟩) (.slice none 0 0)
    have Hset := keep hset
    have Hbut := keep hbut
    clear hset hbut
    go_wp2_with fail
    refine bodyPost_ret (v := .tuple #[pgV noPg (.slice none 0 0), .int .i64 1]) ?_ rfl ⟨_, rfl, RowS.nil _ _ _ _, But.below (Grow.trans hg0 hb1) Hbut.out (Nat.le_refl _) (Grow.trans hg0 hb1).size⟩
    obtain ⟨r0, r1, r2, r3, r4, r5, _⟩ := pgres Hset.out
    simp [results, Tryz.results15, go_sem, r0, r1, r2, r3, r4, r5, pgV, noPg]
    rfl
  | true =>
    go_enter Tryz.func15, Tryz.ntmps15
    go_wp2_with fail
    generalize hw0 : w.alloc (.cells #[.int .i64 0, .int .i64 0, .int .i64 0, .int .i64 0, .string ⟨#[]⟩, .slice none 0 0] 30) = w0
    have hB0 : Blk w0 w.heap.size 30 pg0 := by subst hw0; exact Blk.new w _ _
    have hg0 : Grow w w0 := by subst hw0; exact (Grow.refl w).alloc _
    clear hw0
    refine (isModulus_any _ _).mono ?_
    rintro e w1 ⟨rfl, hb1⟩
    go_wp2_with fail
    refine (isID_any _ _ _).mono ?_
    rintro e w2 ⟨rfl, hb2⟩
    have hB1 := (hB0.fits hb1).fits hb2
    obtain ⟨c0, c1, c2, c3, c4, c5, f0, f1, f2, f3, f4, f5⟩ := pgres hB1
    have hset := pgset hB1 (.int .i64 0) (.int .i64 0) (.int .i64 0) (.int .i64 0) (.string ⟨#[]⟩) (.slice none 0 0)
    have hbut := pgbut w2 w.heap.size (.int .i64 0) (.int .i64 0) (.int .i64 0) (.int .i64 0) (.string ⟨#[]⟩) (.slice none 0 0)
    have Hset := keep hset
    have Hbut := keep hbut
    have hg2 := Grow.trans (Grow.trans hg0 hb1) hb2
    clear hset hbut
    go_wp2_with fail
    refine bodyPost_ret (v := .tuple #[pgV noPg (.slice none 0 0), .int .i64 1]) ?_ rfl ⟨_, rfl, RowS.nil _ _ _ _, But.below hg2 Hbut.out (Nat.le_refl _) (Below.size hg2)⟩
    obtain ⟨r0, r1, r2, r3, r4, r5, _⟩ := pgres Hset.out
    simp [results, Tryz.results15, go_sem, r0, r1, r2, r3, r4, r5, pgV, noPg]
    rfl

set_option maxRecDepth 100000 in
set_option maxHeartbeats 1000000 in
theorem blank_ok (m fr : Int) (w : World) (h : idsB m [fr] = true) : Calls Tryz.prog 15 #[.int .i64 m, .int .i64 fr] w (PgPost (madeP fr.toNat (List.replicate ((m + 3) / 4).toNat 0) 0) 0 w) := by
  obtain ⟨hm, hf1, hf2⟩ := idsB_one h
  obtain ⟨hm1, hm2, _⟩ := modB_bd hm
  obtain ⟨i0, hi, hz0, hz1, hz2⟩ := info_parts infoU8
  obtain ⟨fn, rfl⟩ := Int.eq_ofNat_of_zero_le (show 0 ≤ fr by omega)
  obtain ⟨sz, hsz⟩ : ∃ sz : Nat, (m + 3) / 4 = (sz : Int) := ⟨((m + 3) / 4).toNat, by omega⟩
  have hszl : sz ≤ 256 := by omega
  have HSZ := keep hsz
  go_enter Tryz.func15, Tryz.ntmps15
  go_wp2_with fail
  generalize hw0 : w.alloc (.cells #[.int .i64 0, .int .i64 0, .int .i64 0, .int .i64 0, .string ⟨#[]⟩, .slice none 0 0] 30) = w0
  have hB0 : Blk w0 w.heap.size 30 pg0 := by subst hw0; exact Blk.new w _ _
  have hg0 : Grow w w0 := by subst hw0; exact (Grow.refl w).alloc _
  clear hw0
  refine (isModulus_any _ _).mono ?_
  rintro e w1 ⟨rfl, hb1⟩
  go_wp2_with fail
  refine (isID_any _ _ _).mono ?_
  rintro e w2 ⟨rfl, hb2⟩
  have hB2 := (hB0.fits hb1).fits hb2
  have hg2 := Grow.trans (Grow.trans hg0 hb1) hb2
  clear hB0 hg0 hb1 hb2
  go_wp2_with fail
  refine (size_any m w2 (by omega) hm2).mono ?_
  rintro e w3 ⟨rfl, rfl⟩
  go_wp2_with ((at_make; go_must (refine wpList_make_full _ rfl _ _ 84 rfl w2.heap.size 5 i0 (.int .u8 0) 1 Tryz.underlying84 hi hz0 hz1 .i64 .i64 _ _ sz rfl rfl (by omega) (by omega) (by rw [hz2]; omega) (by unfold maxLen; omega) (Nat.le_refl _) ?_); intro w4 hown hgrow))
  have hz : (madeCells (Value.int IntKind.u8 0).cells (sz * 1)).toList = bcells (List.replicate sz 0) := by
    rw [Nat.mul_one, bcells, List.map_replicate]; exact toList_madeCells_one _ _
  rw [hz] at hown
  have hg4 : Grow w2 w4 := (Below.refl _ _).grown hgrow (Nat.le_refl _) (by simp)
  have hB4 := hB2.fits hg4
  have hcv : ∀ u, Grow w4 u → (convert 84 9 (.slice (some ⟨w2.heap.size, 0, none⟩) sz sz)).run Tryz.prog u = .ok (.string (str (List.replicate sz 0))) u := by
    intro u hu
    refine own_convert (base := w2.heap.size) (n := sz) ⟨hown.1, ?_⟩ (by simp)
    rcases hown.2 with h | ⟨g, cap, cur, a1, a2, a3, a4⟩
    · exact .inl h
    · exact .inr ⟨g, cap, cur, a1, a2, by rw [hu.block g (lt_of_block a3)]; exact a3, a4⟩
  refine (made_any fn _ (List.replicate sz 0) 0 w4 (by omega) hcv).mono ?_
  rintro e w5 ⟨iv, rfl, hit, hb5⟩
  have hB5 := hB4.fits hb5
  have hg5 := Grow.trans (Grow.trans hg2 hg4) hb5
  obtain ⟨c0, c1, c2, c3, c4, c5, f0, f1, f2, f3, f4, f5⟩ := pgres hB5
  have hset := pgset hB5 (.int .i64 0) (.int .i64 1) (.int .i64 0) (.int .i64 0) (.string (str [])) iv
  have hbut := pgbut w5 w.heap.size (.int .i64 0) (.int .i64 1) (.int .i64 0) (.int .i64 0) (.string (str [])) iv
  have Hset := keep hset
  have Hbut := keep hbut
  have Hit := keep hit
  have e1 : ((m + 3) / 4).toNat = sz := by have := HSZ.out; omega
  have E1 := keep e1
  obtain ⟨iva, ivc, hivf⟩ : ∃ a c, iv = .slice a 2 c := items_form hit.weak
  subst hivf
  clear hset hbut hcv hown hgrow hz hit e1 hsz hB2 hB4
  unfold pgV madeP
  go_wp2_with fail
  refine bodyPost_ret (v := .tuple #[pgV (madeP fn (List.replicate sz 0) 0) (.slice iva 2 ivc), .int .i64 0]) ?_ rfl ?_
  · obtain ⟨r0, r1, r2, r3, r4, r5, _⟩ := pgres Hset.out
    simp [results, Tryz.results15, go_sem, r0, r1, r2, r3, r4, r5, pgV, madeP]
  · rw [Int.toNat_natCast, E1.out]
    exact ⟨_, rfl, items_but Hit.out Hbut.out hB5 (by decide), But.below hg5 Hbut.out (Nat.le_refl _) (Below.size hg5)⟩

theorem blank_any (m fr : Int) (w : World) : Calls Tryz.prog 15 #[.int .i64 m, .int .i64 fr] w (PgPost (blankS m fr).1 (blankS m fr).2 w) := by
  unfold blankS
  cases h : idsB m [fr] with
  | false => exact blank_bad m fr w h
  | true => exact blank_ok m fr w h

end Go.Proofs.YtikmkimkhngihaaGreat

/- clog.Set. -/
namespace Go.Proofs.YtikmkimkhngihaaGreat
open Go.RowKit

def setS (m : Int) (p : Pg) (x : Int) (s : Nat) : Pg × Int :=
  if openE m p = 0 then if idsB m [x] && decide (s ≤ 3) then (madeP (openNum m p).1.toNat (putS (p.items.getD 1 []) x s) p.lsn, 0) else (noPg, 1) else (noPg, openE m p)

set_option maxRecDepth 100000 in
set_option maxHeartbeats 1000000 in
theorem set_bad (m : Int) (p : Pg) (iv : Value) (x : Int) (s : Nat) (w : World) (hi : Items w iv p.items) (hs : ∀ x ∈ p.items, (x.length : Int) ≤ 9223372036854775807) (h0 : openE m p ≠ 0) :
    Calls Tryz.prog 16 #[.int .i64 m, pgV p iv, .int .i64 x, .int .u8 s] w (PgPost noPg (openE m p) w) := by
  obtain ⟨w0, hw0⟩ : ∃ w0, w0 = (w.alloc (.cells (pgCells p iv).toArray 30)).alloc (.cells #[.int .i64 0, .int .i64 0, .int .i64 0, .int .i64 0, .string ⟨#[]⟩, .slice none 0 0] 30) := ⟨_, rfl⟩
  have hg0 : Grow w w0 := by subst hw0; exact ((Grow.refl w).alloc _).alloc _
  have hBb : Blk w0 w.heap.size 30 (pgCells p iv) := by subst hw0; exact (Blk.new w _ _).alloc _
  have hB0 : Blk w0 (w.heap.size + 1) 30 pg0 := by
    have := Blk.new (w.alloc (.cells (pgCells p iv).toArray 30)) 30 pg0
    have e : (w.alloc (.cells (pgCells p iv).toArray 30)).heap.size = w.heap.size + 1 := by simp
    rw [e] at this
    subst hw0; exact this
  have ho := open_any m p iv w0 (hi.fits hg0) hs
  unfold pgV OpenPost at ho
  rw [if_neg h0] at ho
  unfold pgCells at hw0 hBb
  have h0' : (openE m p != 0) = true := by simpa using h0
  generalize openE m p = E at *
  have Ho := keep ho
  clear ho h0 hi hs
  unfold pgV
  go_enter Tryz.func16, Tryz.ntmps16
  obtain ⟨c0, c1, c2, c3, c4, c5, f0, f1, f2, f3, f4, f5⟩ := pgres hBb
  go_wp2_with fail
  rw [← hw0]
  refine Ho.out.mono ?_
  rintro e w1 ⟨bv, rfl, hb, _, a, n, c, rfl⟩
  have hg1 := Grow.trans hg0 hb
  have hB1 := hB0.fits hb
  clear hw0 hg0 hBb hB0 c0 c1 c2 c3 c4 c5 f0 f1 f2 f3 f4 f5 hb Ho
  obtain ⟨c0, c1, c2, c3, c4, c5, f0, f1, f2, f3, f4, f5⟩ := pgres hB1
  have hset := pgset hB1 (.int .i64 0) (.int .i64 0) (.int .i64 0) (.int .i64 0) (.string ⟨#[]⟩) (.slice none 0 0)
  have hbut := pgbut w1 (w.heap.size + 1) (.int .i64 0) (.int .i64 0) (.int .i64 0) (.int .i64 0) (.string ⟨#[]⟩) (.slice none 0 0)
  have Hset := keep hset
  have Hbut := keep hbut
  clear hset hbut
  go_wp2_with fail
  refine bodyPost_ret (v := .tuple #[pgV noPg (.slice none 0 0), .int .i64 E]) ?_ rfl ⟨_, rfl, RowS.nil _ _ _ _, But.below hg1 Hbut.out (by omega) (Below.size hg1)⟩
  obtain ⟨r0, r1, r2, r3, r4, r5, _⟩ := pgres Hset.out
  simp [results, Tryz.results16, go_sem, r0, r1, r2, r3, r4, r5, pgV, noPg]
  rfl

set_option maxRecDepth 100000 in
set_option maxHeartbeats 1000000 in
theorem set_arg (m : Int) (p : Pg) (iv : Value) (x : Int) (s : Nat) (w : World) (hi : Items w iv p.items) (hs : ∀ x ∈ p.items, (x.length : Int) ≤ 9223372036854775807) (h0 : openE m p = 0) (h1 : (idsB m [x] && decide (s ≤ 3)) = false) (hs8 : s < 256) :
    Calls Tryz.prog 16 #[.int .i64 m, pgV p iv, .int .i64 x, .int .u8 s] w (PgPost noPg 1 w) := by
  obtain ⟨w0, hw0⟩ : ∃ w0, w0 = (w.alloc (.cells (pgCells p iv).toArray 30)).alloc (.cells #[.int .i64 0, .int .i64 0, .int .i64 0, .int .i64 0, .string ⟨#[]⟩, .slice none 0 0] 30) := ⟨_, rfl⟩
  have hg0 : Grow w w0 := by subst hw0; exact ((Grow.refl w).alloc _).alloc _
  have hBb : Blk w0 w.heap.size 30 (pgCells p iv) := by subst hw0; exact (Blk.new w _ _).alloc _
  have hB0 : Blk w0 (w.heap.size + 1) 30 pg0 := by
    have := Blk.new (w.alloc (.cells (pgCells p iv).toArray 30)) 30 pg0
    have e : (w.alloc (.cells (pgCells p iv).toArray 30)).heap.size = w.heap.size + 1 := by simp
    rw [e] at this
    subst hw0; exact this
  have ho := open_any m p iv w0 (hi.fits hg0) hs
  unfold pgV OpenPost at ho
  rw [if_pos h0] at ho
  unfold pgCells at hw0 hBb
  rw [h0] at ho
  generalize (openNum m p).1 = F at *
  generalize p.items.getD 1 [] = l at *
  have Ho := keep ho
  clear ho h0 hi hs
  unfold pgV
  go_enter Tryz.func16, Tryz.ntmps16
  obtain ⟨c0, c1, c2, c3, c4, c5, f0, f1, f2, f3, f4, f5⟩ := pgres hBb
  go_wp2_with fail
  rw [← hw0]
  refine Ho.out.mono ?_
  rintro e w1 ⟨bv, rfl, hb, hbr, a, n, c, rfl⟩
  have hg1 := Grow.trans hg0 hb
  have hB1 := hB0.fits hb
  clear hw0 hg0 hBb hB0 c0 c1 c2 c3 c4 c5 f0 f1 f2 f3 f4 f5 hb Ho hbr
  go_wp2_with fail
  refine (isID_any _ _ _).mono ?_
  rintro e w2 ⟨rfl, hb2⟩
  have hg2 := Grow.trans hg1 hb2
  have hB2 := hB1.fits hb2
  obtain ⟨c0, c1, c2, c3, c4, c5, f0, f1, f2, f3, f4, f5⟩ := pgres hB2
  have hset := pgset hB2 (.int .i64 0) (.int .i64 0) (.int .i64 0) (.int .i64 0) (.string ⟨#[]⟩) (.slice none 0 0)
  have hbut := pgbut w2 (w.heap.size + 1) (.int .i64 0) (.int .i64 0) (.int .i64 0) (.int .i64 0) (.string ⟨#[]⟩) (.slice none 0 0)
  have Hset := keep hset
  have Hbut := keep hbut
  clear hset hbut hB1 hg1 hb2
  cases hB : idsB m [x] with
  | false =>
    go_wp2_with fail
    refine bodyPost_ret (v := .tuple #[pgV noPg (.slice none 0 0), .int .i64 1]) ?_ rfl ⟨_, rfl, RowS.nil _ _ _ _, But.below hg2 Hbut.out (by omega) (Below.size hg2)⟩
    obtain ⟨r0, r1, r2, r3, r4, r5, _⟩ := pgres Hset.out
    simp [results, Tryz.results16, go_sem, r0, r1, r2, r3, r4, r5, pgV, noPg]
    rfl
  | true =>
    have hs3 : (3 : Int) < (s : Int) := by rw [hB] at h1; simp at h1; omega
    go_wp2_with fail
    refine bodyPost_ret (v := .tuple #[pgV noPg (.slice none 0 0), .int .i64 1]) ?_ rfl ⟨_, rfl, RowS.nil _ _ _ _, But.below hg2 Hbut.out (by omega) (Below.size hg2)⟩
    obtain ⟨r0, r1, r2, r3, r4, r5, _⟩ := pgres Hset.out
    simp [results, Tryz.results16, go_sem, r0, r1, r2, r3, r4, r5, pgV, noPg]
    rfl

set_option maxRecDepth 100000 in
set_option maxHeartbeats 1000000 in
theorem set_ok (m : Int) (p : Pg) (iv : Value) (x : Int) (s : Nat) (w : World) (hi : Items w iv p.items) (hs : ∀ x ∈ p.items, (x.length : Int) ≤ 9223372036854775807) (h0 : openE m p = 0) (hB : idsB m [x] = true) (hs3 : s ≤ 3) :
    Calls Tryz.prog 16 #[.int .i64 m, pgV p iv, .int .i64 x, .int .u8 s] w (PgPost (madeP (openNum m p).1.toNat (putS (p.items.getD 1 []) x s) p.lsn) 0 w) := by
  obtain ⟨_, hx1, hx2⟩ := idsB_one hB
  obtain ⟨hm1, hm2, _⟩ := modB_bd (openE_zero h0).1
  have hll := (openE_len h0).2.1
  have hF : 0 ≤ (openNum m p).1 ∧ (openNum m p).1 ≤ 1024 := by
    have hb := (openE_zero h0).2.2
    unfold openBody at hb
    simp only [Bool.and_eq_true, decide_eq_true_eq] at hb
    have := rdNumS_facts m (p.items.getD 0 [])
    have h5 := (this.2.2.2.2 hb.1.1.1).1
    unfold openNum
    omega
  obtain ⟨fn, hfn⟩ := Int.eq_ofNat_of_zero_le hF.1
  obtain ⟨w0, hw0⟩ : ∃ w0, w0 = (w.alloc (.cells (pgCells p iv).toArray 30)).alloc (.cells #[.int .i64 0, .int .i64 0, .int .i64 0, .int .i64 0, .string ⟨#[]⟩, .slice none 0 0] 30) := ⟨_, rfl⟩
  have hg0 : Grow w w0 := by subst hw0; exact ((Grow.refl w).alloc _).alloc _
  have hBb : Blk w0 w.heap.size 30 (pgCells p iv) := by subst hw0; exact (Blk.new w _ _).alloc _
  have hB0 : Blk w0 (w.heap.size + 1) 30 pg0 := by
    have := Blk.new (w.alloc (.cells (pgCells p iv).toArray 30)) 30 pg0
    have e : (w.alloc (.cells (pgCells p iv).toArray 30)).heap.size = w.heap.size + 1 := by simp
    rw [e] at this
    subst hw0; exact this
  have ho := open_any m p iv w0 (hi.fits hg0) hs
  unfold pgV OpenPost at ho
  rw [if_pos h0] at ho
  unfold pgCells at hw0 hBb
  rw [h0] at ho
  rw [hfn] at ho hF ⊢
  rw [Int.toNat_natCast]
  generalize p.items.getD 1 [] = l at *
  have hq1 : ((x - 1) / 4).toNat < l.length := by omega
  have HL := keep hll
  have hl2 : (l.length : Int) ≤ 9223372036854775807 := by omega
  have Ho := keep ho
  have HF := keep hF
  clear ho h0 hi hs hfn hF hll
  unfold pgV
  go_enter Tryz.func16, Tryz.ntmps16
  obtain ⟨c0, c1, c2, c3, c4, c5, f0, f1, f2, f3, f4, f5⟩ := pgres hBb
  go_wp2_with fail
  rw [← hw0]
  refine Ho.out.mono ?_
  rintro e w1 ⟨bv, rfl, hb, hbr, a, n, c, rfl⟩
  have hg1 := Grow.trans hg0 hb
  have hB1 := hB0.fits hb
  have hb1 := hBb.fits hb
  have hR1 := hbr trivial
  clear hw0 c0 c1 c2 c3 c4 c5 f0 f1 f2 f3 f4 f5 hb Ho hbr
  go_wp2_with fail
  refine (isID_any _ _ _).mono ?_
  rintro e w2 ⟨rfl, hb2⟩
  have hg2 := Grow.trans hg1 hb2
  have hB2 := hB1.fits hb2
  have hbb2 := hb1.fits hb2
  have hR2 := hR1.fits hb2
  have hs3' : (s : Int) ≤ 3 := by omega
  clear hg1 hB1 hb1 hR1
  go_wp2_with fail
  refine (put_any _ _ _ x s w2 hR2 hx1 (by omega) hq1 (by omega) hl2).mono ?_
  rintro e w3 ⟨rfl, hR3, hb3⟩
  have hz0 := hb2.size
  have hz1 := hg0.size
  have hl0 := hBb.lt
  have hl1 := hB0.lt
  have hg3 : Grow w w3 := Below.trans hg2 (hb3.mono (by omega))
  have hB3 := hB2.below hb3 (by omega)
  have hbb3 := hbb2.below hb3 (by omega)
  obtain ⟨c0, c1, c2, c3, c4, c5, f0, f1, f2, f3, f4, f5⟩ := pgres hbb3
  clear hg2 hB2 hbb2 hb3 hb2 hR2
  go_wp2_with fail
  refine (made_any fn _ (putS l x s) p.lsn w3 (by have := HF.out; omega) (fun u hu => (hR3.fits hu).converts)).mono ?_
  rintro e w4 ⟨iv', rfl, hit, hb4⟩
  have hB4 := hB3.fits hb4
  have hg4 := Grow.trans hg3 hb4
  obtain ⟨iva, ivc, hivf⟩ : ∃ a c, iv' = .slice a 2 c := items_form hit.weak
  subst hivf
  clear c0 c1 c2 c3 c4 c5 f0 f1 f2 f3 f4 f5 hbb3 hB3 hR3
  obtain ⟨c0, c1, c2, c3, c4, c5, f0, f1, f2, f3, f4, f5⟩ := pgres hB4
  have hset := pgset hB4 (.int .i64 p.lsn) (.int .i64 1) (.int .i64 0) (.int .i64 0) (.string (str [])) (.slice iva 2 ivc)
  have hbut := pgbut w4 (w.heap.size + 1) (.int .i64 p.lsn) (.int .i64 1) (.int .i64 0) (.int .i64 0) (.string (str [])) (.slice iva 2 ivc)
  have Hset := keep hset
  have Hbut := keep hbut
  have Hit := keep hit
  clear hset hbut hit
  unfold pgV madeP
  go_wp2_with fail
  refine bodyPost_ret (v := .tuple #[pgV (madeP fn (putS l x s) p.lsn) (.slice iva 2 ivc), .int .i64 0]) ?_ rfl ?_
  · obtain ⟨r0, r1, r2, r3, r4, r5, _⟩ := pgres Hset.out
    simp [results, Tryz.results16, go_sem, r0, r1, r2, r3, r4, r5, pgV, madeP]
  · exact ⟨_, rfl, items_but Hit.out Hbut.out hB4 (by decide), But.below hg4 Hbut.out (by omega) (Below.size hg4)⟩

theorem set_any (m : Int) (p : Pg) (iv : Value) (x : Int) (s : Nat) (w : World) (hi : Items w iv p.items) (hs : ∀ x ∈ p.items, (x.length : Int) ≤ 9223372036854775807) (hs8 : s < 256) :
    Calls Tryz.prog 16 #[.int .i64 m, pgV p iv, .int .i64 x, .int .u8 s] w (PgPost (setS m p x s).1 (setS m p x s).2 w) := by
  unfold setS
  by_cases h0 : openE m p = 0
  · rw [if_pos h0]
    cases h1 : (idsB m [x] && decide (s ≤ 3)) with
    | false => exact set_arg m p iv x s w hi hs h0 h1 hs8
    | true =>
      simp only [Bool.and_eq_true, decide_eq_true_eq] at h1
      exact set_ok m p iv x s w hi hs h0 h1.1 h1.2
  · rw [if_neg h0]
    exact set_bad m p iv x s w hi hs h0

end Go.Proofs.YtikmkimkhngihaaGreat
