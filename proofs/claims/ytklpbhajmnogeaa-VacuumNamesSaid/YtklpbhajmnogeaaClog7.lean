/- clog.Blank, Set. -/
import Derived.Test.YtklpbhajmnogeaaClog6
namespace Go.Proofs.Ytklpbhajmnogeaa
open Go.RowKit

def noPg : Pg := { lsn := 0, kind := 0, level := 0, right := 0, high := [], items := [] }
def pg0 : List Value := [.int .i64 0, .int .i64 0, .int .i64 0, .int .i64 0, .string ⟨#[]⟩, .slice none 0 0]

/-- A page and what is wrong, as they are handed back. -/
def PgPost (P : Pg) (c : Int) (w : World) (e : Ending) (w' : World) : Prop := ∃ iv, e = .returned (.tuple #[pgV P iv, .int .i64 c]) ∧ ItemsS w' iv P.items ∧ Below w.heap.size w w'

def blankS (m fr : Int) : Pg × Int := if idsB m [fr] then (madeP fr.toNat (List.replicate ((m + 3) / 4).toNat 0) 0, 0) else (noPg, 1)

theorem idsB_mod {m x : Int} (h : modB m = false) : idsB m [x] = false := by unfold idsB; rw [h, Bool.and_false]

theorem pgres {w : World} {b t : Nat} {v0 v1 v2 v3 v4 v5 : Value} (h : Blk w b t [v0, v1, v2, v3, v4, v5]) :
    w.cell? ⟨b, 0, none⟩ = some v0 ∧ w.cell? ⟨b, 1, none⟩ = some v1 ∧ w.cell? ⟨b, 2, none⟩ = some v2 ∧ w.cell? ⟨b, 3, none⟩ = some v3 ∧ w.cell? ⟨b, 4, none⟩ = some v4 ∧ w.cell? ⟨b, 5, none⟩ = some v5 ∧
    w.frozen? ⟨b, 0, none⟩ = false ∧ w.frozen? ⟨b, 1, none⟩ = false ∧ w.frozen? ⟨b, 2, none⟩ = false ∧ w.frozen? ⟨b, 3, none⟩ = false ∧ w.frozen? ⟨b, 4, none⟩ = false ∧ w.frozen? ⟨b, 5, none⟩ = false :=
  ⟨h.cell 0 (by simp), h.cell 1 (by simp), h.cell 2 (by simp), h.cell 3 (by simp), h.cell 4 (by simp), h.cell 5 (by simp), h.free 0, h.free 1, h.free 2, h.free 3, h.free 4, h.free 5⟩

set_option maxRecDepth 100000 in
set_option maxHeartbeats 1000000 in
theorem blank_bad (m fr : Int) (w : World) (h : idsB m [fr] = false) : Calls Try.prog 10 #[.int .i64 m, .int .i64 fr] w (PgPost noPg 1 w) := by
  cases hm : modB m with
  | false =>
    go_enter Try.func10, Try.ntmps10
    go_wp2_with fail
    generalize hw0 : w.alloc (.cells #[.int .i64 0, .int .i64 0, .int .i64 0, .int .i64 0, .string ⟨#[]⟩, .slice none 0 0] 30) = w0
    have hB0 : Blk w0 w.heap.size 30 pg0 := by subst hw0; exact Blk.new w _ _
    have hg0 : Grow w w0 := by subst hw0; exact (Grow.refl w).alloc _
    clear hw0
    refine (isModulus_any _ _).mono ?_
    rintro e w1 ⟨rfl, hb1⟩
    have hB1 := hB0.fits hb1
    obtain ⟨c0, c1, c2, c3, c4, c5, f0, f1, f2, f3, f4, f5⟩ := pgres hB1
    have hset := pgset hB1 (.int .i64 0) (.int .i64 0) (.int .i64 0) (.int .i64 0) (.string ⟨#[]⟩) (.slice none 0 0)
    have hbut := pgbut w1 w.heap.size (.int .i64 0) (.int .i64 0) (.int .i64 0) (.int .i64 0) (.string ⟨#[]⟩) (.slice none 0 0)
    have Hset := keep hset
    have Hbut := keep hbut
    clear hset hbut
    go_wp2_with fail
    refine bodyPost_ret (v := .tuple #[pgV noPg (.slice none 0 0), .int .i64 1]) ?_ rfl ⟨_, rfl, RowS.nil _ _ _ _, But.below (Grow.trans hg0 hb1) Hbut.out (Nat.le_refl _) (Grow.trans hg0 hb1).size⟩
    obtain ⟨r0, r1, r2, r3, r4, r5, _⟩ := pgres Hset.out
    simp [results, Try.results10, go_sem, r0, r1, r2, r3, r4, r5, pgV, noPg]
    rfl
  | true =>
    go_enter Try.func10, Try.ntmps10
    go_wp2_with fail
    generalize hw0 : w.alloc (.cells #[.int .i64 0, .int .i64 0, .int .i64 0, .int .i64 0, .string ⟨#[]⟩, .slice none 0 0] 30) = w0
    have hB0 : Blk w0 w.heap.size 30 pg0 := by subst hw0; exact Blk.new w _ _
    have hg0 : Grow w w0 := by subst hw0; exact (Grow.refl w).alloc _
    clear hw0
    refine (isModulus_any _ _).mono ?_
    rintro e w1 ⟨rfl, hb1⟩
    go_wp2_with fail
    refine (isID_any _ _ _).mono ?_
    rintro e w2 ⟨rfl, hb2⟩
    have hB1 := (hB0.fits hb1).fits hb2
    obtain ⟨c0, c1, c2, c3, c4, c5, f0, f1, f2, f3, f4, f5⟩ := pgres hB1
    have hset := pgset hB1 (.int .i64 0) (.int .i64 0) (.int .i64 0) (.int .i64 0) (.string ⟨#[]⟩) (.slice none 0 0)
    have hbut := pgbut w2 w.heap.size (.int .i64 0) (.int .i64 0) (.int .i64 0) (.int .i64 0) (.string ⟨#[]⟩) (.slice none 0 0)
    have Hset := keep hset
    have Hbut := keep hbut
    have hg2 := Grow.trans (Grow.trans hg0 hb1) hb2
    clear hset hbut
    go_wp2_with fail
    refine bodyPost_ret (v := .tuple #[pgV noPg (.slice none 0 0), .int .i64 1]) ?_ rfl ⟨_, rfl, RowS.nil _ _ _ _, But.below hg2 Hbut.out (Nat.le_refl _) (Below.size hg2)⟩
    obtain ⟨r0, r1, r2, r3, r4, r5, _⟩ := pgres Hset.out
    simp [results, Try.results10, go_sem, r0, r1, r2, r3, r4, r5, pgV, noPg]
    rfl

set_option maxRecDepth 100000 in
set_option maxHeartbeats 1000000 in
theorem blank_ok (m fr : Int) (w : World) (h : idsB m [fr] = true) : Calls Try.prog 10 #[.int .i64 m, .int .i64 fr] w (PgPost (madeP fr.toNat (List.replicate ((m + 3) / 4).toNat 0) 0) 0 w) := by
  obtain ⟨hm, hf1, hf2⟩ := idsB_one h
  obtain ⟨hm1, hm2, _⟩ := modB_bd hm
  obtain ⟨i0, hi, hz0, hz1, hz2⟩ := info_parts infoU8
  obtain ⟨fn, rfl⟩ := Int.eq_ofNat_of_zero_le (show 0 ≤ fr by omega)
  obtain ⟨sz, hsz⟩ : ∃ sz : Nat, (m + 3) / 4 = (sz : Int) := ⟨((m + 3) / 4).toNat, by omega⟩
  have hszl : sz ≤ 256 := by omega
  have HSZ := keep hsz
  go_enter Try.func10, Try.ntmps10
  go_wp2_with fail
  generalize hw0 : w.alloc (.cells #[.int .i64 0, .int .i64 0, .int .i64 0, .int .i64 0, .string ⟨#[]⟩, .slice none 0 0] 30) = w0
  have hB0 : Blk w0 w.heap.size 30 pg0 := by subst hw0; exact Blk.new w _ _
  have hg0 : Grow w w0 := by subst hw0; exact (Grow.refl w).alloc _
  clear hw0
  refine (isModulus_any _ _).mono ?_
  rintro e w1 ⟨rfl, hb1⟩
  go_wp2_with fail
  refine (isID_any _ _ _).mono ?_
  rintro e w2 ⟨rfl, hb2⟩
  have hB2 := (hB0.fits hb1).fits hb2
  have hg2 := Grow.trans (Grow.trans hg0 hb1) hb2
  clear hB0 hg0 hb1 hb2
  go_wp2_with fail
  refine (size_any m w2 (by omega) hm2).mono ?_
  rintro e w3 ⟨rfl, rfl⟩
  go_wp2_with ((at_make; go_must (refine wpList_make_full _ rfl _ _ 72 rfl w2.heap.size 5 i0 (.int .u8 0) 1 Try.underlying72 hi hz0 hz1 .i64 .i64 _ _ sz rfl rfl (by omega) (by omega) (by rw [hz2]; omega) (by unfold maxLen; omega) (Nat.le_refl _) ?_); intro w4 hown hgrow))
  have hz : (madeCells (Value.int IntKind.u8 0).cells (sz * 1)).toList = bcells (List.replicate sz 0) := by
    rw [Nat.mul_one, bcells, List.map_replicate]; exact toList_madeCells_one _ _
  rw [hz] at hown
  have hg4 : Grow w2 w4 := (Below.refl _ _).grown hgrow (Nat.le_refl _) (by simp)
  have hB4 := hB2.fits hg4
  have hcv : ∀ u, Grow w4 u → (convert 72 9 (.slice (some ⟨w2.heap.size, 0, none⟩) sz sz)).run Try.prog u = .ok (.string (str (List.replicate sz 0))) u := by
    intro u hu
    refine own_convert (base := w2.heap.size) (n := sz) ⟨hown.1, ?_⟩ (by simp)
    rcases hown.2 with h | ⟨g, cap, cur, a1, a2, a3, a4⟩
    · exact .inl h
    · exact .inr ⟨g, cap, cur, a1, a2, by rw [hu.block g (lt_of_block a3)]; exact a3, a4⟩
  refine (made_any fn _ (List.replicate sz 0) 0 w4 (by omega) hcv).mono ?_
  rintro e w5 ⟨iv, rfl, hit, hb5⟩
  have hB5 := hB4.fits hb5
  have hg5 := Grow.trans (Grow.trans hg2 hg4) hb5
  obtain ⟨c0, c1, c2, c3, c4, c5, f0, f1, f2, f3, f4, f5⟩ := pgres hB5
  have hset := pgset hB5 (.int .i64 0) (.int .i64 1) (.int .i64 0) (.int .i64 0) (.string (str [])) iv
  have hbut := pgbut w5 w.heap.size (.int .i64 0) (.int .i64 1) (.int .i64 0) (.int .i64 0) (.string (str [])) iv
  have Hset := keep hset
  have Hbut := keep hbut
  have Hit := keep hit
  have e1 : ((m + 3) / 4).toNat = sz := by have := HSZ.out; omega
  have E1 := keep e1
  obtain ⟨iva, ivc, hivf⟩ : ∃ a c, iv = .slice a 2 c := items_form hit.weak
  subst hivf
  clear hset hbut hcv hown hgrow hz hit e1 hsz hB2 hB4
  unfold pgV madeP
  go_wp2_with fail
  refine bodyPost_ret (v := .tuple #[pgV (madeP fn (List.replicate sz 0) 0) (.slice iva 2 ivc), .int .i64 0]) ?_ rfl ?_
  · obtain ⟨r0, r1, r2, r3, r4, r5, _⟩ := pgres Hset.out
    simp [results, Try.results10, go_sem, r0, r1, r2, r3, r4, r5, pgV, madeP]
  · rw [Int.toNat_natCast, E1.out]
    exact ⟨_, rfl, items_but Hit.out Hbut.out hB5 (by decide), But.below hg5 Hbut.out (Nat.le_refl _) (Below.size hg5)⟩

theorem blank_any (m fr : Int) (w : World) : Calls Try.prog 10 #[.int .i64 m, .int .i64 fr] w (PgPost (blankS m fr).1 (blankS m fr).2 w) := by
  unfold blankS
  cases h : idsB m [fr] with
  | false => exact blank_bad m fr w h
  | true => exact blank_ok m fr w h

end Go.Proofs.Ytklpbhajmnogeaa
