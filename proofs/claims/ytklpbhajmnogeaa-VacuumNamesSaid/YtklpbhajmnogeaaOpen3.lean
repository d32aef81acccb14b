/- The statement's three arguments, whole. -/
import Derived.Test.YtklpbhajmnogeaaOpen2
namespace Go.Proofs.Ytklpbhajmnogeaa
open Go.ChangeShapes Go.WideShapes Go.ChangeAt Go.RowKit

instance : Inhabited Sl := ⟨sl0⟩

section
variable {H : Type} {enc : TypeId × Value → H} {w : World} {base : Nat} {spare : Nat → Bool} {held : Bool} {r : Reach} {b0 : Nat}

theorem reach_num {n k : Nat} (h : n * k ≤ reachBytes) : n * k ≤ 140737488351232 := by
  have e : reachBytes = 140737488351232 := by decide
  omega

set_option maxRecDepth 100000 in
theorem lawpage_of_trod {v : Value} {d : DataW H} {p : List MemPlace} (hval : Value.okWide Try.prog w r b0 24 v) (h : DataW.Trod enc Try.prog w base spare held 24 v d p) (hl : Light Try.prog 24 d) :
    ∃ (m fr : Int) (sv : Value) (l : List (Int × Nat)), v = .agg #[.int .i64 m, .int .i64 fr, sv] ∧ Row w 55 sv l.length (saidCells l) ∧ (l.length : Int) ≤ 70368744177664 ∧ ∀ x ∈ l, x.2 < 256 := by
  obtain ⟨cs, rfl, hsz⟩ := okWide_struct Try.underlying24 hval
  obtain ⟨fuel, hf⟩ := h
  obtain ⟨n, parts, hd, hc, hF⟩ := field_at Try.underlying24 hf
  rw [cellsLawPage] at hsz hc
  simp only [Value.cells] at hf hF hc
  obtain ⟨a, b, c, hcs⟩ := len3 hc
  obtain ⟨l0⟩ := cs
  simp only at hcs
  subst hcs
  obtain ⟨y0, h0, _⟩ := hF 0 _ rfl
  obtain ⟨y1, h1, _⟩ := hF 1 _ rfl
  obtain ⟨y2, h2, p2⟩ := hF 2 _ rfl
  have hd' : d = .agg parts := hd
  subst hd'
  have hl2 := hl.part Try.underlying24 (i := 2) rfl p2
  simp only [List.getElem_toArray, List.getElem_cons_zero, List.getElem_cons_succ] at h0 h1 h2 hl2
  rw [cellsInt] at h0 h1
  rw [cellsSaids] at h2
  obtain ⟨x, rfl⟩ := one_int h0
  obtain ⟨z, rfl⟩ := one_int h1
  obtain ⟨l, g1, g3, g2⟩ := rows_of_trod (fun x : Int × Nat => [Value.int .i64 x.1, Value.int .u8 x.2]) (fun x => x.2 < 256) 2 55 (by decide) Try.underlying22 cellsSaid (fun _ => rfl) said_shape h2
  have hlen := light_len hl2 Try.underlying22 g2
  rw [bytesSaid] at hlen
  have := reach_num hlen
  exact ⟨x, z, c, l, rfl, g1, by omega, g3⟩

set_option maxRecDepth 100000 in
theorem slots_of_trod {v : Value} {d : DataW H} {p : List MemPlace} (hval : Value.okWide Try.prog w r b0 33 v) (h : DataW.Trod enc Try.prog w base spare held 33 v d p) (hl : Light Try.prog 33 d) :
    ∃ (l : List Sl), Row w 59 v l.length (slCells l) ∧ (l.length : Int) ≤ 1759218604441 ∧ ∀ x ∈ l, (x.raw.length : Int) ≤ 9223372036854775807 := by
  obtain ⟨a, len, cap, rfl⟩ := okWide_slice Try.underlying33 hval
  obtain ⟨fuel, hf⟩ := h
  have hf' : DataW.trod enc Try.prog w base spare held fuel 33 [.slice a len cap] = some (d, p) := hf
  obtain ⟨l, g1, g3, g2⟩ := rows_of_trod slCell (fun x => (x.raw.length : Int) ≤ 9223372036854775807) 7 59 (by decide) Try.underlying33 cellsSlot (fun _ => rfl) slot_shape hf'
  have hlen := light_len hl Try.underlying33 g2
  rw [bytesSlot] at hlen
  have := reach_num hlen
  exact ⟨l, g1, by omega, g3⟩

set_option maxRecDepth 100000 in
theorem view_of_trod {v : Value} {d : DataW H} {p : List MemPlace} (hval : Value.okWide Try.prog w r b0 32 v) (h : DataW.Trod enc Try.prog w base spare held 32 v d p) (hl : Light Try.prog 32 d) :
    ∃ (vw : Vw) (av rv iv : Value), v = vwV vw av rv iv ∧ VwIn w vw av rv iv := by
  obtain ⟨cs, rfl, hsz⟩ := okWide_struct Try.underlying32 hval
  obtain ⟨fuel, hf⟩ := h
  obtain ⟨n, parts, hd, hc, hF⟩ := field_at Try.underlying32 hf
  rw [cellsView] at hsz hc
  simp only [Value.cells] at hf hF hc
  obtain ⟨c0, c1, c2, c3, c4, c5, c6, c7, c8, c9, c10, hcs⟩ := len11 hc
  obtain ⟨l0⟩ := cs
  simp only at hcs
  subst hcs
  obtain ⟨y0, h0, _⟩ := hF 0 _ rfl
  obtain ⟨y1, h1, p1⟩ := hF 1 _ rfl
  obtain ⟨y2, h2, _⟩ := hF 2 _ rfl
  obtain ⟨y3, h3, p3⟩ := hF 3 _ rfl
  obtain ⟨y4, h4, p4⟩ := hF 4 _ rfl
  have hd' : d = .agg parts := hd
  subst hd'
  have hl1 := hl.part Try.underlying32 (i := 1) rfl p1
  have hl3 := hl.part Try.underlying32 (i := 3) rfl p3
  have hl4 := hl.part Try.underlying32 (i := 4) rfl p4
  simp only [List.getElem_toArray, List.getElem_cons_zero, List.getElem_cons_succ] at h0 h1 h2 h3 h4 hl1 hl3 hl4
  rw [cellsInt] at h0 h2
  rw [cellsSnap] at h1
  rw [cellsInts] at h3
  rw [cellsPage] at h4
  obtain ⟨m, rfl⟩ := one_int h0
  obtain ⟨own, rfl⟩ := one_int h2
  obtain ⟨rl, r1, r2⟩ := ints_of_trod h3
  -- the snapshot
  obtain ⟨_, sp, sd, _, sF⟩ := field_at Try.underlying27 h1
  obtain ⟨u0, s0, _⟩ := sF 0 _ rfl
  obtain ⟨u1, s1, q1⟩ := sF 1 _ rfl
  rw [sd] at hl1
  have hls := hl1.part Try.underlying27 (i := 1) rfl q1
  simp only [List.getElem_toArray, List.getElem_cons_zero, List.getElem_cons_succ] at s0 s1 hls
  rw [cellsInt] at s0
  rw [cellsInts] at s1
  obtain ⟨next, rfl⟩ := one_int s0
  obtain ⟨al, a1, a2⟩ := ints_of_trod s1
  -- the page
  obtain ⟨_, pp, pd, _, pF⟩ := field_at Try.underlying30 h4
  obtain ⟨t0, g0, _⟩ := pF 0 _ rfl
  obtain ⟨t1, g1, _⟩ := pF 1 _ rfl
  obtain ⟨t2, g2, _⟩ := pF 2 _ rfl
  obtain ⟨t3, g3, _⟩ := pF 3 _ rfl
  obtain ⟨t4, g4, _⟩ := pF 4 _ rfl
  obtain ⟨t5, g5, q5⟩ := pF 5 _ rfl
  rw [pd] at hl4
  have hlp := hl4.part Try.underlying30 (i := 5) rfl q5
  simp only [List.getElem_toArray, List.getElem_cons_zero, List.getElem_cons_succ] at g0 g1 g2 g3 g4 g5 hlp
  rw [cellsInt] at g0 g1 g2 g3
  rw [cellsString] at g4
  rw [cellsStrings] at g5
  obtain ⟨lsn, rfl⟩ := one_int g0
  obtain ⟨kind, rfl⟩ := one_int g1
  obtain ⟨level, rfl⟩ := one_int g2
  obtain ⟨right, rfl⟩ := one_int g3
  obtain ⟨high, rfl, _⟩ := one_string g4
  obtain ⟨il, i1, i2, i3⟩ := items_of_trod g5
  have k1 := light_len hls Try.underlying25 a2
  have k2 := light_len hl3 Try.underlying25 r2
  have k3 := light_len hlp Try.underlying28 i3
  rw [bytesInt] at k1 k2
  rw [bytesString] at k3
  have k1' := reach_num k1
  have k2' := reach_num k2
  have k3' := reach_num k3
  refine ⟨⟨m, next, al, own, rl, ⟨lsn, kind, level, right, high, il⟩⟩, _, _, _, rfl, a1, r1, i1, ?_, ?_, ?_, i2⟩
  · dsimp only; omega
  · dsimp only; omega
  · dsimp only; omega

end
end Go.Proofs.Ytklpbhajmnogeaa
