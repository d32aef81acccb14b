
/- Logged. -/
import Derived.Test.YtgijmlienolhpaaTb6
namespace Go.Proofs.Ytgijmlienolhpaa
open Go.RowKit Go.Maps

theorem wrap_inc {n : Int} (h : 0 ≤ n) (h2 : n ≤ 4611686018427387904) : IntKind.i64.wrap (n + 1) = n + 1 := by
  simp [IntKind.wrap, IntKind.bits, IntKind.signed]; omega

set_option maxRecDepth 100000 in
set_option maxHeartbeats 4000000 in
theorem logged_any (O : Nat → Prop) (tb : Nat) (T : Tr) (who lsn : Int) (un : Bool) (hw : (Lit.int .i64 who).wf = true) (w_ : World) (h : TabT w_ O tb T) (K : Nat) (hK : K ≤ 4611686018427387904) (hF : Fit K (stT T)) :
    Calls Try.prog 19 #[.pointer (some ⟨tb, 0, none⟩), .int .i64 who, .int .i64 lsn, .bool un] w_ (CodePost O tb (loggedT who lsn un (stT T)) w_) := by
  have hd : loggedT who lsn un (stT T) = match atT who T with | none => (stT T, 182) | some x => if x.2.2.xid = 0 ∨ lsn ≤ x.2.2.last then (stT T, 1) else (setT who (logT x.2.2 lsn un) (stT T), 0) := by
    unfold loggedT
    rw [findT_st]
    unfold atT
    cases T.find? fun x => x.1 == who <;> rfl
  rw [hd]
  clear hd
  have hf := find_any O tb T who hw w_ h
  have hmem : ∀ x, atT who T = some x → x ∈ T ∧ x.1 = who := fun x e => atT_mem e
  have HSt := keep (fun t => st_set who t T)
  have H0 := keep h
  have hpos : ∀ x ∈ T, 0 ≤ x.2.2.undoes ∧ x.2.2.undoes ≤ K := fun x hx => by
    have := hF.pos (x.1, x.2.2) (List.mem_map.2 ⟨x, hx, rfl⟩)
    exact ⟨this.2.2.2.2.1, this.2.2.2.2.2⟩
  generalize atT who T = o at *
  clear h hF
  cases o with
  | none =>
    unfold foundV foundE at hf
    dsimp only at hf
    clear hmem
    go_enter Try.func19, Try.ntmps19
    go_wp2_with (go_at_call 31; refine hf.mono ?_; rintro e w' ⟨rfl, rfl⟩)
    go_ret
    exact ⟨rfl, ⟨T, H0.out, rfl⟩, Out.of_below (Below.refl _ _)⟩
  | some x =>
    obtain ⟨hx, hxw⟩ := hmem x rfl
    obtain ⟨who', b, t⟩ := x
    have hr := H0.out.rows _ hx
    have hu := hpos _ hx
    dsimp only at hr hxw hu
    subst hxw
    obtain ⟨hbO, av, hb, hra⟩ := hr
    have hwr := wrap_inc hu.1 (by omega)
    have HX := keep hx
    have HB := keep hb
    have HRA := keep hra
    have HBO := keep hbO
    unfold foundV foundE at hf
    dsimp only at hf ⊢
    unfold tnC at hb
    obtain ⟨c0, c1, c2, c3, c4, c5, c6, f0, f1, f2, f3, f4, f5, f6⟩ := seven_of hb
    clear hmem hx hra hb hbO hpos hu hK
    by_cases hA : t.xid = 0
    · rw [if_pos (.inl hA)]
      have hz2 : (t.xid == 0) = true := by simp [hA]
      clear hA hwr
      go_enter Try.func19, Try.ntmps19
      go_wp2_with (go_at_call 31; refine hf.mono ?_; rintro e w' ⟨rfl, rfl⟩)
      go_ret
      exact ⟨rfl, ⟨T, H0.out, rfl⟩, Out.of_below (Below.refl _ _)⟩
    · have hz2 : (t.xid == 0) = false := by simp [hA]
      by_cases hl : lsn ≤ t.last
      · rw [if_pos (.inr hl)]
        clear hA hwr
        go_enter Try.func19, Try.ntmps19
        go_wp2_with (go_at_call 31; refine hf.mono ?_; rintro e w' ⟨rfl, rfl⟩)
        go_ret
        exact ⟨rfl, ⟨T, H0.out, rfl⟩, Out.of_below (Below.refl _ _)⟩
      · rw [if_neg (fun h => h.elim hA hl)]
        clear hA
        by_cases hz : t.first = 0
        · have hz3 : (t.first == 0) = true := by simp [hz]
          cases un with
          | true =>
            have hg : logT t lsn true = { t with last := lsn, first := lsn, undoes := t.undoes + 1 } := by unfold logT; rw [if_pos hz]; rfl
            rw [hg]
            clear hz hg
            go_enter Try.func19, Try.ntmps19
            go_wp2_with (go_at_call 31; refine hf.mono ?_; rintro e w' ⟨rfl, rfl⟩)
            go_ret
            have hbut := (((But.refl b w_).setCell 4 (.int .i64 lsn)).setCell 3 (.int .i64 lsn)).setCell 5 (.int .i64 (t.undoes + 1))
            exact ⟨rfl, ⟨_, TabT.set (t := { t with last := lsn, first := lsn, undoes := t.undoes + 1 }) H0.out HX.out HB.out HRA.out rfl (((HB.out.set 4 (.int .i64 lsn)).set 3 (.int .i64 lsn)).set 5 (.int .i64 (t.undoes + 1))) hbut, HSt.out _⟩, Out.of_but hbut HBO.out⟩
          | false =>
            have hg : logT t lsn false = { t with last := lsn, first := lsn } := by unfold logT; rw [if_pos hz]; rfl
            rw [hg]
            clear hz hg hwr
            go_enter Try.func19, Try.ntmps19
            go_wp2_with (go_at_call 31; refine hf.mono ?_; rintro e w' ⟨rfl, rfl⟩)
            go_ret
            have hbut := ((But.refl b w_).setCell 4 (.int .i64 lsn)).setCell 3 (.int .i64 lsn)
            exact ⟨rfl, ⟨_, TabT.set (t := { t with last := lsn, first := lsn }) H0.out HX.out HB.out HRA.out rfl ((HB.out.set 4 (.int .i64 lsn)).set 3 (.int .i64 lsn)) hbut, HSt.out _⟩, Out.of_but hbut HBO.out⟩
        · have hz3 : (t.first == 0) = false := by simp [hz]
          cases un with
          | true =>
            have hg : logT t lsn true = { t with last := lsn, undoes := t.undoes + 1 } := by unfold logT; rw [if_neg hz]; rfl
            rw [hg]
            clear hz hg
            go_enter Try.func19, Try.ntmps19
            go_wp2_with (go_at_call 31; refine hf.mono ?_; rintro e w' ⟨rfl, rfl⟩)
            go_ret
            have hbut := ((But.refl b w_).setCell 4 (.int .i64 lsn)).setCell 5 (.int .i64 (t.undoes + 1))
            exact ⟨rfl, ⟨_, TabT.set (t := { t with last := lsn, undoes := t.undoes + 1 }) H0.out HX.out HB.out HRA.out rfl ((HB.out.set 4 (.int .i64 lsn)).set 5 (.int .i64 (t.undoes + 1))) hbut, HSt.out _⟩, Out.of_but hbut HBO.out⟩
          | false =>
            have hg : logT t lsn false = { t with last := lsn } := by unfold logT; rw [if_neg hz]; rfl
            rw [hg]
            clear hz hg hwr
            go_enter Try.func19, Try.ntmps19
            go_wp2_with (go_at_call 31; refine hf.mono ?_; rintro e w' ⟨rfl, rfl⟩)
            go_ret
            have hbut := (But.refl b w_).setCell 4 (.int .i64 lsn)
            exact ⟨rfl, ⟨_, TabT.set (t := { t with last := lsn }) H0.out HX.out HB.out HRA.out rfl (HB.out.set 4 (.int .i64 lsn)) hbut, HSt.out _⟩, Out.of_but hbut HBO.out⟩

end Go.Proofs.Ytgijmlienolhpaa
