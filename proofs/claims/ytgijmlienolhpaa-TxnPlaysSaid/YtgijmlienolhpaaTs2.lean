
/- all: a table's transactions by sessions. -/
import Derived.Test.YtgijmlienolhpaaTs1
import Derived.Shelf.SlSortCmp.NoneTotal
namespace Go.Proofs.Ytgijmlienolhpaa
open Go.RowKit Go.Maps Go.Shelf Go.Sort

theorem cell_below {w w' : World} {a : Addr} {v : Value} (h : w.cell? a = some v) (k : Below w.heap.size w w') : w'.cell? a = some v := by
  have hlt : a.block < w.heap.size := World.block_lt_of_cell? _ _ h
  rw [World.cell?_of_block (k.block _ hlt)]; exact h

theorem sort_row (ps L : List (Int × Nat)) (hp : ps.Perm L) (hup : L.Pairwise fun a b => a.1 < b.1) (w0 w : World) (hb : Below w0.heap.size w0 w) (v : Value) (hrow : w.ownsRow w0.heap.size 63 1 v (ps.map (·.2)).length ((ps.map (·.2)).map encP))
    (hk : ∀ x ∈ L, w0.cell? ⟨x.2, 6, none⟩ = some (.int .i64 x.1)) (hL : L.length ≤ 4398046511104) :
    Calls Try.prog 52 #[v, .func (.func 46) #[] #[]] w fun e w' => e = .returned (.tuple #[]) ∧ Row w' 63 v L.length (L.map fun x => encP x.2) ∧ Below w0.heap.size w0 w' := by
  by_cases hne : L = []
  · subst hne
    have hps : ps = [] := List.Perm.eq_nil hp
    subst hps
    have hv : ∃ p cap, v = .slice p 0 cap := by
      rcases hrow.2 with ⟨rfl, _⟩ | ⟨g, cap, cur, rfl, _⟩
      · exact ⟨_, _, rfl⟩
      · exact ⟨_, _, rfl⟩
    obtain ⟨p, cap, rfl⟩ := hv
    refine (show Calls Try.prog 52 _ _ _ from AnyF.slices_SortFunc_none (P := Try.prog) (ρ := Try.l52_ren) { Try.l52 with } p cap (.func (.func 46) #[] #[]) w).mono ?_
    rintro e w' ⟨rfl, rfl⟩
    exact ⟨rfl, .inl ⟨rfl, rfl, _, _, rfl⟩, hb⟩
  · rcases hrow.2 with ⟨_, h0⟩ | ⟨g, cap, cur, rfl, hg, hh, hn, hcm, hcs, ht⟩
    · have := hp.length_eq
      simp at h0
      subst h0
      exact absurd (List.Perm.nil_eq hp).symm hne
    · have hlen : ps.length = L.length := hp.length_eq
      have hglt : g < w.heap.size := by
        rcases Nat.lt_or_ge g w.heap.size with h | h
        · exact h
        · rw [Array.getElem?_eq_none h] at hh; cases hh
      rw [List.length_map]
      refine (sort_whos g cap ps L hp hup hne w ?_ hglt ?_ (by omega)).mono ?_
      · intro x hx
        have h1 := hk x hx
        have hlt : x.2 < w0.heap.size := World.block_lt_of_cell? _ _ h1
        exact ⟨cell_below h1 hb, Nat.lt_of_lt_of_le hlt hb.size, by omega⟩
      · intro j hj
        constructor
        · simp only [World.cell?, hh]
          have h2 : (cur.toList.take ((ps.map (·.2)).length * 1))[j]? = ((ps.map (·.2)).map encP)[j]? := by rw [ht]
          rw [List.getElem?_take, if_pos (by simpa using hj)] at h2
          simpa [hj] using h2
        · simp [World.frozen?, hh]
      · rintro e w' ⟨rfl, hcell, hB⟩
        refine ⟨rfl, .inr ⟨g, 0, cap, by rw [hlen], fun j hj => ?_⟩, hb.trans (hB.mono hg)⟩
        have hj' : j < L.length := by simpa using hj
        rw [Nat.zero_add, hcell j hj']
        simp

set_option maxRecDepth 100000 in
theorem sortedFunc_any (Bm b nn : Nat) (L : List (Int × Nat)) (hup : L.Pairwise fun a b => a.1 < b.1) (hL : L.length ≤ 4398046511104) (w : World) (hm : w.cell? ⟨Bm, 0, none⟩ = some (.map (some b))) (hown : w.ownsMap Try.prog 3 ptrR b nn (mapD L))
    (hk : ∀ x ∈ L, w.cell? ⟨x.2, 6, none⟩ = some (.int .i64 x.1)) :
    Calls Try.prog 44 #[.func (.func 53) #[] #[.pointer (some ⟨Bm, 0, none⟩)], .func (.func 46) #[] #[]] w fun e w' =>
      ∃ v, e = .returned v ∧ Row w' 63 v L.length (L.map fun x => encP x.2) ∧ Below w.heap.size w w' := by
  have hc := collect_any Bm b nn L hup hL w hm hown
  have HU := keep hup
  have HK := keep hk
  have HL := keep hL
  clear hm hown hup hk hL
  go_enter Try.func44, Try.ntmps44
  go_wp2_with (first | (go_at_call 51; refine hc.mono ?_; rintro e w1 ⟨v, xs, rfl, ⟨ps, hp, rfl⟩, hrow, hb⟩; have HP := keep hp; have HR := keep hrow; have HB := keep hb; clear hp hrow hb) | (go_at_call 52; refine (sort_row _ L HP.out HU.out w _ HB.out v HR.out HK.out HL.out).mono ?_; rintro e w2 ⟨rfl, hrow2, hb2⟩))
  go_ret
  exact ⟨_, rfl, hrow2, hb2⟩

set_option maxRecDepth 100000 in
theorem all_any (O : Nat → Prop) (tb : Nat) (T : Tr) (w : World) (h : TabT w O tb T) (hL : T.length ≤ 4398046511104) :
    Calls Try.prog 33 #[.pointer (some ⟨tb, 0, none⟩)] w fun e w' => ∃ v, e = .returned v ∧ Row w' 63 v T.length (T.map fun x => encP x.2.1) ∧ Below w.heap.size w w' := by
  obtain ⟨m, hm, hmO, hown⟩ := h.mp
  have hc0 := hm.cell 0 (by simp)
  simp only [List.getElem_cons_zero] at hc0
  obtain ⟨w1, hw1⟩ : ∃ w1, w1 = w.alloc (.cells #[.map (some m)] 60) := ⟨_, rfl⟩
  have HG1 := keep (show Grow w w1 from by subst hw1; exact (Grow.refl w).alloc _)
  have HX := keep (show Blk w1 w.heap.size 60 [.map (some m)] from by subst hw1; exact Blk.new w _ [_])
  have hs := sortedFunc_any w.heap.size m T.length (lkT T) (by unfold lkT; rw [List.pairwise_map]; exact h.up) (by simpa [lkT] using hL) w1 (by have := HX.out.cell 0 (by simp); simpa using this) (owns_keeps hown (HG1.out.block _ (owns_lt hown))) (by
    intro x hx
    unfold lkT at hx
    obtain ⟨y, hy, rfl⟩ := List.mem_map.1 hx
    obtain ⟨_, av, hb, _⟩ := h.rows y hy
    have := (hb.fits HG1.out).cell 6 (by simp [tnC])
    simpa [tnC] using this)
  rw [show (lkT T).length = T.length by simp [lkT], show (lkT T).map (fun x => encP x.2) = T.map fun x => encP x.2.1 by simp [lkT]] at hs
  clear hm hmO hown h hL
  have hv : Calls Try.prog 45 #[.map (some m)] w fun e w' => e = .returned (.func (.func 53) #[] #[.pointer (some ⟨w.heap.size, 0, none⟩)]) ∧ w' = w1 := by
    rw [hw1]
    clear hw1 hs hc0 HX HG1
    go_enter Try.func45, Try.ntmps45
    go_wp2_with fail
    go_ret
    exact ⟨rfl, rfl⟩
  clear hw1
  go_enter Try.func33, Try.ntmps33
  go_wp2_with (first | (go_at_call 45; refine hv.mono ?_; rintro e w' ⟨rfl, rfl⟩) | (go_at_call 44; refine hs.mono ?_; rintro e w2 ⟨v, rfl, hrow, hb⟩))
  go_ret
  exact ⟨v, rfl, hrow, HG1.out.trans hb⟩

end Go.Proofs.Ytgijmlienolhpaa
