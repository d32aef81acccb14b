
/- maps.Values over a table's map: what its iterator gives, whatever the loop's body does. -/
import Derived.Test.YtgijmlienolhpaaTx1
import Derived.Test.YtgijmlienolhpaaLib
import Derived.Sort.MapsRangeIn
import Derived.RangeFuncGives
import Derived.RangeFuncLeaves
import Derived.RangeFuncMany
import Derived.OwnWalkIn
import Derived.TacticsInMore
import Derived.RegionIn
import Derived.LoopNIn
import Derived.LoopIn
import Derived.Shelf.Abstract
import Derived.Shelf.AbstractIn
import Derived.Test.YtgijmlienolhpaaProg
namespace Go.Proofs.Ytgijmlienolhpaa
open Go.RowKit Go.Shelf Go.Maps

def encP (b : Nat) : Value := .pointer (some ⟨b, 0, none⟩)
def encPo (p : Option Nat) : Value := .pointer (p.map fun b => ⟨b, 0, none⟩)
theorem encPo_inj {p q : Option Nat} (h : encPo p = encPo q) : p = q := by
  unfold encPo at h
  cases p <;> cases q <;> simp_all

/-- What has come of a map's entries: no session twice, each as the map has it; what is still to come is the rest. -/
structure Came (L : List (Int × Nat)) (left : Lit → Bool) (ps : List (Int × Nat)) : Prop where
  nodup : (ps.map (·.1)).Nodup
  sub : ∀ p ∈ ps, p ∈ L
  rest : ∀ p ∈ L, p.1 ∈ ps.map (·.1) ∨ left (.int .i64 p.1) = true
  gone : ∀ p ∈ ps, left (.int .i64 p.1) = false

theorem came_start (L : List (Int × Nat)) : Came L (Maps.has (mapD L)) [] := by
  refine ⟨List.Pairwise.nil, by simp, ?_, by simp⟩
  intro p hp
  refine .inr ?_
  rw [has_mapD, List.any_eq_true]
  exact ⟨p, hp, by simp⟩
theorem came_step {L : List (Int × Nat)} {left : Lit → Bool} {ps : List (Int × Nat)} (h : Came L left ps) {x : Int} {b : Nat} (hm : (x, b) ∈ L) (hl : left (.int .i64 x) = true) :
    Came L (fun z => left z && !z.sameKey (.int .i64 x)) (ps ++ [(x, b)]) := by
  have hx : x ∉ ps.map (·.1) := by
    intro hx
    obtain ⟨p, hp, rfl⟩ := List.mem_map.1 hx
    rw [h.gone p hp] at hl
    cases hl
  refine ⟨?_, ?_, ?_, ?_⟩
  · rw [List.map_append, List.nodup_append]
    refine ⟨h.nodup, by simp, ?_⟩
    intro a ha c hc
    simp only [List.map_cons, List.map_nil, List.mem_singleton] at hc
    rw [hc]
    exact fun e => hx (e ▸ ha)
  · intro p hp
    rcases List.mem_append.1 hp with hp | hp
    · exact h.sub p hp
    · rw [List.mem_singleton.1 hp]; exact hm
  · intro p hp
    rcases h.rest p hp with h1 | h1
    · exact .inl (by rw [List.map_append]; exact List.mem_append_left _ h1)
    · by_cases he : p.1 = x
      · exact .inl (by rw [List.map_append, he]; exact List.mem_append_right _ (by simp))
      · exact .inr (by rw [h1]; simp [Lit.sameKey, he])
  · intro p hp
    rcases List.mem_append.1 hp with hp | hp
    · rw [h.gone p hp]; rfl
    · rw [List.mem_singleton.1 hp]; simp [Lit.sameKey]
theorem came_all {L : List (Int × Nat)} {left : Lit → Bool} {ps : List (Int × Nat)} (h : Came L left ps) (hup : L.Pairwise fun a b => a.1 < b.1) (hl : ∀ kl, left kl = false) : ps.Perm L := by
  have hkeys : ∀ p ∈ L, ∀ q ∈ L, p.1 = q.1 → p = q := by
    intro p hp q hq e
    rcases Decidable.em (p = q) with h1 | h1
    · exact h1
    · have hne : L.Pairwise fun a b => a.1 ≠ b.1 := hup.imp (fun h => by omega)
      have : ∀ {l : List (Int × Nat)}, l.Pairwise (fun a b => a.1 ≠ b.1) → p ∈ l → q ∈ l → p.1 ≠ q.1 := by
        intro l hl2 hp hq
        induction l with
        | nil => cases hp
        | cons x r ih =>
          rw [List.pairwise_cons] at hl2
          rcases List.mem_cons.1 hp with e1 | hp2
          · rcases List.mem_cons.1 hq with e2 | hq2
            · exact absurd (e1.trans e2.symm) h1
            · rw [e1]; exact hl2.1 q hq2
          · rcases List.mem_cons.1 hq with e2 | hq2
            · rw [e2]; exact fun e => (hl2.1 p hp2) e.symm
            · exact ih hl2.2 hp2 hq2
      exact absurd e (this hne hp hq)
  have hLn : L.Nodup := hup.imp (fun h e => by rw [e] at h; omega)
  have hpn : ps.Nodup := List.Pairwise.of_map (·.1) (fun a b hab e => hab (by rw [e])) h.nodup
  refine (List.perm_ext_iff_of_nodup hpn hLn).2 ?_
  intro p
  refine ⟨h.sub p, fun hp => ?_⟩
  rcases h.rest p hp with h1 | h1
  · obtain ⟨q, hq, e⟩ := List.mem_map.1 h1
    have := hkeys q (h.sub q hq) p hp e
    rw [← this]; exact hq
  · rw [hl] at h1; cases h1
theorem getL_mem {x : Int} {b : Nat} {L : List (Int × Nat)} (h : getL x L = some b) : (x, b) ∈ L := by
  unfold getL at h
  obtain ⟨y, h1, rfl⟩ := Option.map_eq_some_iff.1 h
  have h2 := List.find?_some h1
  have e : y.1 = x := by simpa using h2
  rw [← e]; exact List.mem_of_find?_eq_some h1

theorem at_none {x : Int} {L : List (Int × Nat)} (h : getL x L = none) (zd : DataW Unit) : (mapD L).atKey (.int .i64 x) zd = zd := by
  unfold getL at h
  rw [Option.map_eq_none_iff] at h
  unfold mapD DataW.atKey
  simp only [find_mapD, h]
  rfl
theorem at_some {x : Int} {b : Nat} {L : List (Int × Nat)} (h : getL x L = some b) (zd : DataW Unit) : (mapD L).atKey (.int .i64 x) zd = .lit (.int .i64 (b : Int)) := by
  unfold getL at h
  obtain ⟨y, h1, rfl⟩ := Option.map_eq_some_iff.1 h
  unfold mapD DataW.atKey
  simp only [find_mapD, h1]
  rfl
theorem ptr_at {x : Int} {L : List (Int × Nat)} {c : Option Nat} {yd : DataW Unit} {yp : List MemPlace} (hv : ptrR (encPo c) = some (yd, yp)) (hat : ∀ zd, (mapD L).atKey (.int .i64 x) zd = yd) : ∃ b, c = some b ∧ (x, b) ∈ L := by
  obtain ⟨p, ep, ez⟩ := ptrR_inv hv
  obtain rfl : c = p := encPo_inj ep
  simp only [Prod.mk.injEq] at ez
  obtain ⟨rfl, _⟩ := ez
  cases hg : getL x L with
  | none =>
    have := (at_none hg (.lit (.bool true))).symm.trans (hat _)
    cases this
  | some b =>
    have := (at_some hg (.lit (.bool true))).symm.trans (hat _)
    cases c with
    | none => simp at this
    | some b1 =>
      simp at this
      obtain rfl : b = b1 := by omega
      exact ⟨b, rfl, getL_mem hg⟩
set_option maxRecDepth 100000 in
set_option maxHeartbeats 2000000 in
theorem vals1_in (F : Fence) (n : Nat) (hf : F.fn 53) (hro : F.round = none) (hn : 1 ≤ n) (l Bm b nn : Nat) (L : List (Int × Nat)) (hup : L.Pairwise fun a b => a.1 < b.1) (J Jx : List Nat → World → Prop)
    (hY : ∀ pre x W, J pre W → pre.length < L.length → YieldAt F (n - 1) Try.prog l #[encP x] W fun e W' => (e = .returned (.bool true) ∧ J (pre ++ [x]) W' ∧ KeepsWalks W W') ∨ (e = .returned (.bool false) ∧ Jx (pre ++ [x]) W'))
    (W : World) (hJ : AbidesFrom W.heap.size J) (hm : W.cell? ⟨Bm, 0, none⟩ = some (.map (some b))) (hown : W.ownsMap Try.prog 3 ptrR b nn (mapD L)) (h0 : J [] W) :
    CallsIn F n Try.prog 53 #[.func (.yield l) #[] #[], .pointer (some ⟨Bm, 0, none⟩)] W fun e W' => (∃ v, e = .returned v) ∧ ((∃ xs, (∃ ps : List (Int × Nat), ps.Perm L ∧ xs = ps.map (·.2)) ∧ J xs W') ∨ (∃ pre, True ∧ Jx pre W')) := by
  have K := Maps.int_keyed Try.underlying3
  refine callsIn_of_wp Try.func53 rfl hf ?_ hro
  simp only [Try.ntmps53, List.size_toArray, List.length_cons, List.length_nil, Nat.reduceAdd, Nat.reduceSub, Array.replicate_succ, Array.replicate_zero, List.push_toArray, List.append_toArray, List.nil_append, List.cons_append]
  gi_wp2_with (first
    | (gi_at_range; refine wpListIn_range_own _ rfl _ 60 rfl 3 63 K Try.underlying60 _ b nn _ rfl hown ?_; intro w0 hrg0 hg0 hs0)
    | gi_in)
  go_frame
  gi_loopw [4] (fun _ wr => ∃ (left : Lit → Bool) (cnt : Nat) (ps : List (Int × Nat)), wr.ranges Try.prog 3 ptrR b W.heap.size nn (mapD L) left cnt ∧ ps.length + cnt ≤ L.length ∧ Came L left ps ∧ J (ps.map (·.2)) wr)
    (fun _ wr => wr.rangeLeft b W.heap.size)
  case atStart =>
    exact ⟨_, _, [], hrg0, by rw [size_mapD]; simp, came_start L, hJ [] W w0 none h0 hg0 (fun r e => by cases e)⟩
  case round =>
    obtain ⟨left, cnt, ps, hrg, hcs, hC, hJs⟩ := hrel
    gi_wp2_with (first
      | (gi_at_next; refine wpListIn_next_ranges _ rfl _ rfl 3 K ptrR (Value.int .i64) encPo (fun key kl hk => by obtain ⟨x, hx, _⟩ := Maps.keyOf_int_inv Try.underlying3 hk; exact ⟨x, hx⟩) (fun v y hv => by obtain ⟨p, hp, _⟩ := ptrR_inv hv; exact ⟨p, hp⟩) b W.heap.size nn _ _ _ rfl hrg ?_ ?_)
      | gi_in)
    · intro hc0 hl0
      gi_wp2
      go_end0
      exact ⟨⟨_, rfl⟩, .inl ⟨_, ⟨ps, came_all hC hup hl0, rfl⟩, hJs⟩⟩
    · intro x c kl yd yp w2 cnt2 hkey hlk hv hat hrg2 hlt hg2 hs2 hen
      obtain ⟨x', ex, rfl, _⟩ := Maps.keyOf_int_inv Try.underlying3 hkey
      obtain rfl : x = x' := by simpa using ex
      obtain ⟨b0, rfl, hm0⟩ := ptr_at hv hat
      have hJ2 : J (ps.map (·.2)) w2 := hJ _ wr w2 (some W.heap.size) hJs hg2 (fun r e => by cases e; exact ⟨Nat.le_refl _, hrg.iter_walk⟩)
      obtain ⟨fn, tmps, assign, body, hy, hR⟩ := hY (ps.map (·.2)) b0 w2 hJ2 (by simp; omega)
      have hC2 := came_step hC hm0 hlk
      clear hs2
      unfold encP at hy
      simp only [encPo, Option.map_some] at hen ⊢
      gi_wp2
      refine hR.mono ?_
      rintro e W3 (⟨rfl, hJ3, hk3⟩ | ⟨rfl, hJx3⟩)
      · gi_wp2
        have hrg3 := hrg2.of_walks hk3
        go_roundw
        case rel => exact ⟨_, cnt2, ps ++ [(x, b0)], hrg3, by simp; omega, hC2, by simpa using hJ3⟩
        case measure => rw [hrg3.left_eq, hrg.left_eq]; exact hlt
      · gi_wp2
        refine bodyPost_ret (results_none rfl _ _ _) rfl ?_
        exact ⟨⟨_, rfl⟩, .inr ⟨_, trivial, hJx3⟩⟩

theorem owns_below {w W : World} {b nn : Nat} {D : DataW Unit} (h : w.ownsMap Try.prog 3 ptrR b nn D) (hb : Below w.heap.size w W) : W.ownsMap Try.prog 3 ptrR b nn D :=
  h.kept (row := none) ⟨hb.os, hb.tape, hb.output, hb.size, fun k hk _ => hb.block k hk⟩ (by simp)
theorem vals_stops (F : Fence) (n : Nat) (hf : F.fn 53) (hro : F.round = none) (hn : 1 ≤ n) (Bm b nn : Nat) (L : List (Int × Nat)) (hup : L.Pairwise fun a b => a.1 < b.1) (w : World)
    (hm : w.cell? ⟨Bm, 0, none⟩ = some (.map (some b))) (hown : w.ownsMap Try.prog 3 ptrR b nn (mapD L)) :
    SeqStops F n Try.prog 53 #[.pointer (some ⟨Bm, 0, none⟩)] encP (fun xs => ∃ ps : List (Int × Nat), ps.Perm L ∧ xs = ps.map (·.2)) (fun _ => True) L.length w := by
  intro l J Jx W hW hJ _ hY h0
  have hlt : Bm < w.heap.size := World.block_lt_of_cell? _ _ hm
  exact vals1_in F n hf hro hn l Bm b nn L hup J Jx hY W hJ ((hW.cell hlt).trans hm) (owns_below hown hW) h0

end Go.Proofs.Ytgijmlienolhpaa
