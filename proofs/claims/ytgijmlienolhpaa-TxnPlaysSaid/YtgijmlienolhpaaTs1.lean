
/- A table's transactions sorted by their sessions. -/
import Derived.Test.YtgijmlienolhpaaTb2
import Derived.Test.YtgijmlienolhpaaTm2
import Derived.Test.YtgijmlienolhpaaShm
import Derived.Test.YtgijmlienolhpaaTx2
import Derived.BigQuiet
namespace Go.Proofs.Ytgijmlienolhpaa
open Go.RowKit Go.Maps Go.Shelf Go.Sort

set_option maxRecDepth 100000 in
theorem all1_any (x y : Nat) (a b : Int) (w : World) (hx : w.cell? ⟨x, 6, none⟩ = some (.int .i64 a)) (hy : w.cell? ⟨y, 6, none⟩ = some (.int .i64 b)) :
    Calls Try.prog 46 #[encP x, encP y] w fun e w' => e = .returned (.int .i64 (Lib.compareInt a b)) ∧ ∃ q, w' = w.drewN q := by
  have hcon := Try.cmp_Compare_int a b
  change ∀ w : World, Calls Try.prog 47 _ _ _ at hcon
  generalize Lib.compareInt a b = r at hcon ⊢
  unfold encP
  go_enter Try.func46, Try.ntmps46
  go_wp2_with fail
  go_quiet ((go_at_call 47; exact Calls.quiet_of_same (hcon _)))
  go_wp2_with fail
  go_ret
  exact ⟨rfl, _, rfl⟩

theorem below_sort {α : Type} [Inhabited α] (enc : α → Value) {B : Nat} (w : World) (blk off m : Nat) (d : Array α) (os : Array Obj) (hB : B ≤ blk) (hs : B ≤ w.heap.size) : Below B w (sortWorld enc w blk off m d os) := by
  refine ⟨rfl, rfl, rfl, ?_, ?_⟩
  · simp [sortWorld]
  · intro k hk
    have hne : ¬ blk = k := by omega
    unfold sortWorld
    rw [heap_grow_old _ _ (by simp; omega)]
    simp [putRow, mapBlock, Array.getElem?_modify, hne]
theorem swo_of {α : Type} {lt : α → α → Bool} (f : α → Int) (h : ∀ x y, lt x y = decide (f x < f y)) : SWO lt where
  irrefl x := by rw [h]; simp
  trans x y z h1 h2 := by rw [h] at *; simp at *; omega
  ntrans x y z h1 h2 := by rw [h] at *; simp at *; omega
theorem lt_cmp (x y : Int) : decide (Lib.compareInt x y < 0) = decide (x < y) := by
  unfold Lib.compareInt
  by_cases h1 : x < y
  · simp [h1]
  · by_cases h2 : y < x <;> simp [h1, h2]

/-- What has to be known of a block whose session the comparison reads. -/
def Kn (w : World) (blk : Nat) (x : Int × Nat) : Prop := w.cell? ⟨x.2, 6, none⟩ = some (.int .i64 x.1) ∧ x.2 < w.heap.size ∧ x.2 ≠ blk

theorem sort_whos (blk cap : Nat) (ps L : List (Int × Nat)) (hp : ps.Perm L) (hup : L.Pairwise fun a b => a.1 < b.1) (hne : L ≠ []) (w : World) (hk : ∀ x ∈ L, Kn w blk x) (hblk : blk < w.heap.size)
    (hrow : ∀ (j : Nat) (h : j < ps.length), w.cell? ⟨blk, j, none⟩ = some (encP ps[j].2) ∧ w.frozen? ⟨blk, j, none⟩ = false) (hlen : ps.length < 4611686018427387904) :
    Calls Try.prog 52 #[.slice (some ⟨blk, 0, none⟩) ps.length cap, .func (.func 46) #[] #[]] w fun e w' => e = .returned (.tuple #[]) ∧ (∀ (j : Nat) (h : j < L.length), w'.cell? ⟨blk, j, none⟩ = some (encP L[j].2)) ∧ Below blk w w' := by
  obtain ⟨x0, hx0⟩ := List.exists_mem_of_ne_nil L hne
  haveI : Inhabited {x : Int × Nat // Kn w blk x} := ⟨⟨x0, hk x0 hx0⟩⟩
  have hk' : ∀ x ∈ ps, Kn w blk x := fun x hx => hk x (hp.mem_iff.1 hx)
  obtain ⟨l, hl⟩ : ∃ l : List {x : Int × Nat // Kn w blk x}, l = L.pmap Subtype.mk hk := ⟨_, rfl⟩
  obtain ⟨d, hd⟩ : ∃ d : Array {x : Int × Nat // Kn w blk x}, d = (ps.pmap Subtype.mk hk').toArray := ⟨_, rfl⟩
  have hds : d.size = ps.length := by rw [hd]; simp
  have hll : l.length = L.length := by rw [hl]; simp
  have eg : ∀ args w, (callFunc 46 args).run Try.prog w = .ok (.enter 46 args) w := enters_of Try.func46 (by kernel_rfl) rfl
  have hlt : ∀ x y : {x : Int × Nat // Kn w blk x}, ltOf (fun x y : {x : Int × Nat // Kn w blk x} => Lib.compareInt x.1.1 y.1.1) x y = decide (x.1.1 < y.1.1) := fun x y => lt_cmp _ _
  have hH : Holds (fun x : {x : Int × Nat // Kn w blk x} => encP x.1.2) w blk 0 d := by
    intro j hj
    have hj' : j < ps.length := by rw [← hds]; exact hj
    have e : d[j]!.1 = ps[j] := by
      rw [getElem!_pos d j hj]
      subst hd
      simp
    dsimp only
    rw [Nat.zero_add, e]
    exact hrow j hj'
  have hcon := Any.slices_SortFunc Try.l52 (fun x : {x : Int × Nat // Kn w blk x} => encP x.1.2) (fun _ => rfl) (fun x y => Lib.compareInt x.1.1 y.1.1) (swo_of (fun x => x.1.1) hlt) 46 #[] blk 0 cap d w eg ?_ hH hblk (by omega)
  · rw [hds] at hcon
    refine hcon.mono ?_
    rintro e w' ⟨rfl, d', n, os, hpm, hso, rfl⟩
    have hd's : d'.size = d.size := by have := hpm.1; omega
    have hl' : d'.toList = l := by
      rw [← hds] at hpm hso
      refine sorted_is (fun x : {x : Int × Nat // Kn w blk x} => x.1.1) _ hlt hpm hso ?_ ?_
      · subst hl hd
        exact (List.Perm.pmap _ hp).symm
      · subst hl
        exact hup.pmap hk (fun _ _ _ _ h => h)
    refine ⟨rfl, ?_, below_sort _ _ _ _ _ _ _ (Nat.le_refl _) (by omega)⟩
    intro j hj
    have hjd : j < d'.size := by rw [hd's, hds, hp.length_eq]; exact hj
    have h1 := (holds_grow _ (putRow (fun x : {x : Int × Nat // Kn w blk x} => encP x.1.2) (Sort.ahead w n) blk 0 d') os blk 0 d' (by simpa using hblk) (holds_putRow _ _ _ _ _ _ (holds_ahead _ w n blk 0 d hH) hd's) j hjd).1
    rw [Nat.zero_add] at h1
    refine h1.trans ?_
    have e : d'[j]!.1 = L[j] := by
      rw [getElem!_pos d' j hjd]
      have : d'[j] = d'.toList[j]'(by simpa using hjd) := by simp
      rw [this]
      simp only [hl', hl, List.getElem_pmap]
    rw [e]
  · intro m os dk hs x y
    refine (all1_any x.1.2 y.1.2 x.1.1 y.1.1 _ ?_ ?_).mono ?_
    · unfold sortWorld
      rw [cell?_grow _ _ _ (by simpa using x.2.2.1), cell?_putRow_other _ _ _ _ _ _ (.inl x.2.2.2), cell?_ahead]
      exact x.2.1
    · unfold sortWorld
      rw [cell?_grow _ _ _ (by simpa using y.2.2.1), cell?_putRow_other _ _ _ _ _ _ (.inl y.2.2.2), cell?_ahead]
      exact y.2.1
    · rintro e w' ⟨rfl, q, rfl⟩
      exact ⟨rfl, q, #[], (grow_empty _).symm⟩

end Go.Proofs.Ytgijmlienolhpaa
