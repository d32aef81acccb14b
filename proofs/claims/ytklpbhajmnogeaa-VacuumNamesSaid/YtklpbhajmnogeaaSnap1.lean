/- Rows of ints; what slices says of them. -/
import Derived.Test.YtklpbhajmnogeaaClog8
namespace Go.Proofs.Ytklpbhajmnogeaa
open Go.RowKit

def iCells (l : List Int) : List Value := l.map (Value.int .i64)
@[simp] theorem iCells_length (l : List Int) : (iCells l).length = l.length := by simp [iCells]
/-- A list of ints, in a world. -/
def Ints (w : World) (v : Value) (l : List Int) : Prop := Row w 3 v l.length (iCells l)

theorem Ints.fits {w w' : World} {v : Value} {l : List Int} (h : Ints w v l) (k : Below w.heap.size w w') : Ints w' v l := Row.fits h k
theorem ints_form {w : World} {v : Value} {l : List Int} (h : Ints w v l) :
    ∃ a cap, v = .slice a l.length cap ∧ ∀ j, j < l.length → ∃ c off, a = some ⟨c, off, none⟩ ∧ w.cell? ⟨c, off + j, none⟩ = some (.int .i64 (l.getD j 0)) := by
  rcases h with ⟨h1, _, a, cap, h2⟩ | ⟨c, off, cap, h1, h3⟩
  · exact ⟨a, cap, by rw [h2, h1], fun j hj => by omega⟩
  · refine ⟨_, _, h1, fun j hj => ⟨c, off, rfl, ?_⟩⟩
    rw [h3 j (by simpa using hj)]
    simp [iCells, hj]

/-- The first place of an int. -/
def idxI (l : List Int) (x : Int) : Int := if l.contains x then (l.idxOf x : Int) else -1

theorem idxI_hit {l : List Int} {x : Int} {k : Nat} (hk : k < l.length) (h1 : ∀ y ∈ l.take k, y ≠ x) (h2 : l.getD k 0 = x) : idxI l x = k := by
  have hg : l[k] = x := by simpa [hk] using h2
  have hmem : l.contains x = true := by
    rw [List.contains_iff_mem]; exact hg ▸ List.getElem_mem hk
  unfold idxI
  rw [if_pos hmem]
  have e : l = l.take k ++ x :: l.drop (k + 1) := by
    rw [← hg, ← List.drop_eq_getElem_cons hk, List.take_append_drop]
  have : x ∉ l.take k := fun hm => h1 x hm rfl
  rw [e, List.idxOf_append, if_neg this]
  simp; omega
theorem idxI_none {l : List Int} {x : Int} (h1 : ∀ y ∈ l, y ≠ x) : idxI l x = -1 := by
  unfold idxI
  rw [if_neg]
  intro h
  rw [List.contains_iff_mem] at h
  exact h1 x h rfl

set_option maxHeartbeats 1000000 in
theorem index_any (v : Value) (l : List Int) (x : Int) (w : World) (hv : Ints w v l) (hlen : (l.length : Int) ≤ 70368744177664) :
    Calls Try.prog 51 #[v, .int .i64 x] w fun e w' => e = .returned (.int .i64 (idxI l x)) ∧ Below w.heap.size w w' := by
  obtain ⟨a, cap, rfl, hc⟩ := ints_form hv
  clear hv
  go_enter Try.func51, Try.ntmps51
  go_wp2_with fail
  go_loop [8] (fun i => ∃ k : Nat, k ≤ l.length ∧ i = .int .i64 k ∧ Kept (∀ y ∈ l.take k, y ≠ x)) (fun i => l.length - (intOf i).toNat)
  case atStart => exact ⟨0, Nat.zero_le _, rfl, keep (by simp)⟩
  case round =>
    obtain ⟨k, hk, rfl, hall⟩ := hrel
    by_cases hlt : k < l.length
    · obtain ⟨c, off, rfl, hcell⟩ := hc k hlt
      have hhit := @idxI_hit l x k hlt hall.out
      have htake : l.take (k + 1) = l.take k ++ [l.getD k 0] := by
        rw [List.take_succ_eq_append_getElem hlt]; simp [hlt]
      generalize l.getD k 0 = y at hcell hhit htake
      have HH := keep hhit
      have HT := keep htake
      clear hhit htake hc
      by_cases hxy : y = x
      · have e1 : (x == y) = true := by simp [hxy]
        go_wp2_with fail
        go_ret
        rw [HH.out hxy]
        exact ⟨rfl, Below.refl _ _⟩
      · have e1 : (x == y) = false := by simp; exact fun h => hxy h.symm
        go_wp2_with fail
        go_round
        case rel =>
          refine ⟨k + 1, by omega, by go_num, keep ?_⟩
          rw [HT.out]
          intro z hz
          rcases List.mem_append.mp hz with hz | hz
          · exact hall.out z hz
          · simp at hz; rw [hz]; exact hxy
        case measure => simp [intOf]; omega
    · have e : l.take k = l := List.take_of_length_le (by omega)
      have hn := @idxI_none l x (by have := hall.out; rw [e] at this; exact this)
      have HN := keep hn
      clear hn e
      go_wp2_with fail
      go_ret
      rw [HN.out]
      exact ⟨rfl, Below.refl _ _⟩

set_option maxHeartbeats 1000000 in
theorem contains_any (v : Value) (l : List Int) (x : Int) (w : World) (hv : Ints w v l) (hlen : (l.length : Int) ≤ 70368744177664) :
    Calls Try.prog 46 #[v, .int .i64 x] w fun e w' => e = .returned (.bool (l.contains x)) ∧ Below w.heap.size w w' := by
  have hi := index_any v l x w hv hlen
  have hd : decide (0 ≤ idxI l x) = l.contains x := by
    unfold idxI; split <;> rename_i h <;> rw [Bool.eq_iff_iff] <;> simp at h ⊢ <;> simp [h]
  generalize idxI l x = I at *
  have Hi := keep hi
  have HD := keep hd
  obtain ⟨a, cap, rfl, _⟩ := ints_form hv
  clear hi hv hd
  go_enter Try.func46, Try.ntmps46
  go_wp2_with fail
  refine Hi.out.mono ?_
  rintro e w1 ⟨rfl, hb⟩
  go_wp2_with fail
  go_ret
  rw [← HD.out]
  exact ⟨rfl, hb⟩

end Go.Proofs.Ytklpbhajmnogeaa
