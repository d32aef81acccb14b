import Derived.Test.YtigbgodbalpgdaaKBs1
import Derived.Test.YtigbgodbalpgdaaKPt1
/- node: beyond, Leaf; that a node's entries are sorted. -/
namespace Go.Proofs.Ytigbgodbalpgdaa
open Go.RowKit
attribute [local go_sem] givesF_none givesF_some evalF_tmp evalF_const evalF_global evalF_func lookL isB_bool isB_undef givesUpon_value givesUpon_skip givesUpon_enter

def beyN (bd : Bool) (hi e : En) : Bool := bd && decide (0 < cmpE e hi)

theorem beyond_any (a1 a2 : Option Addr) (n1 c1 n2 c2 : Nat) (hi e : En) (bd : Bool) (w_ : World) :
    Calls Try.prog 61 #[.agg #[.slice a1 n1 c1, .slice a2 n2 c2, .string (str hi.1), .int .i64 hi.2.1, .int .i64 hi.2.2, .bool bd], enV e] w_ fun x w' => x = .returned (.bool (beyN bd hi e)) ∧ Below w_.heap.size w_ w' := by
  have hcp := fun u => compare_any e hi u
  have hd : beyN bd hi e = (bd && decide (0 < cmpE e hi)) := rfl
  rw [hd]
  clear hd
  generalize cmpE e hi = F at *
  obtain ⟨hk, hp, hs⟩ := hi
  obtain ⟨k, p, s⟩ := e
  unfold enV at *
  dsimp only at *
  obtain ⟨w0, hw0⟩ : ∃ w0, w0 = (w_.alloc (.cells #[.slice a1 n1 c1, .slice a2 n2 c2, .string (str hk), .int .i64 hp, .int .i64 hs, .bool bd] 81)).alloc (.cells #[.string (str k), .int .i64 p, .int .i64 s] 23) := ⟨_, rfl⟩
  have hg0 : Grow w_ w0 := by subst hw0; exact ((Grow.refl w_).alloc _).alloc _
  have hO0 : Blk w0 w_.heap.size 81 [.slice a1 n1 c1, .slice a2 n2 c2, .string (str hk), .int .i64 hp, .int .i64 hs, .bool bd] := by subst hw0; exact (Blk.new w_ _ [_, _, _, _, _, _]).alloc _
  have hE0 : Blk w0 (w_.heap.size + 1) 23 [.string (str k), .int .i64 p, .int .i64 s] := by
    have := Blk.new (w_.alloc (.cells #[.slice a1 n1 c1, .slice a2 n2 c2, .string (str hk), .int .i64 hp, .int .i64 hs, .bool bd] 81)) 23 [.string (str k), .int .i64 p, .int .i64 s]
    have e : (w_.alloc (.cells #[.slice a1 n1 c1, .slice a2 n2 c2, .string (str hk), .int .i64 hp, .int .i64 hs, .bool bd] 81)).heap.size = w_.heap.size + 1 := by simp
    rw [e] at this
    subst hw0; exact this
  obtain ⟨o0, o1, o2, o3, o4, o5, _⟩ := pgres hO0
  obtain ⟨e0, e1, e2, _⟩ := enres hE0
  have HCp := keep hcp
  clear hcp hO0 hE0
  go_enter Try.func61, Try.ntmps61
  go_upto_region 1 with fail
  rw [← hw0]
  clear hw0
  cases bd with
  | false =>
    go_wp2_with fail
    go_ret
    exact ⟨rfl, hg0⟩
  | true =>
    go_wp2_with fail
    refine (HCp.out w0).mono ?_
    rintro x w1 ⟨rfl, hb1⟩
    go_wp2_with fail
    go_ret
    exact ⟨rfl, Grow.trans hg0 hb1⟩

/-- An empty leaf. -/
def leafP : Pg := ⟨0, 3, 0, 0, [], []⟩
set_option maxRecDepth 100000 in
set_option maxHeartbeats 1000000 in
theorem leaf_any (w_ : World) : Calls Try.prog 44 #[] w_ fun x w' => x = .returned (pgV leafP (.slice none 0 0)) ∧ Below w_.heap.size w_ w' := by
  obtain ⟨w0, hw0⟩ : ∃ w0, w0 = w_.alloc (.cells #[.int .i64 0, .int .i64 0, .int .i64 0, .int .i64 0, .string ⟨#[]⟩, .slice none 0 0] 39) := ⟨_, rfl⟩
  have hg0 : Grow w_ w0 := by subst hw0; exact (Grow.refl w_).alloc _
  have hR : Blk w0 w_.heap.size 39 [.int .i64 0, .int .i64 0, .int .i64 0, .int .i64 0, .string ⟨#[]⟩, .slice none 0 0] := by subst hw0; exact Blk.new w_ _ [_, _, _, _, _, _]
  have hlt := hR.lt
  obtain ⟨r0, r1, r2, r3, r4, r5, f0, f1, f2, f3, f4, f5⟩ := pgres hR
  have Hset := keep (pgset hR (.int .i64 0) (.int .i64 3) (.int .i64 0) (.int .i64 0) (.string ⟨#[]⟩) (.slice none 0 0))
  have Hbut := keep (pgbut w0 w_.heap.size (.int .i64 0) (.int .i64 3) (.int .i64 0) (.int .i64 0) (.string ⟨#[]⟩) (.slice none 0 0))
  clear hR
  go_enter Try.func44, Try.ntmps44
  go_upto_region 1 with fail
  rw [← hw0]
  clear hw0
  go_wp2_with fail
  refine bodyPost_ret (v := pgV leafP (.slice none 0 0)) ?_ rfl ⟨rfl, But.below hg0 Hbut.out (Nat.le_refl _) (Nat.le_of_lt hlt)⟩
  obtain ⟨s0, s1, s2, s3, s4, s5, _⟩ := pgres Hset.out
  simp [results, Try.results44, go_sem, s0, s1, s2, s3, s4, s5, pgV, leafP]
  try rfl

theorem okTo_at {lv : Int} {hi : En} {bd : Bool} {items : List (List UInt8)} {n : Nat} (h : okTo lv hi bd items n = true) : ∀ k, k < n → roundOk lv hi bd k (itemN lv (items.getD (k - 1) [])) (itemN lv (items.getD k [])) = true := by
  induction n with
  | zero => intro k hk; omega
  | succ n ih =>
    rw [okTo, Bool.and_eq_true] at h
    intro k hk
    by_cases e : k = n
    · rw [e]; exact h.2
    · exact ih h.1 k (by omega)
theorem round_lt {lv : Int} {hi : En} {bd : Bool} {k : Nat} {pr x : En × Int × Int} (h : roundOk lv hi bd k pr x = true) (hk : k ≠ 0) : cmpE pr.1 x.1 = -1 := by
  simp only [roundOk, Bool.and_eq_true] at h
  have := h.2.2.1
  rw [decide_eq_false hk, Bool.false_or, decide_eq_true_eq] at this
  exact (cmp_neg_iff _ _).1 this
theorem ens_sorted {P : Pg} (h : okTo P.level (hiN P) (bdN P) P.items P.items.length = true) : Sorted (ensN P) := by
  have hlen : (ensN P).length = P.items.length := ensTo_length _ _ _ (Nat.le_refl _)
  have hat : ∀ i (hi : i < (ensN P).length), (ensN P)[i] = (itemN P.level (P.items.getD i [])).1 := by
    intro i hi
    simp [ensN, ensTo, hlen ▸ hi]
  have step : ∀ i (hi : i + 1 < (ensN P).length), cmpE (ensN P)[i] (ensN P)[i + 1] = -1 := by
    intro i hi
    rw [hat, hat]
    have := round_lt (okTo_at h (i + 1) (by omega)) (by omega)
    rwa [show i + 1 - 1 = i by omega] at this
  unfold Sorted
  rw [List.pairwise_iff_getElem]
  intro i j hi hj hij
  obtain ⟨d, rfl⟩ : ∃ d, j = i + 1 + d := ⟨j - (i + 1), by omega⟩
  induction d with
  | zero => exact step i hj
  | succ d ih =>
    have h1 := ih (by omega) (by omega)
    exact cmpE_trans h1 (step (i + 1 + d) (by omega))
theorem open_sorted {P : Pg} (h : openOk P = true) : Sorted (ensN P) := by
  unfold openOk at h
  simp only [Bool.and_eq_true] at h
  exact ens_sorted h.2.1
theorem open_fine {P : Pg} (h : openOk P = true) : P.items.length ≤ 255 ∧ P.high.length ≤ 255 ∧ (∀ x ∈ P.items, x.length ≤ 512) ∧ 0 ≤ P.level ∧ P.level ≤ 255 ∧ 0 ≤ P.right := by
  unfold openOk headOk at h
  simp only [Bool.and_eq_true] at h
  exact encOk_fine h.1.1.1
theorem ensN_length (P : Pg) : (ensN P).length = P.items.length := ensTo_length _ _ _ (Nat.le_refl _)
theorem posE_le (l : List En) (t : En) : posE l t ≤ l.length := List.countP_le_length

end Go.Proofs.Ytigbgodbalpgdaa
