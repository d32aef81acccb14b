import Derived.Test.YtigbgodbalpgdaaKBits2
/- bits.Writer: texts, and its bytes. -/
namespace Go.Proofs.Ytigbgodbalpgdaa
open Go.RowKit

theorem Wr.alloc {w : World} {b : Nat} {l : List UInt8} (h : Wr w b l) (o : Obj) : Wr (w.alloc o) b l := by
  obtain ⟨v, hv, ho⟩ := h
  exact ⟨v, hv.alloc o, ho.alloc o⟩
theorem Wr.lt {w : World} {b : Nat} {l : List UInt8} (h : Wr w b l) : b < w.heap.size := by
  obtain ⟨v, hv, ho⟩ := h
  exact hv.lt

theorem Wr.grow {w w' : World} {b : Nat} {l : List UInt8} (h : Wr w b l) (hb : Below w.heap.size w w') : Wr w' b l := by
  obtain ⟨v, hv, ho⟩ := h
  refine ⟨v, hv.fits hb, ho.1, ?_⟩
  rcases ho.2 with h | ⟨g, cap, cur, h1, h2, h3, h4⟩
  · exact .inl h
  · exact .inr ⟨g, cap, cur, h1, h2, by rw [hb.block g (lt_of_block h3)]; exact h3, h4⟩

set_option maxHeartbeats 400000 in
theorem wrNum_none (b cap : Nat) (a : Option Addr) (w : World) :
    Calls Try.prog 72 #[.pointer (some ⟨b, 0, none⟩), .slice a 0 cap] w fun e w' => e = .returned (.tuple #[]) ∧ w = w' := by
  go_enter Try.func72, Try.ntmps72
  go_wp2_with fail
  refine wp_loop_rounds 1 ?_
  rw [rounds_succ]
  go_wp2_with fail
  go_end0
  exact ⟨rfl, rfl⟩

/-- A text's bytes. -/
def txt (l : List UInt8) : List UInt8 := sev l.length ++ l

theorem bcells_str (s : ByteArray) : Lib.strCells s = bcells s.data.toList := rfl

set_option maxRecDepth 100000 in
set_option maxHeartbeats 1000000 in
theorem wrText (b : Nat) (l : List UInt8) (s : ByteArray) (w : World) (h : Wr w b l) (hlen : (l.length : Int) + s.size + 10 ≤ 70368744177664) :
    Calls Try.prog 71 #[.pointer (some ⟨b, 0, none⟩), .string s] w fun e w' =>
    e = .returned (.tuple #[]) ∧ Wr w' b (l ++ txt s.data.toList) ∧ Below b w w' := by
  have hb := h.lt
  have hsz : s.data.toList.length = s.size := by simp
  have hs1 : (s.size : Int) ≤ 70368744177664 := by omega
  have H := wrNum_some b l [(s.size : Int)] w.heap.size 0 1 #[.int .i64 s.size] (0, 0) (w.alloc (.cells #[.int .i64 s.size] 3)) (h.alloc _) (by show (w.heap.push _)[_]? = _; simp)
    (by intro j hj; simp at hj; subst hj; rfl) (by intro j hj; simp at hj; subst hj; simp; omega) (by simp; omega)
  have e1 : sevs [(s.size : Int)] = sev s.data.toList.length := by rw [hsz]; simp [sevs]
  rw [e1] at H
  have H1 := keep H
  have Hl := keep hlen
  clear H e1 hsz hlen
  obtain ⟨i0, hi, hz0, hz1, hz2⟩ := info_parts infoU8
  go_enter Try.func71, Try.ntmps71
  go_wp2_with fail
  refine H1.out.mono ?_
  rintro e w2 ⟨rfl, ⟨v, hv, ho⟩, hbl⟩
  have hne := Wr.own_ne ho
  have hc0 := hv.cell 0 (by simp)
  have hl2 : ((l ++ sev s.data.toList.length).length : Int) + s.size ≤ 70368744177664 := by
    have := sev_length s.data.toList.length
    have := Hl.out
    simp only [List.length_append]; omega
  have Hl2 := keep hl2
  have hs2 := hbl.size
  clear hl2
  go_wp2_with ((at_builtin; go_must (refine Lib.wpList_append_own_string _ rfl _ _ 98 9 rfl (b + 1) 5 i0 Try.underlying98 Try.underlying9 hi hz0 hz1 hz2 _ _ _ rfl ho s rfl (by have := Hl2.out; unfold maxLen; omega) (by have := Hl2.out; omega) (by simp at hs2; omega) ?_); intro v' w1 hown' hgrow _; obtain ⟨a', cap', rfl⟩ := own_form hown'; have hv1 := wr_cell' hv hgrow hne; have hcc := hv1.cell 0 (by simp); have hff := hv1.free 0))
  go_end0
  refine ⟨rfl, ?_, ?_⟩
  · have e2 : l ++ txt s.data.toList = (l ++ sev s.data.toList.length) ++ s.data.toList := by simp [txt]
    rw [e2]
    refine wr_store hv1 ?_
    rw [bcells_append, ← bcells_str, List.length_append, show s.data.toList.length = s.size from by simp]
    simpa using hown'
  · refine ((((Below.refl _ _).alloc (by omega) _).trans hbl).grown hgrow (by simp at hs2; omega) ?_).setCell (Nat.le_refl _) _
    intro k e
    have := ho.lt k e
    omega

theorem strOfNums_bytes (l : List UInt8) : strOfNums (l.map fun c => (c.toNat : Int)) = str l := by
  unfold strOfNums str
  congr 2
  have e : ((fun n : Int => UInt8.ofNat n.toNat) ∘ fun c : UInt8 => (c.toNat : Int)) = id := by funext c; simp
  rw [List.map_map, e, List.map_id]

/-- The text of the bytes that are owned. -/
theorem own_convert {w : World} {base n : Nat} {v : Value} {l : List UInt8} (h : w.ownsRow base 5 1 v n (bcells l)) (hn : n = l.length) : (convert 98 9 v).run Try.prog w = .ok (.string (str l)) w := by
  subst hn
  have h0 := h
  obtain ⟨_, h | ⟨g, cap, cur, hv, _⟩⟩ := h
  · have : l = [] := List.length_eq_zero_iff.1 h.2
    subst this
    rw [h.1]
    exact run_convert_bytes_nil w 98 5 Try.underlying98 Try.underlying5 _ _ 9 Try.underlying9
  · subst hv
    rw [← strOfNums_bytes]
    refine run_convert_bytes_arg w 98 5 Try.underlying98 Try.underlying5 g 0 l.length cap _ (by simp) ?_ 9 Try.underlying9
    intro i hi
    rw [Nat.zero_add, h0.cellAt i (by omega)]
    simp [bcells, hi]

set_option maxHeartbeats 400000 in
theorem wrBytes (b : Nat) (l : List UInt8) (w : World) (h : Wr w b l) : Calls Try.prog 73 #[.pointer (some ⟨b, 0, none⟩)] w fun e w' =>
    e = .returned (.string (str l)) ∧ w = w' := by
  obtain ⟨v, hv, ho⟩ := h
  have hc0 := hv.cell 0 (by simp)
  have hcv := own_convert ho rfl
  go_enter Try.func73, Try.ntmps73
  go_wp2_with fail
  go_ret
  exact ⟨rfl, rfl⟩

end Go.Proofs.Ytigbgodbalpgdaa
