
import Derived.Test.YtikmkimkhngihaaGreatKVc1
import Derived.Test.YtikmkimkhngihaaGreatKVq5
import Derived.Test.YtikmkimkhngihaaGreatKSnap3
import Derived.Test.YtikmkimkhngihaaGreatKLexf
/- The document's versions as bytes: Encode. -/
namespace Go.Proofs.YtikmkimkhngihaaGreat
open Go.RowKit
attribute [local go_sem] givesF_none givesF_some evalF_tmp evalF_const evalF_global evalF_func lookL isB_bool isB_undef givesUpon_value givesUpon_skip givesUpon_enter

theorem txt_le (l : List UInt8) : (txt l).length ≤ 10 + l.length := by
  have := sev_length l.length
  simp only [txt, List.length_append]; omega

set_option maxHeartbeats 1000000 in
theorem renc_bad (xmin xmax : Int) (frozen : Bool) (key val : ByteArray) (w : World) (h : tupOk xmin xmax key val = false) :
    Calls Tryz.prog 58 #[.agg #[.int .i64 xmin, .int .i64 xmax, .bool frozen, .string key, .string val]] w fun e w' =>
    e = .returned (.tuple #[.string (str []), .int .i64 110]) ∧ Below w.heap.size w w' := by
  have hor : xmin < 1 ∨ 1024 < xmin ∨ xmax < 0 ∨ 1024 < xmax ∨ fitsB key = false ∨ 64 < val.size := by
    unfold tupOk at h
    simp only [Bool.and_eq_false_iff, decide_eq_false_iff_not] at h
    rcases h with ((((h | h) | h) | h) | h) | h
    · exact .inl (by omega)
    · exact .inr (.inl (by omega))
    · exact .inr (.inr (.inl (by omega)))
    · exact .inr (.inr (.inr (.inl (by omega))))
    · exact .inr (.inr (.inr (.inr (.inl h))))
    · exact .inr (.inr (.inr (.inr (.inr (by omega)))))
  clear h
  have hend : Below w.heap.size w (w.alloc (.cells #[.int .i64 xmin, .int .i64 xmax, .bool frozen, .string key, .string val] 61)) := (Below.refl _ _).alloc (Nat.le_refl _) _
  have Hend := keep hend
  clear hend
  by_cases h1 : xmin < 1
  · clear hor
    go_enter Tryz.func58, Tryz.ntmps58
    go_wp2_with fail
    go_ret2
    exact ⟨rfl, Hend.out⟩
  by_cases h2 : 1024 < xmin
  · clear hor
    go_enter Tryz.func58, Tryz.ntmps58
    go_wp2_with fail
    go_ret2
    exact ⟨rfl, Hend.out⟩
  by_cases h3 : xmax < 0
  · clear hor
    go_enter Tryz.func58, Tryz.ntmps58
    go_wp2_with fail
    go_ret2
    exact ⟨rfl, Hend.out⟩
  by_cases h4 : 1024 < xmax
  · clear hor
    go_enter Tryz.func58, Tryz.ntmps58
    go_wp2_with fail
    go_ret2
    exact ⟨rfl, Hend.out⟩
  have hor2 : fitsB key = false ∨ 64 < val.size := by
    rcases hor with h | h | h | h | h | h
    · omega
    · omega
    · omega
    · omega
    · exact .inl h
    · exact .inr h
  clear hor
  have hr := fun (u : World) => rright_any key u
  by_cases h5 : fitsB key = false
  · clear hor2
    rw [h5] at hr
    go_enter Tryz.func58, Tryz.ntmps58
    go_wp2_with (go_at_call 73; refine (hr _).mono ?_; rintro e w' ⟨rfl, rfl⟩)
    go_ret2
    exact ⟨rfl, Hend.out⟩
  · have h6 : 64 < val.size := by rcases hor2 with h | h; exact absurd h h5; exact h
    have h5' : fitsB key = true := by simpa using h5
    clear hor2 h5
    rw [h5'] at hr
    go_enter Tryz.func58, Tryz.ntmps58
    go_wp2_with (go_at_call 73; refine (hr _).mono ?_; rintro e w' ⟨rfl, rfl⟩)
    go_ret2
    exact ⟨rfl, Hend.out⟩

set_option maxRecDepth 100000 in
set_option maxHeartbeats 1000000 in
theorem renc_false (xmin xmax : Nat) (key val : List UInt8) (w_ : World) (h : tupOk xmin xmax (str key) (str val) = true) :
    Calls Tryz.prog 58 #[.agg #[.int .i64 xmin, .int .i64 xmax, .bool false, .string (str key), .string (str val)]] w_ fun e w' =>
    e = .returned (.tuple #[.string (str (tupS xmin xmax false key val)), .int .i64 0]) ∧ Below w_.heap.size w_ w' := by
  simp only [tupOk, Bool.and_eq_true, decide_eq_true_eq] at h
  obtain ⟨⟨⟨⟨⟨h1, h2⟩, h3⟩, h4⟩, h5⟩, h7⟩ := h
  have h6 : key.length ≤ 24 := by
    simp only [fitsB, Bool.and_eq_true, decide_eq_true_eq] at h5
    exact h5.2
  have h8 : val.length ≤ 64 := h7
  have hr := fun (u : World) => rright_any (str key) u
  rw [h5] at hr
  have q1 : ¬ (xmin : Int) < 1 := by omega
  have q2 : ¬ 1024 < (xmin : Int) := by omega
  have q3 : ¬ (xmax : Int) < 0 := by omega
  have q4 : ¬ 1024 < (xmax : Int) := by omega
  have q5 : ¬ 64 < (val.length : Int) := by omega
  obtain ⟨w0, hw0⟩ : ∃ w0, w0 = w_.alloc (.cells #[.int .i64 xmin, .int .i64 xmax, .bool false, .string (str key), .string (str val)] 61) := ⟨_, rfl⟩
  have hg0 : Grow w_ w0 := by subst hw0; exact (Grow.refl w_).alloc _
  have hB0 : Blk w0 w_.heap.size 61 [.int .i64 xmin, .int .i64 xmax, .bool false, .string (str key), .string (str val)] := by subst hw0; exact Blk.new w_ _ [_, _, _, _, _]
  have hs : str [1] ++ str (bigS xmin 2) ++ str (bigS xmax 2) ++ str (txt key) ++ str (txt val) = str (tupS xmin xmax false key val) := by
    have e : bigS 1 1 = [1] := by decide +kernel
    simp [tupS, e, str_app]
  have hone : (⟨#[1]⟩ : ByteArray) = str [1] := rfl
  obtain ⟨d0, d1, d2, d3, d4⟩ := tures hB0
  have HD := keep hs
  have HO := keep hone
  have HX := keep (show xmin < 65536 by omega)
  have HY := keep (show xmax < 65536 by omega)
  have HKl := keep h6
  have HVl := keep h8
  have HE := keep (fun (u : World) (hu : Grow w0.drew u) => tures (hB0.fits (Grow.undrew hu)))
  clear hs hone hB0 h6 h8 h1 h2 h3 h4 h5 h7
  go_enter Tryz.func58, Tryz.ntmps58
  go_upto_region 1 with fail
  rw [← hw0]
  clear hw0
  go_upto_region 6 with (go_at_call 73; refine (hr _).mono ?_; rintro e w' ⟨rfl, rfl⟩)
  clear d0 d1 d2 d3 d4 hr q1 q2 q3 q4 q5
  rw [HO.out]
  refine wp_region_grow_named (by kernel_rfl) 17 (by kernel_rfl) [(37, 0), (38, 1), (39, 2), (40, 3), (41, 4), (42, 5), (43, 6), (44, 7), (45, 8), (46, 9), (47, 10), (48, 11), (49, 12), (50, 13), (51, 14), (52, 15), (53, 16)] (by kernel_rfl) [(0, true), (1, true), (2, true), (3, true), (4, true), (5, true), (6, true), (7, true), (8, true), (9, true), (10, true), (11, true), (12, true), (13, true), (14, true), (15, true), (16, true)] (by kernel_rfl) rfl rfl ?_
  intro a0 ha0
  have hsz : a0.tmps.size = 54 := (size_at ha0).trans rfl
  have s1 := slot_at ha0 1 rfl
  have s4 := slot_at ha0 4 rfl
  have HA0 := keep ha0
  clear ha0
  -- operation 0
  apply lexf_eq hsz [] [(38, 1), (39, 2), (40, 3), (42, 5), (43, 6), (44, 7), (45, 8), (46, 9), (47, 10), (48, 11), (49, 12), (50, 13), (51, 14), (52, 15), (53, 16)] none (by kernel_rfl) (by kernel_rfl) (by kernel_rfl) (by kernel_rfl) rfl
  · intro xs w hw hp K hK
    go_simp
    exact hK _ (Grow.refl _)
  -- operation 1
  apply lexf_eq hsz [] [(37, 0), (40, 3), (41, 4), (42, 5), (43, 6), (44, 7), (45, 8), (46, 9), (47, 10), (48, 11), (49, 12), (50, 13), (51, 14), (52, 15), (53, 16)] none (by kernel_rfl) (by kernel_rfl) (by kernel_rfl) (by kernel_rfl) rfl
  · intro xs w hw hp K hK
    go_simp
    exact hK _ (Grow.refl _)
  -- operation 2
  apply lexf_eq hsz [(1, true)] [(37, 0), (38, 1), (41, 4), (42, 5), (43, 6), (44, 7), (45, 8), (46, 9), (47, 10), (48, 11), (49, 12), (50, 13), (51, 14), (52, 15), (53, 16)] none (by kernel_rfl) (by kernel_rfl) (by kernel_rfl) (by kernel_rfl) rfl
  · intro xs w hw hp K hK
    simp only [holdsL, List.nil_append, List.cons_append, List.getD_cons_succ, List.getD_cons_zero, if_true, and_true] at hp
    obtain ⟨c0, c1, c2, c3, c4⟩ := HE.out w hw
    go_simp
    exact hK _ (Grow.refl _)
  -- operation 3
  apply lexf_eq hsz [(2, true)] [(37, 0), (38, 1), (39, 2), (42, 5), (43, 6), (45, 8), (46, 9), (47, 10), (48, 11), (49, 12), (50, 13), (51, 14), (52, 15), (53, 16)] none (by kernel_rfl) (by kernel_rfl) (by kernel_rfl) (by kernel_rfl) rfl
  · intro xs w hw hp K hK
    simp only [holdsL, List.nil_append, List.cons_append, List.getD_cons_succ, List.getD_cons_zero, if_true, and_true] at hp
    go_simp
    exact (rbig_two xmin w (by have := HX.out; omega)).mono fun e w' h => ⟨_, h.1, hK _ h.2⟩
  -- operation 4
  apply lexf_eq hsz [(0, true), (3, true)] [(37, 0), (38, 1), (39, 2), (40, 3), (42, 5), (43, 6), (44, 7), (46, 9), (47, 10), (48, 11), (49, 12), (50, 13), (51, 14), (52, 15), (53, 16)] none (by kernel_rfl) (by kernel_rfl) (by kernel_rfl) (by kernel_rfl) rfl
  · intro xs w hw hp K hK
    simp only [holdsL, List.nil_append, List.cons_append, List.getD_cons_succ, List.getD_cons_zero, if_true, and_true] at hp
    have hlt : ¬ 9223372036854775807 < 1 + (bigS xmin 2).length := by
      have hl1 := HKl.out
      have hl2 := HVl.out
      have hl3 := txt_le key
      have hl4 := txt_le val
      have hl5 := bigS_length xmin 2
      have hl6 := bigS_length xmax 2
      omega
    go_simp
    exact hK _ (Grow.refl _)
  -- operation 5
  apply lexf_eq hsz [] [(37, 0), (38, 1), (39, 2), (40, 3), (41, 4), (44, 7), (45, 8), (46, 9), (47, 10), (48, 11), (49, 12), (50, 13), (51, 14), (52, 15), (53, 16)] none (by kernel_rfl) (by kernel_rfl) (by kernel_rfl) (by kernel_rfl) rfl
  · intro xs w hw hp K hK
    go_simp
    exact hK _ (Grow.refl _)
  -- operation 6
  apply lexf_eq hsz [(5, true)] [(37, 0), (38, 1), (39, 2), (40, 3), (41, 4), (42, 5), (45, 8), (46, 9), (47, 10), (48, 11), (49, 12), (50, 13), (51, 14), (52, 15), (53, 16)] none (by kernel_rfl) (by kernel_rfl) (by kernel_rfl) (by kernel_rfl) rfl
  · intro xs w hw hp K hK
    simp only [holdsL, List.nil_append, List.cons_append, List.getD_cons_succ, List.getD_cons_zero, if_true, and_true] at hp
    obtain ⟨c0, c1, c2, c3, c4⟩ := HE.out w hw
    go_simp
    exact hK _ (Grow.refl _)
  -- operation 7
  apply lexf_eq hsz [(6, true)] [(37, 0), (38, 1), (39, 2), (40, 3), (41, 4), (42, 5), (43, 6), (46, 9), (47, 10), (49, 12), (50, 13), (51, 14), (52, 15), (53, 16)] none (by kernel_rfl) (by kernel_rfl) (by kernel_rfl) (by kernel_rfl) rfl
  · intro xs w hw hp K hK
    simp only [holdsL, List.nil_append, List.cons_append, List.getD_cons_succ, List.getD_cons_zero, if_true, and_true] at hp
    go_simp
    exact (rbig_two xmax w (by have := HY.out; omega)).mono fun e w' h => ⟨_, h.1, hK _ h.2⟩
  -- operation 8
  apply lexf_eq hsz [(4, true), (7, true)] [(37, 0), (38, 1), (39, 2), (40, 3), (41, 4), (42, 5), (43, 6), (44, 7), (46, 9), (47, 10), (48, 11), (50, 13), (51, 14), (52, 15), (53, 16)] none (by kernel_rfl) (by kernel_rfl) (by kernel_rfl) (by kernel_rfl) rfl
  · intro xs w hw hp K hK
    simp only [holdsL, List.nil_append, List.cons_append, List.getD_cons_succ, List.getD_cons_zero, if_true, and_true] at hp
    have hlt : ¬ 9223372036854775807 < 1 + (bigS xmin 2).length + (bigS xmax 2).length := by
      have hl1 := HKl.out
      have hl2 := HVl.out
      have hl3 := txt_le key
      have hl4 := txt_le val
      have hl5 := bigS_length xmin 2
      have hl6 := bigS_length xmax 2
      omega
    go_simp
    exact hK _ (Grow.refl _)
  -- operation 9
  apply lexf_eq hsz [] [(37, 0), (38, 1), (39, 2), (40, 3), (41, 4), (42, 5), (43, 6), (44, 7), (45, 8), (48, 11), (49, 12), (50, 13), (51, 14), (52, 15), (53, 16)] none (by kernel_rfl) (by kernel_rfl) (by kernel_rfl) (by kernel_rfl) rfl
  · intro xs w hw hp K hK
    go_simp
    exact hK _ (Grow.refl _)
  -- operation 10
  apply lexf_eq hsz [(9, true)] [(37, 0), (38, 1), (39, 2), (40, 3), (41, 4), (42, 5), (43, 6), (44, 7), (45, 8), (46, 9), (49, 12), (50, 13), (51, 14), (52, 15), (53, 16)] none (by kernel_rfl) (by kernel_rfl) (by kernel_rfl) (by kernel_rfl) rfl
  · intro xs w hw hp K hK
    simp only [holdsL, List.nil_append, List.cons_append, List.getD_cons_succ, List.getD_cons_zero, if_true, and_true] at hp
    obtain ⟨c0, c1, c2, c3, c4⟩ := HE.out w hw
    go_simp
    exact hK _ (Grow.refl _)
  -- operation 11
  apply lexf_eq hsz [(10, true)] [(37, 0), (38, 1), (39, 2), (40, 3), (41, 4), (42, 5), (43, 6), (44, 7), (45, 8), (46, 9), (47, 10), (50, 13), (51, 14), (53, 16)] none (by kernel_rfl) (by kernel_rfl) (by kernel_rfl) (by kernel_rfl) rfl
  · intro xs w hw hp K hK
    simp only [holdsL, List.nil_append, List.cons_append, List.getD_cons_succ, List.getD_cons_zero, if_true, and_true] at hp
    go_simp
    exact (rtext_any key w (by have := HKl.out; omega)).mono fun e w' h => ⟨_, h.1, hK _ h.2⟩
  -- operation 12
  apply lexf_eq hsz [(8, true), (11, true)] [(37, 0), (38, 1), (39, 2), (40, 3), (41, 4), (42, 5), (43, 6), (44, 7), (45, 8), (46, 9), (47, 10), (48, 11), (50, 13), (51, 14), (52, 15)] none (by kernel_rfl) (by kernel_rfl) (by kernel_rfl) (by kernel_rfl) rfl
  · intro xs w hw hp K hK
    simp only [holdsL, List.nil_append, List.cons_append, List.getD_cons_succ, List.getD_cons_zero, if_true, and_true] at hp
    have hlt : ¬ 9223372036854775807 < 1 + (bigS xmin 2).length + (bigS xmax 2).length + (txt key).length := by
      have hl1 := HKl.out
      have hl2 := HVl.out
      have hl3 := txt_le key
      have hl4 := txt_le val
      have hl5 := bigS_length xmin 2
      have hl6 := bigS_length xmax 2
      omega
    go_simp
    exact hK _ (Grow.refl _)
  -- operation 13
  apply lexf_eq hsz [] [(37, 0), (38, 1), (39, 2), (40, 3), (41, 4), (42, 5), (43, 6), (44, 7), (45, 8), (46, 9), (47, 10), (48, 11), (49, 12), (52, 15), (53, 16)] none (by kernel_rfl) (by kernel_rfl) (by kernel_rfl) (by kernel_rfl) rfl
  · intro xs w hw hp K hK
    go_simp
    exact hK _ (Grow.refl _)
  -- operation 14
  apply lexf_eq hsz [(13, true)] [(37, 0), (38, 1), (39, 2), (40, 3), (41, 4), (42, 5), (43, 6), (44, 7), (45, 8), (46, 9), (47, 10), (48, 11), (49, 12), (50, 13), (53, 16)] none (by kernel_rfl) (by kernel_rfl) (by kernel_rfl) (by kernel_rfl) rfl
  · intro xs w hw hp K hK
    simp only [holdsL, List.nil_append, List.cons_append, List.getD_cons_succ, List.getD_cons_zero, if_true, and_true] at hp
    obtain ⟨c0, c1, c2, c3, c4⟩ := HE.out w hw
    go_simp
    exact hK _ (Grow.refl _)
  -- operation 15
  apply lexf_eq hsz [(14, true)] [(37, 0), (38, 1), (39, 2), (40, 3), (41, 4), (42, 5), (43, 6), (44, 7), (45, 8), (46, 9), (47, 10), (48, 11), (49, 12), (50, 13), (51, 14)] none (by kernel_rfl) (by kernel_rfl) (by kernel_rfl) (by kernel_rfl) rfl
  · intro xs w hw hp K hK
    simp only [holdsL, List.nil_append, List.cons_append, List.getD_cons_succ, List.getD_cons_zero, if_true, and_true] at hp
    go_simp
    exact (rtext_any val w (by have := HVl.out; omega)).mono fun e w' h => ⟨_, h.1, hK _ h.2⟩
  -- operation 16
  apply lexf_eq hsz [(12, true), (15, true)] [(37, 0), (38, 1), (39, 2), (40, 3), (41, 4), (42, 5), (43, 6), (44, 7), (45, 8), (46, 9), (47, 10), (48, 11), (49, 12), (50, 13), (51, 14), (52, 15)] none (by kernel_rfl) (by kernel_rfl) (by kernel_rfl) (by kernel_rfl) rfl
  · intro xs w hw hp K hK
    simp only [holdsL, List.nil_append, List.cons_append, List.getD_cons_succ, List.getD_cons_zero, if_true, and_true] at hp
    have hlt : ¬ 9223372036854775807 < 1 + (bigS xmin 2).length + (bigS xmax 2).length + (txt key).length + (txt val).length := by
      have hl1 := HKl.out
      have hl2 := HVl.out
      have hl3 := txt_le key
      have hl4 := txt_le val
      have hl5 := bigS_length xmin 2
      have hl6 := bigS_length xmax 2
      omega
    go_simp
    exact hK _ (Grow.refl _)
  intro xs w hw hp
  have ha0 := HA0.out
  clear HA0 hsz s1 s4
  simp only [holdsL, List.nil_append, List.cons_append, List.getD_cons_succ, List.getD_cons_zero, if_true, and_true] at hp
  have h16 := hp.2.2.2.2.2.2.2.2.2.2.2.2.2.2.2.2
  clear hp
  subst ha0
  simp only [putAll, h16]
  have hG := Grow.trans hg0 hw.undrew
  clear hw h16
  go_wp2_with fail
  go_ret2
  rw [HD.out]
  exact ⟨rfl, hG⟩

set_option maxRecDepth 100000 in
set_option maxHeartbeats 1000000 in
theorem renc_true (xmin xmax : Nat) (key val : List UInt8) (w_ : World) (h : tupOk xmin xmax (str key) (str val) = true) :
    Calls Tryz.prog 58 #[.agg #[.int .i64 xmin, .int .i64 xmax, .bool true, .string (str key), .string (str val)]] w_ fun e w' =>
    e = .returned (.tuple #[.string (str (tupS xmin xmax true key val)), .int .i64 0]) ∧ Below w_.heap.size w_ w' := by
  simp only [tupOk, Bool.and_eq_true, decide_eq_true_eq] at h
  obtain ⟨⟨⟨⟨⟨h1, h2⟩, h3⟩, h4⟩, h5⟩, h7⟩ := h
  have h6 : key.length ≤ 24 := by
    simp only [fitsB, Bool.and_eq_true, decide_eq_true_eq] at h5
    exact h5.2
  have h8 : val.length ≤ 64 := h7
  have hr := fun (u : World) => rright_any (str key) u
  rw [h5] at hr
  have q1 : ¬ (xmin : Int) < 1 := by omega
  have q2 : ¬ 1024 < (xmin : Int) := by omega
  have q3 : ¬ (xmax : Int) < 0 := by omega
  have q4 : ¬ 1024 < (xmax : Int) := by omega
  have q5 : ¬ 64 < (val.length : Int) := by omega
  obtain ⟨w0, hw0⟩ : ∃ w0, w0 = w_.alloc (.cells #[.int .i64 xmin, .int .i64 xmax, .bool true, .string (str key), .string (str val)] 61) := ⟨_, rfl⟩
  have hg0 : Grow w_ w0 := by subst hw0; exact (Grow.refl w_).alloc _
  have hB0 : Blk w0 w_.heap.size 61 [.int .i64 xmin, .int .i64 xmax, .bool true, .string (str key), .string (str val)] := by subst hw0; exact Blk.new w_ _ [_, _, _, _, _]
  have hs : str [3] ++ str (bigS xmin 2) ++ str (bigS xmax 2) ++ str (txt key) ++ str (txt val) = str (tupS xmin xmax true key val) := by
    have e : bigS 3 1 = [3] := by decide +kernel
    simp [tupS, e, str_app]
  have hone : (⟨#[3]⟩ : ByteArray) = str [3] := rfl
  obtain ⟨d0, d1, d2, d3, d4⟩ := tures hB0
  have HD := keep hs
  have HO := keep hone
  have HX := keep (show xmin < 65536 by omega)
  have HY := keep (show xmax < 65536 by omega)
  have HKl := keep h6
  have HVl := keep h8
  have HE := keep (fun (u : World) (hu : Grow w0.drew u) => tures (hB0.fits (Grow.undrew hu)))
  clear hs hone hB0 h6 h8 h1 h2 h3 h4 h5 h7
  go_enter Tryz.func58, Tryz.ntmps58
  go_upto_region 1 with fail
  rw [← hw0]
  clear hw0
  go_upto_region 6 with (go_at_call 73; refine (hr _).mono ?_; rintro e w' ⟨rfl, rfl⟩)
  clear d0 d1 d2 d3 d4 hr q1 q2 q3 q4 q5
  rw [HO.out]
  refine wp_region_grow_named (by kernel_rfl) 17 (by kernel_rfl) [(37, 0), (38, 1), (39, 2), (40, 3), (41, 4), (42, 5), (43, 6), (44, 7), (45, 8), (46, 9), (47, 10), (48, 11), (49, 12), (50, 13), (51, 14), (52, 15), (53, 16)] (by kernel_rfl) [(0, true), (1, true), (2, true), (3, true), (4, true), (5, true), (6, true), (7, true), (8, true), (9, true), (10, true), (11, true), (12, true), (13, true), (14, true), (15, true), (16, true)] (by kernel_rfl) rfl rfl ?_
  intro a0 ha0
  have hsz : a0.tmps.size = 54 := (size_at ha0).trans rfl
  have s1 := slot_at ha0 1 rfl
  have s4 := slot_at ha0 4 rfl
  have HA0 := keep ha0
  clear ha0
  -- operation 0
  apply lexf_eq hsz [] [(38, 1), (39, 2), (40, 3), (42, 5), (43, 6), (44, 7), (45, 8), (46, 9), (47, 10), (48, 11), (49, 12), (50, 13), (51, 14), (52, 15), (53, 16)] none (by kernel_rfl) (by kernel_rfl) (by kernel_rfl) (by kernel_rfl) rfl
  · intro xs w hw hp K hK
    go_simp
    exact hK _ (Grow.refl _)
  -- operation 1
  apply lexf_eq hsz [] [(37, 0), (40, 3), (41, 4), (42, 5), (43, 6), (44, 7), (45, 8), (46, 9), (47, 10), (48, 11), (49, 12), (50, 13), (51, 14), (52, 15), (53, 16)] none (by kernel_rfl) (by kernel_rfl) (by kernel_rfl) (by kernel_rfl) rfl
  · intro xs w hw hp K hK
    go_simp
    exact hK _ (Grow.refl _)
  -- operation 2
  apply lexf_eq hsz [(1, true)] [(37, 0), (38, 1), (41, 4), (42, 5), (43, 6), (44, 7), (45, 8), (46, 9), (47, 10), (48, 11), (49, 12), (50, 13), (51, 14), (52, 15), (53, 16)] none (by kernel_rfl) (by kernel_rfl) (by kernel_rfl) (by kernel_rfl) rfl
  · intro xs w hw hp K hK
    simp only [holdsL, List.nil_append, List.cons_append, List.getD_cons_succ, List.getD_cons_zero, if_true, and_true] at hp
    obtain ⟨c0, c1, c2, c3, c4⟩ := HE.out w hw
    go_simp
    exact hK _ (Grow.refl _)
  -- operation 3
  apply lexf_eq hsz [(2, true)] [(37, 0), (38, 1), (39, 2), (42, 5), (43, 6), (45, 8), (46, 9), (47, 10), (48, 11), (49, 12), (50, 13), (51, 14), (52, 15), (53, 16)] none (by kernel_rfl) (by kernel_rfl) (by kernel_rfl) (by kernel_rfl) rfl
  · intro xs w hw hp K hK
    simp only [holdsL, List.nil_append, List.cons_append, List.getD_cons_succ, List.getD_cons_zero, if_true, and_true] at hp
    go_simp
    exact (rbig_two xmin w (by have := HX.out; omega)).mono fun e w' h => ⟨_, h.1, hK _ h.2⟩
  -- operation 4
  apply lexf_eq hsz [(0, true), (3, true)] [(37, 0), (38, 1), (39, 2), (40, 3), (42, 5), (43, 6), (44, 7), (46, 9), (47, 10), (48, 11), (49, 12), (50, 13), (51, 14), (52, 15), (53, 16)] none (by kernel_rfl) (by kernel_rfl) (by kernel_rfl) (by kernel_rfl) rfl
  · intro xs w hw hp K hK
    simp only [holdsL, List.nil_append, List.cons_append, List.getD_cons_succ, List.getD_cons_zero, if_true, and_true] at hp
    have hlt : ¬ 9223372036854775807 < 1 + (bigS xmin 2).length := by
      have hl1 := HKl.out
      have hl2 := HVl.out
      have hl3 := txt_le key
      have hl4 := txt_le val
      have hl5 := bigS_length xmin 2
      have hl6 := bigS_length xmax 2
      omega
    go_simp
    exact hK _ (Grow.refl _)
  -- operation 5
  apply lexf_eq hsz [] [(37, 0), (38, 1), (39, 2), (40, 3), (41, 4), (44, 7), (45, 8), (46, 9), (47, 10), (48, 11), (49, 12), (50, 13), (51, 14), (52, 15), (53, 16)] none (by kernel_rfl) (by kernel_rfl) (by kernel_rfl) (by kernel_rfl) rfl
  · intro xs w hw hp K hK
    go_simp
    exact hK _ (Grow.refl _)
  -- operation 6
  apply lexf_eq hsz [(5, true)] [(37, 0), (38, 1), (39, 2), (40, 3), (41, 4), (42, 5), (45, 8), (46, 9), (47, 10), (48, 11), (49, 12), (50, 13), (51, 14), (52, 15), (53, 16)] none (by kernel_rfl) (by kernel_rfl) (by kernel_rfl) (by kernel_rfl) rfl
  · intro xs w hw hp K hK
    simp only [holdsL, List.nil_append, List.cons_append, List.getD_cons_succ, List.getD_cons_zero, if_true, and_true] at hp
    obtain ⟨c0, c1, c2, c3, c4⟩ := HE.out w hw
    go_simp
    exact hK _ (Grow.refl _)
  -- operation 7
  apply lexf_eq hsz [(6, true)] [(37, 0), (38, 1), (39, 2), (40, 3), (41, 4), (42, 5), (43, 6), (46, 9), (47, 10), (49, 12), (50, 13), (51, 14), (52, 15), (53, 16)] none (by kernel_rfl) (by kernel_rfl) (by kernel_rfl) (by kernel_rfl) rfl
  · intro xs w hw hp K hK
    simp only [holdsL, List.nil_append, List.cons_append, List.getD_cons_succ, List.getD_cons_zero, if_true, and_true] at hp
    go_simp
    exact (rbig_two xmax w (by have := HY.out; omega)).mono fun e w' h => ⟨_, h.1, hK _ h.2⟩
  -- operation 8
  apply lexf_eq hsz [(4, true), (7, true)] [(37, 0), (38, 1), (39, 2), (40, 3), (41, 4), (42, 5), (43, 6), (44, 7), (46, 9), (47, 10), (48, 11), (50, 13), (51, 14), (52, 15), (53, 16)] none (by kernel_rfl) (by kernel_rfl) (by kernel_rfl) (by kernel_rfl) rfl
  · intro xs w hw hp K hK
    simp only [holdsL, List.nil_append, List.cons_append, List.getD_cons_succ, List.getD_cons_zero, if_true, and_true] at hp
    have hlt : ¬ 9223372036854775807 < 1 + (bigS xmin 2).length + (bigS xmax 2).length := by
      have hl1 := HKl.out
      have hl2 := HVl.out
      have hl3 := txt_le key
      have hl4 := txt_le val
      have hl5 := bigS_length xmin 2
      have hl6 := bigS_length xmax 2
      omega
    go_simp
    exact hK _ (Grow.refl _)
  -- operation 9
  apply lexf_eq hsz [] [(37, 0), (38, 1), (39, 2), (40, 3), (41, 4), (42, 5), (43, 6), (44, 7), (45, 8), (48, 11), (49, 12), (50, 13), (51, 14), (52, 15), (53, 16)] none (by kernel_rfl) (by kernel_rfl) (by kernel_rfl) (by kernel_rfl) rfl
  · intro xs w hw hp K hK
    go_simp
    exact hK _ (Grow.refl _)
  -- operation 10
  apply lexf_eq hsz [(9, true)] [(37, 0), (38, 1), (39, 2), (40, 3), (41, 4), (42, 5), (43, 6), (44, 7), (45, 8), (46, 9), (49, 12), (50, 13), (51, 14), (52, 15), (53, 16)] none (by kernel_rfl) (by kernel_rfl) (by kernel_rfl) (by kernel_rfl) rfl
  · intro xs w hw hp K hK
    simp only [holdsL, List.nil_append, List.cons_append, List.getD_cons_succ, List.getD_cons_zero, if_true, and_true] at hp
    obtain ⟨c0, c1, c2, c3, c4⟩ := HE.out w hw
    go_simp
    exact hK _ (Grow.refl _)
  -- operation 11
  apply lexf_eq hsz [(10, true)] [(37, 0), (38, 1), (39, 2), (40, 3), (41, 4), (42, 5), (43, 6), (44, 7), (45, 8), (46, 9), (47, 10), (50, 13), (51, 14), (53, 16)] none (by kernel_rfl) (by kernel_rfl) (by kernel_rfl) (by kernel_rfl) rfl
  · intro xs w hw hp K hK
    simp only [holdsL, List.nil_append, List.cons_append, List.getD_cons_succ, List.getD_cons_zero, if_true, and_true] at hp
    go_simp
    exact (rtext_any key w (by have := HKl.out; omega)).mono fun e w' h => ⟨_, h.1, hK _ h.2⟩
  -- operation 12
  apply lexf_eq hsz [(8, true), (11, true)] [(37, 0), (38, 1), (39, 2), (40, 3), (41, 4), (42, 5), (43, 6), (44, 7), (45, 8), (46, 9), (47, 10), (48, 11), (50, 13), (51, 14), (52, 15)] none (by kernel_rfl) (by kernel_rfl) (by kernel_rfl) (by kernel_rfl) rfl
  · intro xs w hw hp K hK
    simp only [holdsL, List.nil_append, List.cons_append, List.getD_cons_succ, List.getD_cons_zero, if_true, and_true] at hp
    have hlt : ¬ 9223372036854775807 < 1 + (bigS xmin 2).length + (bigS xmax 2).length + (txt key).length := by
      have hl1 := HKl.out
      have hl2 := HVl.out
      have hl3 := txt_le key
      have hl4 := txt_le val
      have hl5 := bigS_length xmin 2
      have hl6 := bigS_length xmax 2
      omega
    go_simp
    exact hK _ (Grow.refl _)
  -- operation 13
  apply lexf_eq hsz [] [(37, 0), (38, 1), (39, 2), (40, 3), (41, 4), (42, 5), (43, 6), (44, 7), (45, 8), (46, 9), (47, 10), (48, 11), (49, 12), (52, 15), (53, 16)] none (by kernel_rfl) (by kernel_rfl) (by kernel_rfl) (by kernel_rfl) rfl
  · intro xs w hw hp K hK
    go_simp
    exact hK _ (Grow.refl _)
  -- operation 14
  apply lexf_eq hsz [(13, true)] [(37, 0), (38, 1), (39, 2), (40, 3), (41, 4), (42, 5), (43, 6), (44, 7), (45, 8), (46, 9), (47, 10), (48, 11), (49, 12), (50, 13), (53, 16)] none (by kernel_rfl) (by kernel_rfl) (by kernel_rfl) (by kernel_rfl) rfl
  · intro xs w hw hp K hK
    simp only [holdsL, List.nil_append, List.cons_append, List.getD_cons_succ, List.getD_cons_zero, if_true, and_true] at hp
    obtain ⟨c0, c1, c2, c3, c4⟩ := HE.out w hw
    go_simp
    exact hK _ (Grow.refl _)
  -- operation 15
  apply lexf_eq hsz [(14, true)] [(37, 0), (38, 1), (39, 2), (40, 3), (41, 4), (42, 5), (43, 6), (44, 7), (45, 8), (46, 9), (47, 10), (48, 11), (49, 12), (50, 13), (51, 14)] none (by kernel_rfl) (by kernel_rfl) (by kernel_rfl) (by kernel_rfl) rfl
  · intro xs w hw hp K hK
    simp only [holdsL, List.nil_append, List.cons_append, List.getD_cons_succ, List.getD_cons_zero, if_true, and_true] at hp
    go_simp
    exact (rtext_any val w (by have := HVl.out; omega)).mono fun e w' h => ⟨_, h.1, hK _ h.2⟩
  -- operation 16
  apply lexf_eq hsz [(12, true), (15, true)] [(37, 0), (38, 1), (39, 2), (40, 3), (41, 4), (42, 5), (43, 6), (44, 7), (45, 8), (46, 9), (47, 10), (48, 11), (49, 12), (50, 13), (51, 14), (52, 15)] none (by kernel_rfl) (by kernel_rfl) (by kernel_rfl) (by kernel_rfl) rfl
  · intro xs w hw hp K hK
    simp only [holdsL, List.nil_append, List.cons_append, List.getD_cons_succ, List.getD_cons_zero, if_true, and_true] at hp
    have hlt : ¬ 9223372036854775807 < 1 + (bigS xmin 2).length + (bigS xmax 2).length + (txt key).length + (txt val).length := by
      have hl1 := HKl.out
      have hl2 := HVl.out
      have hl3 := txt_le key
      have hl4 := txt_le val
      have hl5 := bigS_length xmin 2
      have hl6 := bigS_length xmax 2
      omega
    go_simp
    exact hK _ (Grow.refl _)
  intro xs w hw hp
  have ha0 := HA0.out
  clear HA0 hsz s1 s4
  simp only [holdsL, List.nil_append, List.cons_append, List.getD_cons_succ, List.getD_cons_zero, if_true, and_true] at hp
  have h16 := hp.2.2.2.2.2.2.2.2.2.2.2.2.2.2.2.2
  clear hp
  subst ha0
  simp only [putAll, h16]
  have hG := Grow.trans hg0 hw.undrew
  clear hw h16
  go_wp2_with fail
  go_ret2
  rw [HD.out]
  exact ⟨rfl, hG⟩

/-- What the document's Encode answers. -/
def encT (t : Tup) : List UInt8 × Int := if tupOk t.xmin t.xmax (str t.key) (str t.val) then (tupS t.xmin t.xmax t.frozen t.key t.val, 0) else ([], 110)
theorem renc_any (t : Tup) (w : World) : Calls Tryz.prog 58 #[tupV t] w fun e w' =>
    e = .returned (.tuple #[.string (str (encT t).1), .int .i64 (encT t).2]) ∧ Below w.heap.size w w' := by
  unfold encT tupV
  cases h : tupOk t.xmin t.xmax (str t.key) (str t.val) with
  | false => exact renc_bad _ _ _ _ _ w h
  | true =>
    cases hf : t.frozen with
    | false => exact renc_false _ _ _ _ w h
    | true => exact renc_true _ _ _ _ w h

end Go.Proofs.YtikmkimkhngihaaGreat
