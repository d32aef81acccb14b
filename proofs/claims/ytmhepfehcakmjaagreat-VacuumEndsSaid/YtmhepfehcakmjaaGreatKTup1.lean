import Derived.Test.YtmhepfehcakmjaaGreatKBits6
import Derived.Test.YtmhepfehcakmjaaGreatKBits5
import Derived.Test.YtmhepfehcakmjaaGreatKLexm
namespace Go.Proofs.YtmhepfehcakmjaaGreat
open Go.RowKit
attribute [local go_sem] gives givesUpon_value givesUpon_skip givesUpon_enter
theorem txt_length (l : List UInt8) : (txt l).length = (sev l.length).length + l.length := by simp [txt]
attribute [local go_sem] txt_length bigS_length
def fitsB (s : ByteArray) : Bool := decide (0 < s.size) && decide (s.size ≤ 24)
set_option maxHeartbeats 400000 in
theorem fits_yes (s : ByteArray) (w : World) (h : fitsB s = true) : Calls Tryz.prog 67 #[.string s] w fun e w' => e = .returned (.bool true) ∧ w = w' := by
 simp only [fitsB, Bool.and_eq_true, decide_eq_true_eq] at h
 obtain ⟨h1, h2⟩ := h
 go_enter Tryz.func67, Tryz.ntmps67
 go_wp2
 go_ret
 exact ⟨by simp; omega, rfl⟩
set_option maxHeartbeats 400000 in
theorem fits_no (s : ByteArray) (w : World) (h : fitsB s = false) : Calls Tryz.prog 67 #[.string s] w fun e w' => e = .returned (.bool false) ∧ w = w' := by
 simp only [fitsB, Bool.and_eq_false_iff, decide_eq_false_iff_not] at h
 go_enter Tryz.func67, Tryz.ntmps67
 by_cases h1 : 0 < s.size
 ·have h2 : ¬ s.size ≤ 24 := by omega
  go_wp2
  go_ret
  exact ⟨by simp; omega, rfl⟩
 ·go_wp2
  go_ret
  exact ⟨by simp, rfl⟩
def tupOk (xmin xmax : Int) (key val : ByteArray) : Bool :=
 decide (1 ≤ xmin) && decide (xmin ≤ 1024) && decide (0 ≤ xmax) && decide (xmax ≤ 1024) && fitsB key && decide (val.size ≤ 64)
def tupS (xmin xmax : Nat) (frozen : Bool) (key val : List UInt8) : List UInt8 :=
 bigS (if frozen then 3 else 1) 1 ++ bigS xmin 2 ++ bigS xmax 2 ++ (txt key ++ txt val)
set_option maxHeartbeats 1000000 in
theorem enc_bad (xmin xmax : Int) (frozen : Bool) (key val : ByteArray) (w : World) (h : tupOk xmin xmax key val = false) :
  Calls Tryz.prog 40 #[.agg #[.int .i64 xmin, .int .i64 xmax, .bool frozen, .string key, .string val]] w fun e w' =>
  e = .returned (.tuple #[.string (str []), .int .i64 110]) ∧ Below w.heap.size w w' := by
 have hor : xmin < 1 ∨ 1024 < xmin ∨ xmax < 0 ∨ 1024 < xmax ∨ fitsB key = false ∨ 64 < val.size := by
  unfold tupOk at h
  simp only [Bool.and_eq_false_iff, decide_eq_false_iff_not] at h
  rcases h with ((((h | h) | h) | h) | h) | h
  ·exact .inl (by omega)
  ·exact .inr (.inl (by omega))
  ·exact .inr (.inr (.inl (by omega)))
  ·exact .inr (.inr (.inr (.inl (by omega))))
  ·exact .inr (.inr (.inr (.inr (.inl h))))
  ·exact .inr (.inr (.inr (.inr (.inr (by omega)))))
 clear h
 have hend : Below w.heap.size w (w.alloc (.cells #[.int .i64 xmin, .int .i64 xmax, .bool frozen, .string key, .string val] 51)) := (Below.refl _ _).alloc (Nat.le_refl _) _
 have Hend := keep hend
 clear hend
 by_cases h1 : xmin < 1
 ·clear hor
  go_enter Tryz.func40, Tryz.ntmps40
  go_wp2_with fail
  go_ret2
  exact ⟨rfl, Hend.out⟩
 by_cases h2 : 1024 < xmin
 ·clear hor
  go_enter Tryz.func40, Tryz.ntmps40
  go_wp2_with fail
  go_ret2
  exact ⟨rfl, Hend.out⟩
 by_cases h3 : xmax < 0
 ·clear hor
  go_enter Tryz.func40, Tryz.ntmps40
  go_wp2_with fail
  go_ret2
  exact ⟨rfl, Hend.out⟩
 by_cases h4 : 1024 < xmax
 ·clear hor
  go_enter Tryz.func40, Tryz.ntmps40
  go_wp2_with fail
  go_ret2
  exact ⟨rfl, Hend.out⟩
 have hor2 : fitsB key = false ∨ 64 < val.size := by
  rcases hor with h | h | h | h | h | h
  ·omega
  ·omega
  ·omega
  ·omega
  ·exact .inl h
  ·exact .inr h
 clear hor
 by_cases h5 : fitsB key = false
 ·clear hor2
  go_enter Tryz.func40, Tryz.ntmps40
  go_wp2_with (go_at_call 67; refine (fits_no _ _ h5).mono ?_; rintro e w' ⟨rfl, rfl⟩)
  go_ret2
  exact ⟨rfl, Hend.out⟩
 ·have h6 : 64 < val.size := by rcases hor2 with h | h; exact absurd h h5; exact h
  have h5' : fitsB key = true := by simpa using h5
  clear hor2 h5
  go_enter Tryz.func40, Tryz.ntmps40
  go_wp2_with (go_at_call 67; refine (fits_yes _ _ h5').mono ?_; rintro e w' ⟨rfl, rfl⟩)
  go_ret2
  exact ⟨rfl, Hend.out⟩
theorem tupS_text (xmin xmax : Nat) (frozen : Bool) (key val : List UInt8) (f : Nat) (hf : f = if frozen then 3 else 1) : str (bigS f 1) ++ str (bigS xmin 2) ++ str (bigS xmax 2) ++ str ([] ++ txt key ++ txt val) = str (tupS xmin xmax frozen key val) := by
 subst hf
 simp [str, tupS, ByteArray.ext_iff]
set_option maxRecDepth 100000 in
set_option maxHeartbeats 1000000 in
theorem enc_yes (xmin xmax : Nat) (key val : ByteArray) (w : World) (h : tupOk xmin xmax key val = true) :
  Calls Tryz.prog 40 #[.agg #[.int .i64 xmin, .int .i64 xmax, .bool true, .string key, .string val]] w fun e w' =>
  e = .returned (.tuple #[.string (str (tupS xmin xmax true key.data.toList val.data.toList)), .int .i64 0]) ∧ Below w.heap.size w w' := by
 simp only [tupOk, Bool.and_eq_true, decide_eq_true_eq] at h
 obtain ⟨⟨⟨⟨⟨h1, h2⟩, h3⟩, h4⟩, h5⟩, h7⟩ := h
 have h6 : key.size ≤ 24 := by simp [fitsB] at h5; omega
 obtain ⟨f, hf⟩ : ∃ f : Nat, f = if true then 3 else 1 := ⟨_, rfl⟩
 have hf3 : f = 3 := by subst hf; rfl
 have htx := tupS_text xmin xmax true key.data.toList val.data.toList f hf
 have Htx := keep htx
 have HF := keep hf3
 clear htx hf hf3
 go_enter Tryz.func40, Tryz.ntmps40
 go_wp2_with fail
 generalize hw0 : w.alloc (.cells #[.int .i64 xmin, .int .i64 xmax, .bool true, .string key, .string val] 51) = w0
 have hB0 : Blk w0 w.heap.size 51 [.int .i64 xmin, .int .i64 xmax, .bool true, .string key, .string val] := by subst hw0; exact Blk.new w _ _
 have hg0 : Grow w w0 := by subst hw0; exact (Grow.refl w).alloc _
 clear hw0
 have hlt0 := hB0.lt
 have e2 := hB0.cell 2 (by simp)
 have e5 := hB0.cell 4 (by simp)
 refine (fits_yes _ _ h5).mono ?_
 rintro e w' ⟨rfl, rfl⟩
 have hor : bits BinOp.or IntKind.i64 1 2 = 3 := by decide
 go_wp2_with fail
 refine (wrNew w0).mono ?_
 rintro e w1 ⟨rfl, hW1, hb1⟩
 have hB1 := hB0.fits hb1
 have e3 := hB1.cell 3 (by simp)
 go_wp2_with fail
 refine (wrText _ _ _ _ hW1 (by simp; omega)).mono ?_
 rintro e w2 ⟨rfl, hW2, hb2⟩
 have hB2 := hB1.below hb2 hlt0
 have e4 := hB2.cell 4 (by simp)
 go_wp2_with fail
 refine (wrText _ _ _ _ hW2 (by have := sev_length key.size; simp [txt]; omega)).mono ?_
 rintro e w3 ⟨rfl, hW3, hb3⟩
 have hB3 := hB2.below hb3 hlt0
 have hs0 := hg0.size
 have hs1 := hb1.size
 have hs2 := hb2.size
 have hg3 : Below w.heap.size w w3 := ((Below.trans hg0 (hb1.mono hs0)).trans (hb2.mono hs0)).trans (hb3.mono hs0)
 have hc0 : ∀ u, Grow w3.drew u → u.cell? ⟨w.heap.size, 0, none⟩ = some (.int .i64 xmin) := fun u hu => (Blk.fits (w := w3.drew) hB3 hu).cell 0 (by simp)
 have hc1 : ∀ u, Grow w3.drew u → u.cell? ⟨w.heap.size, 1, none⟩ = some (.int .i64 xmax) := fun u hu => (Blk.fits (w := w3.drew) hB3 hu).cell 1 (by simp)
 have hwr : ∀ u, Grow w3.drew u → Wr u w0.heap.size ([] ++ txt key.data.toList ++ txt val.data.toList) := fun u hu => Wr.grow (w := w3.drew) hW3 hu
 have Hc0 := keep hc0
 have Hc1 := keep hc1
 have Hwr := keep hwr
 clear hc0 hc1 hwr e2 e3 e4 e5 hW1 hW2 hW3 hB0 hB1 hB2 hB3
 go_wp2_with fail
 refine wp_region_grow (by kernel_rfl) 12 (by kernel_rfl) [(49, 0), (50, 1), (51, 2), (52, 3), (53, 4), (54, 5), (55, 6), (56, 7), (57, 8), (58, 9), (59, 10), (60, 11)] (by kernel_rfl) [(0, true), (1, true), (2, true), (3, true), (4, true), (5, true), (6, true), (7, true), (8, true), (9, true), (10, true), (11, true)] (by kernel_rfl) rfl rfl ?_
 apply lex_eq [] [(51, 2), (52, 3), (53, 4), (54, 5), (55, 6), (56, 7), (57, 8), (58, 9), (59, 10), (60, 11), (61, 12)] (by kernel_rfl) (by kernel_rfl) rfl
 ·intro xs w hw hp K hK
  simp only [putAll]
  go_simp
  exact hK _ (Grow.refl _)
 apply lex_eq [(0, true)] [(49, 0), (51, 2), (52, 3), (55, 6), (56, 7), (57, 8), (58, 9), (59, 10), (60, 11), (61, 12)] (by kernel_rfl) (by kernel_rfl) rfl
 ·intro xs w hw hp K hK
  simp only [hz] at hp
  simp only [putAll]
  go_simp
  refine (big_at _ _ f 1 _ (by have := HF.out; omega) rfl (by omega) (by omega) (by have := HF.out; omega)).mono ?_; rintro e w' ⟨rfl, hb⟩; exact ⟨_, rfl, hK _ hb⟩
 apply lex_eq [] [(49, 0), (50, 1), (53, 4), (54, 5), (55, 6), (56, 7), (57, 8), (58, 9), (59, 10), (60, 11), (61, 12)] (by kernel_rfl) (by kernel_rfl) rfl
 ·intro xs w hw hp K hK
  simp only [putAll]
  go_simp
  exact hK _ (Grow.refl _)
 apply lex_eq [(2, true)] [(49, 0), (50, 1), (51, 2), (54, 5), (55, 6), (56, 7), (57, 8), (58, 9), (59, 10), (60, 11), (61, 12)] (by kernel_rfl) (by kernel_rfl) rfl
 ·intro xs w hw hp K hK
  simp only [hz] at hp
  simp only [putAll]
  have hc := Hc0.out w hw
  go_simp
  exact hK _ (Grow.refl _)
 apply lex_eq [(3, true)] [(49, 0), (50, 1), (51, 2), (52, 3), (55, 6), (56, 7), (58, 9), (59, 10), (60, 11), (61, 12)] (by kernel_rfl) (by kernel_rfl) rfl
 ·intro xs w hw hp K hK
  simp only [hz] at hp
  simp only [putAll]
  go_simp
  refine (big_at _ _ xmin 2 _ rfl rfl (by omega) (by omega) (by omega)).mono ?_; rintro e w' ⟨rfl, hb⟩; exact ⟨_, rfl, hK _ hb⟩
 apply lex_eq [(1, true), (4, true)] [(49, 0), (50, 1), (51, 2), (52, 3), (53, 4), (55, 6), (56, 7), (57, 8), (59, 10), (60, 11), (61, 12)] (by kernel_rfl) (by kernel_rfl) rfl
 ·intro xs w hw hp K hK
  simp only [hz] at hp
  simp only [putAll]
  go_simp
  exact hK _ (Grow.refl _)
 apply lex_eq [] [(49, 0), (50, 1), (51, 2), (52, 3), (53, 4), (54, 5), (57, 8), (58, 9), (59, 10), (60, 11), (61, 12)] (by kernel_rfl) (by kernel_rfl) rfl
 ·intro xs w hw hp K hK
  simp only [putAll]
  go_simp
  exact hK _ (Grow.refl _)
 apply lex_eq [(6, true)] [(49, 0), (50, 1), (51, 2), (52, 3), (53, 4), (54, 5), (55, 6), (58, 9), (59, 10), (60, 11), (61, 12)] (by kernel_rfl) (by kernel_rfl) rfl
 ·intro xs w hw hp K hK
  simp only [hz] at hp
  simp only [putAll]
  have hc := Hc1.out w hw
  go_simp
  exact hK _ (Grow.refl _)
 apply lex_eq [(7, true)] [(49, 0), (50, 1), (51, 2), (52, 3), (53, 4), (54, 5), (55, 6), (56, 7), (59, 10), (61, 12)] (by kernel_rfl) (by kernel_rfl) rfl
 ·intro xs w hw hp K hK
  simp only [hz] at hp
  simp only [putAll]
  go_simp
  refine (big_at _ _ xmax 2 _ rfl rfl (by omega) (by omega) (by omega)).mono ?_; rintro e w' ⟨rfl, hb⟩; exact ⟨_, rfl, hK _ hb⟩
 apply lex_eq [(5, true), (8, true)] [(49, 0), (50, 1), (51, 2), (52, 3), (53, 4), (54, 5), (55, 6), (56, 7), (57, 8), (59, 10), (60, 11)] (by kernel_rfl) (by kernel_rfl) rfl
 ·intro xs w hw hp K hK
  simp only [hz] at hp
  simp only [putAll]
  go_simp
  exact hK _ (Grow.refl _)
 apply lex_eq [] [(49, 0), (50, 1), (51, 2), (52, 3), (53, 4), (54, 5), (55, 6), (56, 7), (57, 8), (58, 9), (61, 12)] (by kernel_rfl) (by kernel_rfl) rfl
 ·intro xs w hw hp K hK
  simp only [putAll]
  go_simp
  exact hK _ (Grow.refl _)
 apply lex_eq [(10, true)] [(49, 0), (50, 1), (51, 2), (52, 3), (53, 4), (54, 5), (55, 6), (56, 7), (57, 8), (58, 9), (59, 10)] (by kernel_rfl) (by kernel_rfl) rfl
 ·intro xs w hw hp K hK
  simp only [hz] at hp
  simp only [putAll]
  go_simp
  refine (wrBytes _ _ _ (Hwr.out w hw)).mono ?_; rintro e w' ⟨rfl, rfl⟩; exact ⟨_, rfl, hK _ (Grow.refl _)⟩
 intro xs w hw hp
 simp only [hz] at hp
 simp only [putAll, hp, List.drop_succ_cons, List.drop_zero]
 have hS1 := sev_length key.size
 have hS2 := sev_length val.size
 go_wp2
 go_ret2
 refine ⟨?_, Below.trans hg3.drew (Below.mono hw hg3.size)⟩
 rw [← Htx.out]
 rfl
set_option maxRecDepth 100000 in
set_option maxHeartbeats 1000000 in
theorem enc_no (xmin xmax : Nat) (key val : ByteArray) (w : World) (h : tupOk xmin xmax key val = true) :
  Calls Tryz.prog 40 #[.agg #[.int .i64 xmin, .int .i64 xmax, .bool false, .string key, .string val]] w fun e w' =>
  e = .returned (.tuple #[.string (str (tupS xmin xmax false key.data.toList val.data.toList)), .int .i64 0]) ∧ Below w.heap.size w w' := by
 simp only [tupOk, Bool.and_eq_true, decide_eq_true_eq] at h
 obtain ⟨⟨⟨⟨⟨h1, h2⟩, h3⟩, h4⟩, h5⟩, h7⟩ := h
 have h6 : key.size ≤ 24 := by simp [fitsB] at h5; omega
 obtain ⟨f, hf⟩ : ∃ f : Nat, f = if false then 3 else 1 := ⟨_, rfl⟩
 have hf3 : f = 1 := by subst hf; rfl
 have htx := tupS_text xmin xmax false key.data.toList val.data.toList f hf
 have Htx := keep htx
 have HF := keep hf3
 clear htx hf hf3
 go_enter Tryz.func40, Tryz.ntmps40
 go_wp2_with fail
 generalize hw0 : w.alloc (.cells #[.int .i64 xmin, .int .i64 xmax, .bool false, .string key, .string val] 51) = w0
 have hB0 : Blk w0 w.heap.size 51 [.int .i64 xmin, .int .i64 xmax, .bool false, .string key, .string val] := by subst hw0; exact Blk.new w _ _
 have hg0 : Grow w w0 := by subst hw0; exact (Grow.refl w).alloc _
 clear hw0
 have hlt0 := hB0.lt
 have e2 := hB0.cell 2 (by simp)
 have e5 := hB0.cell 4 (by simp)
 refine (fits_yes _ _ h5).mono ?_
 rintro e w' ⟨rfl, rfl⟩
 have hor : bits BinOp.or IntKind.i64 1 2 = 3 := by decide
 go_wp2_with fail
 refine (wrNew w0).mono ?_
 rintro e w1 ⟨rfl, hW1, hb1⟩
 have hB1 := hB0.fits hb1
 have e3 := hB1.cell 3 (by simp)
 go_wp2_with fail
 refine (wrText _ _ _ _ hW1 (by simp; omega)).mono ?_
 rintro e w2 ⟨rfl, hW2, hb2⟩
 have hB2 := hB1.below hb2 hlt0
 have e4 := hB2.cell 4 (by simp)
 go_wp2_with fail
 refine (wrText _ _ _ _ hW2 (by have := sev_length key.size; simp [txt]; omega)).mono ?_
 rintro e w3 ⟨rfl, hW3, hb3⟩
 have hB3 := hB2.below hb3 hlt0
 have hs0 := hg0.size
 have hs1 := hb1.size
 have hs2 := hb2.size
 have hg3 : Below w.heap.size w w3 := ((Below.trans hg0 (hb1.mono hs0)).trans (hb2.mono hs0)).trans (hb3.mono hs0)
 have hc0 : ∀ u, Grow w3.drew u → u.cell? ⟨w.heap.size, 0, none⟩ = some (.int .i64 xmin) := fun u hu => (Blk.fits (w := w3.drew) hB3 hu).cell 0 (by simp)
 have hc1 : ∀ u, Grow w3.drew u → u.cell? ⟨w.heap.size, 1, none⟩ = some (.int .i64 xmax) := fun u hu => (Blk.fits (w := w3.drew) hB3 hu).cell 1 (by simp)
 have hwr : ∀ u, Grow w3.drew u → Wr u w0.heap.size ([] ++ txt key.data.toList ++ txt val.data.toList) := fun u hu => Wr.grow (w := w3.drew) hW3 hu
 have Hc0 := keep hc0
 have Hc1 := keep hc1
 have Hwr := keep hwr
 clear hc0 hc1 hwr e2 e3 e4 e5 hW1 hW2 hW3 hB0 hB1 hB2 hB3
 go_wp2_with fail
 refine wp_region_grow (by kernel_rfl) 12 (by kernel_rfl) [(49, 0), (50, 1), (51, 2), (52, 3), (53, 4), (54, 5), (55, 6), (56, 7), (57, 8), (58, 9), (59, 10), (60, 11)] (by kernel_rfl) [(0, true), (1, true), (2, true), (3, true), (4, true), (5, true), (6, true), (7, true), (8, true), (9, true), (10, true), (11, true)] (by kernel_rfl) rfl rfl ?_
 apply lex_eq [] [(51, 2), (52, 3), (53, 4), (54, 5), (55, 6), (56, 7), (57, 8), (58, 9), (59, 10), (60, 11), (61, 12)] (by kernel_rfl) (by kernel_rfl) rfl
 ·intro xs w hw hp K hK
  simp only [putAll]
  go_simp
  exact hK _ (Grow.refl _)
 apply lex_eq [(0, true)] [(49, 0), (51, 2), (52, 3), (55, 6), (56, 7), (57, 8), (58, 9), (59, 10), (60, 11), (61, 12)] (by kernel_rfl) (by kernel_rfl) rfl
 ·intro xs w hw hp K hK
  simp only [hz] at hp
  simp only [putAll]
  go_simp
  refine (big_at _ _ f 1 _ (by have := HF.out; omega) rfl (by omega) (by omega) (by have := HF.out; omega)).mono ?_; rintro e w' ⟨rfl, hb⟩; exact ⟨_, rfl, hK _ hb⟩
 apply lex_eq [] [(49, 0), (50, 1), (53, 4), (54, 5), (55, 6), (56, 7), (57, 8), (58, 9), (59, 10), (60, 11), (61, 12)] (by kernel_rfl) (by kernel_rfl) rfl
 ·intro xs w hw hp K hK
  simp only [putAll]
  go_simp
  exact hK _ (Grow.refl _)
 apply lex_eq [(2, true)] [(49, 0), (50, 1), (51, 2), (54, 5), (55, 6), (56, 7), (57, 8), (58, 9), (59, 10), (60, 11), (61, 12)] (by kernel_rfl) (by kernel_rfl) rfl
 ·intro xs w hw hp K hK
  simp only [hz] at hp
  simp only [putAll]
  have hc := Hc0.out w hw
  go_simp
  exact hK _ (Grow.refl _)
 apply lex_eq [(3, true)] [(49, 0), (50, 1), (51, 2), (52, 3), (55, 6), (56, 7), (58, 9), (59, 10), (60, 11), (61, 12)] (by kernel_rfl) (by kernel_rfl) rfl
 ·intro xs w hw hp K hK
  simp only [hz] at hp
  simp only [putAll]
  go_simp
  refine (big_at _ _ xmin 2 _ rfl rfl (by omega) (by omega) (by omega)).mono ?_; rintro e w' ⟨rfl, hb⟩; exact ⟨_, rfl, hK _ hb⟩
 apply lex_eq [(1, true), (4, true)] [(49, 0), (50, 1), (51, 2), (52, 3), (53, 4), (55, 6), (56, 7), (57, 8), (59, 10), (60, 11), (61, 12)] (by kernel_rfl) (by kernel_rfl) rfl
 ·intro xs w hw hp K hK
  simp only [hz] at hp
  simp only [putAll]
  go_simp
  exact hK _ (Grow.refl _)
 apply lex_eq [] [(49, 0), (50, 1), (51, 2), (52, 3), (53, 4), (54, 5), (57, 8), (58, 9), (59, 10), (60, 11), (61, 12)] (by kernel_rfl) (by kernel_rfl) rfl
 ·intro xs w hw hp K hK
  simp only [putAll]
  go_simp
  exact hK _ (Grow.refl _)
 apply lex_eq [(6, true)] [(49, 0), (50, 1), (51, 2), (52, 3), (53, 4), (54, 5), (55, 6), (58, 9), (59, 10), (60, 11), (61, 12)] (by kernel_rfl) (by kernel_rfl) rfl
 ·intro xs w hw hp K hK
  simp only [hz] at hp
  simp only [putAll]
  have hc := Hc1.out w hw
  go_simp
  exact hK _ (Grow.refl _)
 apply lex_eq [(7, true)] [(49, 0), (50, 1), (51, 2), (52, 3), (53, 4), (54, 5), (55, 6), (56, 7), (59, 10), (61, 12)] (by kernel_rfl) (by kernel_rfl) rfl
 ·intro xs w hw hp K hK
  simp only [hz] at hp
  simp only [putAll]
  go_simp
  refine (big_at _ _ xmax 2 _ rfl rfl (by omega) (by omega) (by omega)).mono ?_; rintro e w' ⟨rfl, hb⟩; exact ⟨_, rfl, hK _ hb⟩
 apply lex_eq [(5, true), (8, true)] [(49, 0), (50, 1), (51, 2), (52, 3), (53, 4), (54, 5), (55, 6), (56, 7), (57, 8), (59, 10), (60, 11)] (by kernel_rfl) (by kernel_rfl) rfl
 ·intro xs w hw hp K hK
  simp only [hz] at hp
  simp only [putAll]
  go_simp
  exact hK _ (Grow.refl _)
 apply lex_eq [] [(49, 0), (50, 1), (51, 2), (52, 3), (53, 4), (54, 5), (55, 6), (56, 7), (57, 8), (58, 9), (61, 12)] (by kernel_rfl) (by kernel_rfl) rfl
 ·intro xs w hw hp K hK
  simp only [putAll]
  go_simp
  exact hK _ (Grow.refl _)
 apply lex_eq [(10, true)] [(49, 0), (50, 1), (51, 2), (52, 3), (53, 4), (54, 5), (55, 6), (56, 7), (57, 8), (58, 9), (59, 10)] (by kernel_rfl) (by kernel_rfl) rfl
 ·intro xs w hw hp K hK
  simp only [hz] at hp
  simp only [putAll]
  go_simp
  refine (wrBytes _ _ _ (Hwr.out w hw)).mono ?_; rintro e w' ⟨rfl, rfl⟩; exact ⟨_, rfl, hK _ (Grow.refl _)⟩
 intro xs w hw hp
 simp only [hz] at hp
 simp only [putAll, hp, List.drop_succ_cons, List.drop_zero]
 have hS1 := sev_length key.size
 have hS2 := sev_length val.size
 go_wp2
 go_ret2
 refine ⟨?_, Below.trans hg3.drew (Below.mono hw hg3.size)⟩
 rw [← Htx.out]
 rfl
end Go.Proofs.YtmhepfehcakmjaaGreat
