import Derived.Test.YtigbgodbalpgdaaKRd2
import Derived.Test.YtigbgodbalpgdaaKRd3
import Derived.Test.YtigbgodbalpgdaaKAw1
/- almonrylaw14.NodeCodes. -/
namespace Go.Proofs.Ytigbgodbalpgdaa
open Go.RowKit
attribute [local go_sem] givesF_none givesF_some evalF_tmp evalF_const evalF_global evalF_func lookL isB_bool isB_undef givesUpon_value givesUpon_skip givesUpon_enter
attribute [local simp] eql_entry
attribute [local go_sem] guard_entry
theorem sameE_refl (e : En) : sameE e e = true := by simp [sameE]
attribute [local simp] sameE_refl

set_option maxRecDepth 100000 in
set_option maxHeartbeats 4000000 in
theorem codes_any (a b : En) (l : List UInt8) (w_ : World) (hl : (l.length : Int) ≤ 4611686018427387904) :
    Calls Try.prog 4 #[enV a, enV b, .string (str l)] w_ fun x w' => x = .returned (.bool true) ∧ Below w_.heap.size w_ w' := by
  have hen := fun (u : World) => encode_any a u
  have hre := fun (u : World) => rencode_any a u
  have hse := fun (u : World) => sep_any a b.2.1 u
  have hrs := fun (u : World) => rsep_any a b.2.1 u
  have hde := fun (u : World) => decode_any l u (by omega)
  have hrd := fun (u : World) => rdecode_any l u hl
  have hun := fun (u : World) => unsep_any l u (by omega)
  have hru := fun (u : World) => runsep_any l u hl
  have hcp := fun (u : World) => compare_any a b u
  have hrc := fun (u : World) => rcompare_any a b u
  generalize encN a = X at *
  generalize sepN a b.2.1 = Y at *
  generalize decN l = D at *
  generalize unsN l = U at *
  generalize cmpE a b = C at *
  obtain ⟨k, p, s⟩ := a
  obtain ⟨k2, p2, s2⟩ := b
  obtain ⟨x1, x2⟩ := X
  obtain ⟨y1, y2⟩ := Y
  obtain ⟨⟨dk, dp, ds⟩, dc⟩ := D
  obtain ⟨⟨uk, up, us⟩, uq, uc⟩ := U
  unfold enV at *
  dsimp only at *
  have HEn := keep hen
  have HRe := keep hre
  have HSe := keep hse
  have HRs := keep hrs
  have HDe := keep hde
  have HRd := keep hrd
  have HUn := keep hun
  have HRu := keep hru
  have HCp := keep hcp
  have HRc := keep hrc
  clear hen hre hse hrs hde hrd hun hru hcp hrc
  obtain ⟨w0, hw0⟩ : ∃ w0, w0 = (w_.alloc (.cells #[.string (str k), .int .i64 p, .int .i64 s] 23)).alloc (.cells #[.string (str k2), .int .i64 p2, .int .i64 s2] 23) := ⟨_, rfl⟩
  have hgz : Grow w_ w0 := by subst hw0; exact ((Grow.refl w_).alloc _).alloc _
  have hA : Blk w0 w_.heap.size 23 [.string (str k), .int .i64 p, .int .i64 s] := by subst hw0; exact (Blk.new w_ _ [_, _, _]).alloc _
  have hB : Blk w0 (w_.heap.size + 1) 23 [.string (str k2), .int .i64 p2, .int .i64 s2] := by
    have := Blk.new (w_.alloc (.cells #[.string (str k), .int .i64 p, .int .i64 s] 23)) 23 [.string (str k2), .int .i64 p2, .int .i64 s2]
    have e1 : (w_.alloc (.cells #[.string (str k), .int .i64 p, .int .i64 s] 23)).heap.size = w_.heap.size + 1 := by simp
    rw [e1] at this
    subst hw0
    exact this
  have HA0 := keep hA
  have HB0 := keep hB
  have HGz := keep hgz
  obtain ⟨c0, c1, c2, _⟩ := enres hA
  obtain ⟨d0, d1, d2, _⟩ := enres hB
  clear hA hB hgz
  have hg0 := Grow.refl w0
  go_enter Try.func4, Try.ntmps4
  go_upto_region 1 with fail
  rw [← hw0]
  clear hw0
  go_wp2_with fail
  refine (HEn.out w0).mono ?_
  rintro x w1 ⟨rfl, hb1⟩
  have hg1 := Grow.trans hg0 hb1
  clear c0 c1 c2 d0 d1 d2
  obtain ⟨c0, c1, c2, _⟩ := enres (HA0.out.fits hg1)
  obtain ⟨d0, d1, d2, _⟩ := enres (HB0.out.fits hg1)
  go_wp2_with fail
  refine (HRe.out w1).mono ?_
  rintro x w2 ⟨rfl, hb2⟩
  have hg2 := Grow.trans hg1 hb2
  clear c0 c1 c2 d0 d1 d2
  obtain ⟨c0, c1, c2, _⟩ := enres (HA0.out.fits hg2)
  obtain ⟨d0, d1, d2, _⟩ := enres (HB0.out.fits hg2)
  go_wp2_with fail
  refine (HSe.out w2).mono ?_
  rintro x w3 ⟨rfl, hb3⟩
  have hg3 := Grow.trans hg2 hb3
  clear c0 c1 c2 d0 d1 d2
  obtain ⟨c0, c1, c2, _⟩ := enres (HA0.out.fits hg3)
  obtain ⟨d0, d1, d2, _⟩ := enres (HB0.out.fits hg3)
  go_wp2_with fail
  refine (HRs.out w3).mono ?_
  rintro x w4 ⟨rfl, hb4⟩
  have hg4 := Grow.trans hg3 hb4
  clear c0 c1 c2 d0 d1 d2
  obtain ⟨c0, c1, c2, _⟩ := enres (HA0.out.fits hg4)
  obtain ⟨d0, d1, d2, _⟩ := enres (HB0.out.fits hg4)
  go_wp2_with fail
  refine (HDe.out w4).mono ?_
  rintro x w5 ⟨rfl, hb5⟩
  have hg5 := Grow.trans hg4 hb5
  go_upto_region 6 with fail
  obtain ⟨w6, hw6⟩ : ∃ w6, w6 = w5.alloc (.cells #[.string (str dk), .int .i64 dp, .int .i64 ds] 23) := ⟨_, rfl⟩
  have hb6 : Grow w5 w6 := by subst hw6; exact (Grow.refl _).alloc _
  have hBX : Blk w6 w5.heap.size 23 [.string (str dk), .int .i64 dp, .int .i64 ds] := by subst hw6; exact Blk.new w5 _ [_, _, _]
  have HX0 := keep hBX
  have hg6 := Grow.trans hg5 hb6
  rw [← hw6]
  clear hw6 hBX
  go_wp2_with fail
  refine (HRd.out w6).mono ?_
  rintro x w7 ⟨rfl, hb7⟩
  have hg7 := Grow.trans hg6 hb7
  go_upto_region 7 with fail
  obtain ⟨w8, hw8⟩ : ∃ w8, w8 = w7.alloc (.cells #[.string (str dk), .int .i64 dp, .int .i64 ds] 23) := ⟨_, rfl⟩
  have hb8 : Grow w7 w8 := by subst hw8; exact (Grow.refl _).alloc _
  have hBY : Blk w8 w7.heap.size 23 [.string (str dk), .int .i64 dp, .int .i64 ds] := by subst hw8; exact Blk.new w7 _ [_, _, _]
  have HY0 := keep hBY
  have hg8 := Grow.trans hg7 hb8
  rw [← hw8]
  clear hw8 hBY
  go_wp2_with fail
  refine (HUn.out w8).mono ?_
  rintro x w9 ⟨rfl, hb9⟩
  have hg9 := Grow.trans hg8 hb9
  go_upto_region 8 with fail
  obtain ⟨w10, hw10⟩ : ∃ w10, w10 = w9.alloc (.cells #[.string (str uk), .int .i64 up, .int .i64 us] 23) := ⟨_, rfl⟩
  have hb10 : Grow w9 w10 := by subst hw10; exact (Grow.refl _).alloc _
  have hBZ : Blk w10 w9.heap.size 23 [.string (str uk), .int .i64 up, .int .i64 us] := by subst hw10; exact Blk.new w9 _ [_, _, _]
  have HZ0 := keep hBZ
  have hg10 := Grow.trans hg9 hb10
  rw [← hw10]
  clear hw10 hBZ
  go_wp2_with fail
  refine (HRu.out w10).mono ?_
  rintro x w11 ⟨rfl, hb11⟩
  have hg11 := Grow.trans hg10 hb11
  go_upto_region 9 with fail
  obtain ⟨w12, hw12⟩ : ∃ w12, w12 = w11.alloc (.cells #[.string (str uk), .int .i64 up, .int .i64 us] 23) := ⟨_, rfl⟩
  have hb12 : Grow w11 w12 := by subst hw12; exact (Grow.refl _).alloc _
  have hBW : Blk w12 w11.heap.size 23 [.string (str uk), .int .i64 up, .int .i64 us] := by subst hw12; exact Blk.new w11 _ [_, _, _]
  have HW0 := keep hBW
  have hg12 := Grow.trans hg11 hb12
  rw [← hw12]
  clear hw12 hBW
  have HA := keep (fun (u : World) (hu : Grow w12.drew u) => enres (HA0.out.fits (Grow.trans hg12 (Grow.undrew hu))))
  have HB := keep (fun (u : World) (hu : Grow w12.drew u) => enres (HB0.out.fits (Grow.trans hg12 (Grow.undrew hu))))
  have h612 : Grow w6 w12 := Grow.trans hb7 (Grow.trans hb8 (Grow.trans hb9 (Grow.trans hb10 (Grow.trans hb11 hb12))))
  have h812 : Grow w8 w12 := Grow.trans hb9 (Grow.trans hb10 (Grow.trans hb11 hb12))
  have h1012 : Grow w10 w12 := Grow.trans hb11 hb12
  have HX := keep (fun (u : World) (hu : Grow w12.drew u) => enres (HX0.out.fits (Grow.trans h612 (Grow.undrew hu))))
  have HY := keep (fun (u : World) (hu : Grow w12.drew u) => enres (HY0.out.fits (Grow.trans h812 (Grow.undrew hu))))
  have HZ := keep (fun (u : World) (hu : Grow w12.drew u) => enres (HZ0.out.fits (Grow.trans h1012 (Grow.undrew hu))))
  have HW := keep (fun (u : World) (hu : Grow w12.drew u) => enres (HW0.out.fits (Grow.undrew hu)))
  have HG := keep (Grow.trans HGz.out hg12)
  clear hb1 hb2 hb3 hb4 hb5 hb6 hb7 hb8 hb9 hb10 hb11 hb12 hg0 hg1 hg2 hg3 hg4 hg5 hg6 hg7 hg8 hg9 hg10 hg11 hg12 h612 h812 h1012 c0 c1 c2 d0 d1 d2
  refine wp_region_grow_named (by kernel_rfl) 55 (by kernel_rfl) [(71, 0), (72, 1), (73, 2), (74, 3), (75, 4), (76, 5), (77, 6), (78, 7), (79, 8), (80, 9), (81, 10), (82, 11), (83, 12), (84, 13), (85, 14), (86, 15), (87, 16), (88, 17), (89, 18), (90, 19), (91, 20), (92, 21), (93, 22), (94, 23), (95, 24), (96, 25), (97, 26), (98, 27), (99, 28), (100, 29), (101, 30), (102, 31), (103, 32), (104, 33), (105, 34), (106, 35), (107, 36), (108, 37), (109, 38), (110, 39), (111, 40), (112, 41), (113, 42), (114, 43), (115, 44), (116, 45), (117, 46), (118, 47), (119, 48), (120, 49), (121, 50), (122, 51), (123, 52), (124, 53), (125, 54)] (by kernel_rfl) [(0, true), (1, true), (2, true), (3, true), (4, true), (5, true), (6, true), (7, true), (8, true), (9, true), (10, true), (11, true), (12, true), (13, true), (14, true), (15, true), (16, true), (17, true), (18, true), (19, true), (20, true), (21, true), (22, true), (23, true), (24, true), (25, true), (26, true), (27, true), (28, true), (29, true), (30, true), (31, true), (32, true), (33, true), (34, true), (35, true), (36, true), (37, true), (38, true), (39, true), (40, true), (41, true), (42, true), (43, true), (44, true), (45, true), (46, true), (47, true), (48, true), (49, true), (50, true), (51, true), (52, true), (53, true), (54, true)] (by kernel_rfl) rfl rfl ?_
  intro a0 ha0
  have hsz : a0.tmps.size = 126 := (size_at ha0).trans rfl
  have s3 := slot_at ha0 3 rfl
  have s4 := slot_at ha0 4 rfl
  have s7 := slot_at ha0 7 rfl
  have s8 := slot_at ha0 8 rfl
  have s9 := slot_at ha0 9 rfl
  have s10 := slot_at ha0 10 rfl
  have s11 := slot_at ha0 11 rfl
  have s12 := slot_at ha0 12 rfl
  have s13 := slot_at ha0 13 rfl
  have s14 := slot_at ha0 14 rfl
  have s15 := slot_at ha0 15 rfl
  have s16 := slot_at ha0 16 rfl
  have s17 := slot_at ha0 17 rfl
  have s18 := slot_at ha0 18 rfl
  have s19 := slot_at ha0 19 rfl
  have s20 := slot_at ha0 20 rfl
  have s21 := slot_at ha0 21 rfl
  have s22 := slot_at ha0 22 rfl
  have s23 := slot_at ha0 23 rfl
  have s24 := slot_at ha0 24 rfl
  have HA0 := keep ha0
  clear ha0
  -- operation 0
  apply lexf_eq hsz [] [(72, 1), (74, 3), (75, 4), (76, 5), (77, 6), (78, 7), (79, 8), (80, 9), (81, 10), (82, 11), (83, 12), (84, 13), (85, 14), (86, 15), (87, 16), (88, 17), (89, 18), (90, 19), (91, 20), (92, 21), (93, 22), (94, 23), (95, 24), (96, 25), (97, 26), (98, 27), (99, 28), (100, 29), (101, 30), (102, 31), (103, 32), (104, 33), (105, 34), (106, 35), (107, 36), (108, 37), (109, 38), (110, 39), (111, 40), (112, 41), (113, 42), (114, 43), (115, 44), (116, 45), (117, 46), (118, 47), (119, 48), (120, 49), (121, 50), (122, 51), (123, 52), (124, 53), (125, 54)] none (by kernel_rfl) (by kernel_rfl) (by kernel_rfl) (by kernel_rfl) rfl
  · intro xs w hw hp K hK
    go_simp
    exact hK _ (Grow.refl _)
  -- operation 1
  apply lexf_eq hsz [] [(71, 0), (74, 3), (75, 4), (76, 5), (77, 6), (78, 7), (79, 8), (80, 9), (81, 10), (82, 11), (83, 12), (84, 13), (85, 14), (86, 15), (87, 16), (88, 17), (89, 18), (90, 19), (91, 20), (92, 21), (93, 22), (94, 23), (95, 24), (96, 25), (97, 26), (98, 27), (99, 28), (100, 29), (101, 30), (102, 31), (103, 32), (104, 33), (105, 34), (106, 35), (107, 36), (108, 37), (109, 38), (110, 39), (111, 40), (112, 41), (113, 42), (114, 43), (115, 44), (116, 45), (117, 46), (118, 47), (119, 48), (120, 49), (121, 50), (122, 51), (123, 52), (124, 53), (125, 54)] none (by kernel_rfl) (by kernel_rfl) (by kernel_rfl) (by kernel_rfl) rfl
  · intro xs w hw hp K hK
    go_simp
    exact hK _ (Grow.refl _)
  -- operation 2
  apply lexf_eq hsz [(0, true), (1, true)] [(71, 0), (72, 1), (75, 4), (76, 5), (77, 6), (78, 7), (79, 8), (80, 9), (81, 10), (82, 11), (83, 12), (84, 13), (85, 14), (86, 15), (87, 16), (88, 17), (89, 18), (90, 19), (91, 20), (92, 21), (93, 22), (94, 23), (95, 24), (96, 25), (97, 26), (98, 27), (99, 28), (100, 29), (101, 30), (102, 31), (103, 32), (104, 33), (105, 34), (106, 35), (107, 36), (108, 37), (109, 38), (110, 39), (111, 40), (112, 41), (113, 42), (114, 43), (115, 44), (116, 45), (117, 46), (118, 47), (119, 48), (120, 49), (121, 50), (122, 51), (123, 52), (124, 53), (125, 54)] none (by kernel_rfl) (by kernel_rfl) (by kernel_rfl) (by kernel_rfl) rfl
  · intro xs w hw hp K hK
    simp only [holdsL, List.nil_append, List.cons_append, List.getD_cons_succ, List.getD_cons_zero, if_true, and_true] at hp
    go_simp
    exact hK _ (Grow.refl _)
  -- operation 3
  apply lexf_eq hsz [(2, true)] [(71, 0), (72, 1), (73, 2), (80, 9), (81, 10), (82, 11), (83, 12), (84, 13), (85, 14), (86, 15), (87, 16), (88, 17), (89, 18), (90, 19), (91, 20), (92, 21), (93, 22), (94, 23), (95, 24), (96, 25), (97, 26), (98, 27), (99, 28), (100, 29), (101, 30), (102, 31), (103, 32), (104, 33), (105, 34), (106, 35), (107, 36), (108, 37), (109, 38), (110, 39), (111, 40), (112, 41), (113, 42), (114, 43), (115, 44), (116, 45), (117, 46), (118, 47), (119, 48), (120, 49), (121, 50), (122, 51), (123, 52), (124, 53), (125, 54)] none (by kernel_rfl) (by kernel_rfl) (by kernel_rfl) (by kernel_rfl) rfl
  · intro xs w hw hp K hK
    simp only [holdsL, List.nil_append, List.cons_append, List.getD_cons_succ, List.getD_cons_zero, if_true, and_true] at hp
    go_simp
    exact hK _ (Grow.refl _)
  -- operation 4
  apply lexf_eq hsz [(3, true)] [(71, 0), (72, 1), (73, 2), (74, 3), (76, 5), (78, 7), (79, 8), (80, 9), (81, 10), (82, 11), (83, 12), (84, 13), (85, 14), (86, 15), (87, 16), (88, 17), (89, 18), (90, 19), (91, 20), (92, 21), (93, 22), (94, 23), (95, 24), (96, 25), (97, 26), (98, 27), (99, 28), (100, 29), (101, 30), (102, 31), (103, 32), (104, 33), (105, 34), (106, 35), (107, 36), (108, 37), (109, 38), (110, 39), (111, 40), (112, 41), (113, 42), (114, 43), (115, 44), (116, 45), (117, 46), (118, 47), (119, 48), (120, 49), (121, 50), (122, 51), (123, 52), (124, 53), (125, 54)] (some (74, true)) (by kernel_rfl) (by kernel_rfl) (by kernel_rfl) (by kernel_rfl) rfl
  · intro xs w hw hp K hK
    simp only [holdsL, List.nil_append, List.cons_append, List.getD_cons_succ, List.getD_cons_zero, if_true, and_true] at hp
    go_simp
    exact hK _ (Grow.refl _)
  -- operation 5
  apply lexf_eq hsz [(3, true)] [(71, 0), (72, 1), (73, 2), (74, 3), (75, 4), (78, 7), (79, 8), (80, 9), (81, 10), (82, 11), (83, 12), (84, 13), (85, 14), (86, 15), (87, 16), (88, 17), (89, 18), (90, 19), (91, 20), (92, 21), (93, 22), (94, 23), (95, 24), (96, 25), (97, 26), (98, 27), (99, 28), (100, 29), (101, 30), (102, 31), (103, 32), (104, 33), (105, 34), (106, 35), (107, 36), (108, 37), (109, 38), (110, 39), (111, 40), (112, 41), (113, 42), (114, 43), (115, 44), (116, 45), (117, 46), (118, 47), (119, 48), (120, 49), (121, 50), (122, 51), (123, 52), (124, 53), (125, 54)] (some (74, true)) (by kernel_rfl) (by kernel_rfl) (by kernel_rfl) (by kernel_rfl) rfl
  · intro xs w hw hp K hK
    simp only [holdsL, List.nil_append, List.cons_append, List.getD_cons_succ, List.getD_cons_zero, if_true, and_true] at hp
    go_simp
    exact hK _ (Grow.refl _)
  -- operation 6
  apply lexf_eq hsz [(3, true), (4, true), (5, true)] [(71, 0), (72, 1), (73, 2), (74, 3), (75, 4), (76, 5), (79, 8), (80, 9), (81, 10), (82, 11), (83, 12), (84, 13), (85, 14), (86, 15), (87, 16), (88, 17), (89, 18), (90, 19), (91, 20), (92, 21), (93, 22), (94, 23), (95, 24), (96, 25), (97, 26), (98, 27), (99, 28), (100, 29), (101, 30), (102, 31), (103, 32), (104, 33), (105, 34), (106, 35), (107, 36), (108, 37), (109, 38), (110, 39), (111, 40), (112, 41), (113, 42), (114, 43), (115, 44), (116, 45), (117, 46), (118, 47), (119, 48), (120, 49), (121, 50), (122, 51), (123, 52), (124, 53), (125, 54)] (some (74, true)) (by kernel_rfl) (by kernel_rfl) (by kernel_rfl) (by kernel_rfl) rfl
  · intro xs w hw hp K hK
    simp only [holdsL, List.nil_append, List.cons_append, List.getD_cons_succ, List.getD_cons_zero, if_true, and_true] at hp
    go_simp
    exact hK _ (Grow.refl _)
  -- operation 7
  apply lexf_eq hsz [(3, true), (6, true)] [(71, 0), (72, 1), (73, 2), (74, 3), (75, 4), (76, 5), (77, 6), (80, 9), (81, 10), (82, 11), (83, 12), (84, 13), (85, 14), (86, 15), (87, 16), (88, 17), (89, 18), (90, 19), (91, 20), (92, 21), (93, 22), (94, 23), (95, 24), (96, 25), (97, 26), (98, 27), (99, 28), (100, 29), (101, 30), (102, 31), (103, 32), (104, 33), (105, 34), (106, 35), (107, 36), (108, 37), (109, 38), (110, 39), (111, 40), (112, 41), (113, 42), (114, 43), (115, 44), (116, 45), (117, 46), (118, 47), (119, 48), (120, 49), (121, 50), (122, 51), (123, 52), (124, 53), (125, 54)] none (by kernel_rfl) (by kernel_rfl) (by kernel_rfl) (by kernel_rfl) rfl
  · intro xs w hw hp K hK
    simp only [holdsL, List.nil_append, List.cons_append, List.getD_cons_succ, List.getD_cons_zero, if_true, and_true] at hp
    go_simp
    exact hK _ (Grow.refl _)
  -- operation 8
  apply lexf_eq hsz [(7, true)] [(71, 0), (72, 1), (73, 2), (74, 3), (75, 4), (76, 5), (77, 6), (78, 7), (85, 14), (86, 15), (87, 16), (88, 17), (89, 18), (90, 19), (91, 20), (92, 21), (93, 22), (94, 23), (95, 24), (96, 25), (97, 26), (98, 27), (99, 28), (100, 29), (101, 30), (102, 31), (103, 32), (104, 33), (105, 34), (106, 35), (107, 36), (108, 37), (109, 38), (110, 39), (111, 40), (112, 41), (113, 42), (114, 43), (115, 44), (116, 45), (117, 46), (118, 47), (119, 48), (120, 49), (121, 50), (122, 51), (123, 52), (124, 53), (125, 54)] none (by kernel_rfl) (by kernel_rfl) (by kernel_rfl) (by kernel_rfl) rfl
  · intro xs w hw hp K hK
    simp only [holdsL, List.nil_append, List.cons_append, List.getD_cons_succ, List.getD_cons_zero, if_true, and_true] at hp
    go_simp
    exact hK _ (Grow.refl _)
  -- operation 9
  apply lexf_eq hsz [(8, true)] [(71, 0), (72, 1), (73, 2), (74, 3), (75, 4), (76, 5), (77, 6), (78, 7), (79, 8), (81, 10), (83, 12), (84, 13), (85, 14), (86, 15), (87, 16), (88, 17), (89, 18), (90, 19), (91, 20), (92, 21), (93, 22), (94, 23), (95, 24), (96, 25), (97, 26), (98, 27), (99, 28), (100, 29), (101, 30), (102, 31), (103, 32), (104, 33), (105, 34), (106, 35), (107, 36), (108, 37), (109, 38), (110, 39), (111, 40), (112, 41), (113, 42), (114, 43), (115, 44), (116, 45), (117, 46), (118, 47), (119, 48), (120, 49), (121, 50), (122, 51), (123, 52), (124, 53), (125, 54)] (some (79, true)) (by kernel_rfl) (by kernel_rfl) (by kernel_rfl) (by kernel_rfl) rfl
  · intro xs w hw hp K hK
    simp only [holdsL, List.nil_append, List.cons_append, List.getD_cons_succ, List.getD_cons_zero, if_true, and_true] at hp
    go_simp
    exact hK _ (Grow.refl _)
  -- operation 10
  apply lexf_eq hsz [(8, true)] [(71, 0), (72, 1), (73, 2), (74, 3), (75, 4), (76, 5), (77, 6), (78, 7), (79, 8), (80, 9), (83, 12), (84, 13), (85, 14), (86, 15), (87, 16), (88, 17), (89, 18), (90, 19), (91, 20), (92, 21), (93, 22), (94, 23), (95, 24), (96, 25), (97, 26), (98, 27), (99, 28), (100, 29), (101, 30), (102, 31), (103, 32), (104, 33), (105, 34), (106, 35), (107, 36), (108, 37), (109, 38), (110, 39), (111, 40), (112, 41), (113, 42), (114, 43), (115, 44), (116, 45), (117, 46), (118, 47), (119, 48), (120, 49), (121, 50), (122, 51), (123, 52), (124, 53), (125, 54)] (some (79, true)) (by kernel_rfl) (by kernel_rfl) (by kernel_rfl) (by kernel_rfl) rfl
  · intro xs w hw hp K hK
    simp only [holdsL, List.nil_append, List.cons_append, List.getD_cons_succ, List.getD_cons_zero, if_true, and_true] at hp
    go_simp
    exact hK _ (Grow.refl _)
  -- operation 11
  apply lexf_eq hsz [(8, true), (9, true), (10, true)] [(71, 0), (72, 1), (73, 2), (74, 3), (75, 4), (76, 5), (77, 6), (78, 7), (79, 8), (80, 9), (81, 10), (84, 13), (85, 14), (86, 15), (87, 16), (88, 17), (89, 18), (90, 19), (91, 20), (92, 21), (93, 22), (94, 23), (95, 24), (96, 25), (97, 26), (98, 27), (99, 28), (100, 29), (101, 30), (102, 31), (103, 32), (104, 33), (105, 34), (106, 35), (107, 36), (108, 37), (109, 38), (110, 39), (111, 40), (112, 41), (113, 42), (114, 43), (115, 44), (116, 45), (117, 46), (118, 47), (119, 48), (120, 49), (121, 50), (122, 51), (123, 52), (124, 53), (125, 54)] (some (79, true)) (by kernel_rfl) (by kernel_rfl) (by kernel_rfl) (by kernel_rfl) rfl
  · intro xs w hw hp K hK
    simp only [holdsL, List.nil_append, List.cons_append, List.getD_cons_succ, List.getD_cons_zero, if_true, and_true] at hp
    go_simp
    exact hK _ (Grow.refl _)
  -- operation 12
  apply lexf_eq hsz [(8, true), (11, true)] [(71, 0), (72, 1), (73, 2), (74, 3), (75, 4), (76, 5), (77, 6), (78, 7), (79, 8), (80, 9), (81, 10), (82, 11), (85, 14), (86, 15), (87, 16), (88, 17), (89, 18), (90, 19), (91, 20), (92, 21), (93, 22), (94, 23), (95, 24), (96, 25), (97, 26), (98, 27), (99, 28), (100, 29), (101, 30), (102, 31), (103, 32), (104, 33), (105, 34), (106, 35), (107, 36), (108, 37), (109, 38), (110, 39), (111, 40), (112, 41), (113, 42), (114, 43), (115, 44), (116, 45), (117, 46), (118, 47), (119, 48), (120, 49), (121, 50), (122, 51), (123, 52), (124, 53), (125, 54)] none (by kernel_rfl) (by kernel_rfl) (by kernel_rfl) (by kernel_rfl) rfl
  · intro xs w hw hp K hK
    simp only [holdsL, List.nil_append, List.cons_append, List.getD_cons_succ, List.getD_cons_zero, if_true, and_true] at hp
    go_simp
    exact hK _ (Grow.refl _)
  -- operation 13
  apply lexf_eq hsz [(12, true)] [(71, 0), (72, 1), (73, 2), (74, 3), (75, 4), (76, 5), (77, 6), (78, 7), (79, 8), (80, 9), (81, 10), (82, 11), (83, 12), (90, 19), (91, 20), (92, 21), (93, 22), (94, 23), (95, 24), (96, 25), (97, 26), (98, 27), (99, 28), (100, 29), (101, 30), (102, 31), (103, 32), (104, 33), (105, 34), (106, 35), (107, 36), (108, 37), (109, 38), (110, 39), (111, 40), (112, 41), (113, 42), (114, 43), (115, 44), (116, 45), (117, 46), (118, 47), (119, 48), (120, 49), (121, 50), (122, 51), (123, 52), (124, 53), (125, 54)] none (by kernel_rfl) (by kernel_rfl) (by kernel_rfl) (by kernel_rfl) rfl
  · intro xs w hw hp K hK
    simp only [holdsL, List.nil_append, List.cons_append, List.getD_cons_succ, List.getD_cons_zero, if_true, and_true] at hp
    go_simp
    exact hK _ (Grow.refl _)
  -- operation 14
  apply lexf_eq hsz [(13, true)] [(71, 0), (72, 1), (73, 2), (74, 3), (75, 4), (76, 5), (77, 6), (78, 7), (79, 8), (80, 9), (81, 10), (82, 11), (83, 12), (84, 13), (86, 15), (88, 17), (89, 18), (90, 19), (91, 20), (92, 21), (93, 22), (94, 23), (95, 24), (96, 25), (97, 26), (98, 27), (99, 28), (100, 29), (101, 30), (102, 31), (103, 32), (104, 33), (105, 34), (106, 35), (107, 36), (108, 37), (109, 38), (110, 39), (111, 40), (112, 41), (113, 42), (114, 43), (115, 44), (116, 45), (117, 46), (118, 47), (119, 48), (120, 49), (121, 50), (122, 51), (123, 52), (124, 53), (125, 54)] (some (84, true)) (by kernel_rfl) (by kernel_rfl) (by kernel_rfl) (by kernel_rfl) rfl
  · intro xs w hw hp K hK
    simp only [holdsL, List.nil_append, List.cons_append, List.getD_cons_succ, List.getD_cons_zero, if_true, and_true] at hp
    go_simp
    exact hK _ (Grow.refl _)
  -- operation 15
  apply lexf_eq hsz [(13, true)] [(71, 0), (72, 1), (73, 2), (74, 3), (75, 4), (76, 5), (77, 6), (78, 7), (79, 8), (80, 9), (81, 10), (82, 11), (83, 12), (84, 13), (85, 14), (88, 17), (89, 18), (90, 19), (91, 20), (92, 21), (93, 22), (94, 23), (95, 24), (96, 25), (97, 26), (98, 27), (99, 28), (100, 29), (101, 30), (102, 31), (103, 32), (104, 33), (105, 34), (106, 35), (107, 36), (108, 37), (109, 38), (110, 39), (111, 40), (112, 41), (113, 42), (114, 43), (115, 44), (116, 45), (117, 46), (118, 47), (119, 48), (120, 49), (121, 50), (122, 51), (123, 52), (124, 53), (125, 54)] (some (84, true)) (by kernel_rfl) (by kernel_rfl) (by kernel_rfl) (by kernel_rfl) rfl
  · intro xs w hw hp K hK
    simp only [holdsL, List.nil_append, List.cons_append, List.getD_cons_succ, List.getD_cons_zero, if_true, and_true] at hp
    go_simp
    exact hK _ (Grow.refl _)
  -- operation 16
  apply lexf_eq hsz [(13, true), (14, true), (15, true)] [(71, 0), (72, 1), (73, 2), (74, 3), (75, 4), (76, 5), (77, 6), (78, 7), (79, 8), (80, 9), (81, 10), (82, 11), (83, 12), (84, 13), (85, 14), (86, 15), (89, 18), (90, 19), (91, 20), (92, 21), (93, 22), (94, 23), (95, 24), (96, 25), (97, 26), (98, 27), (99, 28), (100, 29), (101, 30), (102, 31), (103, 32), (104, 33), (105, 34), (106, 35), (107, 36), (108, 37), (109, 38), (110, 39), (111, 40), (112, 41), (113, 42), (114, 43), (115, 44), (116, 45), (117, 46), (118, 47), (119, 48), (120, 49), (121, 50), (122, 51), (123, 52), (124, 53), (125, 54)] (some (84, true)) (by kernel_rfl) (by kernel_rfl) (by kernel_rfl) (by kernel_rfl) rfl
  · intro xs w hw hp K hK
    simp only [holdsL, List.nil_append, List.cons_append, List.getD_cons_succ, List.getD_cons_zero, if_true, and_true] at hp
    go_simp
    exact hK _ (Grow.refl _)
  -- operation 17
  apply lexf_eq hsz [(13, true), (16, true)] [(71, 0), (72, 1), (73, 2), (74, 3), (75, 4), (76, 5), (77, 6), (78, 7), (79, 8), (80, 9), (81, 10), (82, 11), (83, 12), (84, 13), (85, 14), (86, 15), (87, 16), (90, 19), (91, 20), (92, 21), (93, 22), (94, 23), (95, 24), (96, 25), (97, 26), (98, 27), (99, 28), (100, 29), (101, 30), (102, 31), (103, 32), (104, 33), (105, 34), (106, 35), (107, 36), (108, 37), (109, 38), (110, 39), (111, 40), (112, 41), (113, 42), (114, 43), (115, 44), (116, 45), (117, 46), (118, 47), (119, 48), (120, 49), (121, 50), (122, 51), (123, 52), (124, 53), (125, 54)] none (by kernel_rfl) (by kernel_rfl) (by kernel_rfl) (by kernel_rfl) rfl
  · intro xs w hw hp K hK
    simp only [holdsL, List.nil_append, List.cons_append, List.getD_cons_succ, List.getD_cons_zero, if_true, and_true] at hp
    go_simp
    exact hK _ (Grow.refl _)
  -- operation 18
  apply lexf_eq hsz [(17, true)] [(71, 0), (72, 1), (73, 2), (74, 3), (75, 4), (76, 5), (77, 6), (78, 7), (79, 8), (80, 9), (81, 10), (82, 11), (83, 12), (84, 13), (85, 14), (86, 15), (87, 16), (88, 17), (95, 24), (96, 25), (97, 26), (98, 27), (99, 28), (100, 29), (101, 30), (102, 31), (103, 32), (104, 33), (105, 34), (106, 35), (107, 36), (108, 37), (109, 38), (110, 39), (111, 40), (112, 41), (113, 42), (114, 43), (115, 44), (116, 45), (117, 46), (118, 47), (119, 48), (120, 49), (121, 50), (122, 51), (123, 52), (124, 53), (125, 54)] none (by kernel_rfl) (by kernel_rfl) (by kernel_rfl) (by kernel_rfl) rfl
  · intro xs w hw hp K hK
    simp only [holdsL, List.nil_append, List.cons_append, List.getD_cons_succ, List.getD_cons_zero, if_true, and_true] at hp
    go_simp
    exact hK _ (Grow.refl _)
  -- operation 19
  apply lexf_eq hsz [(18, true)] [(71, 0), (72, 1), (73, 2), (74, 3), (75, 4), (76, 5), (77, 6), (78, 7), (79, 8), (80, 9), (81, 10), (82, 11), (83, 12), (84, 13), (85, 14), (86, 15), (87, 16), (88, 17), (89, 18), (91, 20), (93, 22), (94, 23), (95, 24), (96, 25), (97, 26), (98, 27), (99, 28), (100, 29), (101, 30), (102, 31), (103, 32), (104, 33), (105, 34), (106, 35), (107, 36), (108, 37), (109, 38), (110, 39), (111, 40), (112, 41), (113, 42), (114, 43), (115, 44), (116, 45), (117, 46), (118, 47), (119, 48), (120, 49), (121, 50), (122, 51), (123, 52), (124, 53), (125, 54)] (some (89, true)) (by kernel_rfl) (by kernel_rfl) (by kernel_rfl) (by kernel_rfl) rfl
  · intro xs w hw hp K hK
    simp only [holdsL, List.nil_append, List.cons_append, List.getD_cons_succ, List.getD_cons_zero, if_true, and_true] at hp
    obtain ⟨c0, c1, c2, _⟩ := HX.out w hw
    go_simp
    exact hK _ (Grow.refl _)
  -- operation 20
  apply lexf_eq hsz [(18, true)] [(71, 0), (72, 1), (73, 2), (74, 3), (75, 4), (76, 5), (77, 6), (78, 7), (79, 8), (80, 9), (81, 10), (82, 11), (83, 12), (84, 13), (85, 14), (86, 15), (87, 16), (88, 17), (89, 18), (90, 19), (93, 22), (94, 23), (95, 24), (96, 25), (97, 26), (98, 27), (99, 28), (100, 29), (101, 30), (102, 31), (103, 32), (104, 33), (105, 34), (106, 35), (107, 36), (108, 37), (109, 38), (110, 39), (111, 40), (112, 41), (113, 42), (114, 43), (115, 44), (116, 45), (117, 46), (118, 47), (119, 48), (120, 49), (121, 50), (122, 51), (123, 52), (124, 53), (125, 54)] (some (89, true)) (by kernel_rfl) (by kernel_rfl) (by kernel_rfl) (by kernel_rfl) rfl
  · intro xs w hw hp K hK
    simp only [holdsL, List.nil_append, List.cons_append, List.getD_cons_succ, List.getD_cons_zero, if_true, and_true] at hp
    obtain ⟨c0, c1, c2, _⟩ := HY.out w hw
    go_simp
    exact hK _ (Grow.refl _)
  -- operation 21
  apply lexf_eq hsz [(18, true), (19, true), (20, true)] [(71, 0), (72, 1), (73, 2), (74, 3), (75, 4), (76, 5), (77, 6), (78, 7), (79, 8), (80, 9), (81, 10), (82, 11), (83, 12), (84, 13), (85, 14), (86, 15), (87, 16), (88, 17), (89, 18), (90, 19), (91, 20), (94, 23), (95, 24), (96, 25), (97, 26), (98, 27), (99, 28), (100, 29), (101, 30), (102, 31), (103, 32), (104, 33), (105, 34), (106, 35), (107, 36), (108, 37), (109, 38), (110, 39), (111, 40), (112, 41), (113, 42), (114, 43), (115, 44), (116, 45), (117, 46), (118, 47), (119, 48), (120, 49), (121, 50), (122, 51), (123, 52), (124, 53), (125, 54)] (some (89, true)) (by kernel_rfl) (by kernel_rfl) (by kernel_rfl) (by kernel_rfl) rfl
  · intro xs w hw hp K hK
    simp only [holdsL, List.nil_append, List.cons_append, List.getD_cons_succ, List.getD_cons_zero, if_true, and_true] at hp
    go_simp
    exact hK _ (Grow.refl _)
  -- operation 22
  apply lexf_eq hsz [(18, true), (21, true)] [(71, 0), (72, 1), (73, 2), (74, 3), (75, 4), (76, 5), (77, 6), (78, 7), (79, 8), (80, 9), (81, 10), (82, 11), (83, 12), (84, 13), (85, 14), (86, 15), (87, 16), (88, 17), (89, 18), (90, 19), (91, 20), (92, 21), (95, 24), (96, 25), (97, 26), (98, 27), (99, 28), (100, 29), (101, 30), (102, 31), (103, 32), (104, 33), (105, 34), (106, 35), (107, 36), (108, 37), (109, 38), (110, 39), (111, 40), (112, 41), (113, 42), (114, 43), (115, 44), (116, 45), (117, 46), (118, 47), (119, 48), (120, 49), (121, 50), (122, 51), (123, 52), (124, 53), (125, 54)] none (by kernel_rfl) (by kernel_rfl) (by kernel_rfl) (by kernel_rfl) rfl
  · intro xs w hw hp K hK
    simp only [holdsL, List.nil_append, List.cons_append, List.getD_cons_succ, List.getD_cons_zero, if_true, and_true] at hp
    go_simp
    exact hK _ (Grow.refl _)
  -- operation 23
  apply lexf_eq hsz [(22, true)] [(71, 0), (72, 1), (73, 2), (74, 3), (75, 4), (76, 5), (77, 6), (78, 7), (79, 8), (80, 9), (81, 10), (82, 11), (83, 12), (84, 13), (85, 14), (86, 15), (87, 16), (88, 17), (89, 18), (90, 19), (91, 20), (92, 21), (93, 22), (100, 29), (101, 30), (102, 31), (103, 32), (104, 33), (105, 34), (106, 35), (107, 36), (108, 37), (109, 38), (110, 39), (111, 40), (112, 41), (113, 42), (114, 43), (115, 44), (116, 45), (117, 46), (118, 47), (119, 48), (120, 49), (121, 50), (122, 51), (123, 52), (124, 53), (125, 54)] none (by kernel_rfl) (by kernel_rfl) (by kernel_rfl) (by kernel_rfl) rfl
  · intro xs w hw hp K hK
    simp only [holdsL, List.nil_append, List.cons_append, List.getD_cons_succ, List.getD_cons_zero, if_true, and_true] at hp
    go_simp
    exact hK _ (Grow.refl _)
  -- operation 24
  apply lexf_eq hsz [(23, true)] [(71, 0), (72, 1), (73, 2), (74, 3), (75, 4), (76, 5), (77, 6), (78, 7), (79, 8), (80, 9), (81, 10), (82, 11), (83, 12), (84, 13), (85, 14), (86, 15), (87, 16), (88, 17), (89, 18), (90, 19), (91, 20), (92, 21), (93, 22), (94, 23), (96, 25), (98, 27), (99, 28), (100, 29), (101, 30), (102, 31), (103, 32), (104, 33), (105, 34), (106, 35), (107, 36), (108, 37), (109, 38), (110, 39), (111, 40), (112, 41), (113, 42), (114, 43), (115, 44), (116, 45), (117, 46), (118, 47), (119, 48), (120, 49), (121, 50), (122, 51), (123, 52), (124, 53), (125, 54)] (some (94, true)) (by kernel_rfl) (by kernel_rfl) (by kernel_rfl) (by kernel_rfl) rfl
  · intro xs w hw hp K hK
    simp only [holdsL, List.nil_append, List.cons_append, List.getD_cons_succ, List.getD_cons_zero, if_true, and_true] at hp
    go_simp
    exact hK _ (Grow.refl _)
  -- operation 25
  apply lexf_eq hsz [(23, true)] [(71, 0), (72, 1), (73, 2), (74, 3), (75, 4), (76, 5), (77, 6), (78, 7), (79, 8), (80, 9), (81, 10), (82, 11), (83, 12), (84, 13), (85, 14), (86, 15), (87, 16), (88, 17), (89, 18), (90, 19), (91, 20), (92, 21), (93, 22), (94, 23), (95, 24), (98, 27), (99, 28), (100, 29), (101, 30), (102, 31), (103, 32), (104, 33), (105, 34), (106, 35), (107, 36), (108, 37), (109, 38), (110, 39), (111, 40), (112, 41), (113, 42), (114, 43), (115, 44), (116, 45), (117, 46), (118, 47), (119, 48), (120, 49), (121, 50), (122, 51), (123, 52), (124, 53), (125, 54)] (some (94, true)) (by kernel_rfl) (by kernel_rfl) (by kernel_rfl) (by kernel_rfl) rfl
  · intro xs w hw hp K hK
    simp only [holdsL, List.nil_append, List.cons_append, List.getD_cons_succ, List.getD_cons_zero, if_true, and_true] at hp
    go_simp
    exact hK _ (Grow.refl _)
  -- operation 26
  apply lexf_eq hsz [(23, true), (24, true), (25, true)] [(71, 0), (72, 1), (73, 2), (74, 3), (75, 4), (76, 5), (77, 6), (78, 7), (79, 8), (80, 9), (81, 10), (82, 11), (83, 12), (84, 13), (85, 14), (86, 15), (87, 16), (88, 17), (89, 18), (90, 19), (91, 20), (92, 21), (93, 22), (94, 23), (95, 24), (96, 25), (99, 28), (100, 29), (101, 30), (102, 31), (103, 32), (104, 33), (105, 34), (106, 35), (107, 36), (108, 37), (109, 38), (110, 39), (111, 40), (112, 41), (113, 42), (114, 43), (115, 44), (116, 45), (117, 46), (118, 47), (119, 48), (120, 49), (121, 50), (122, 51), (123, 52), (124, 53), (125, 54)] (some (94, true)) (by kernel_rfl) (by kernel_rfl) (by kernel_rfl) (by kernel_rfl) rfl
  · intro xs w hw hp K hK
    simp only [holdsL, List.nil_append, List.cons_append, List.getD_cons_succ, List.getD_cons_zero, if_true, and_true] at hp
    go_simp
    exact hK _ (Grow.refl _)
  -- operation 27
  apply lexf_eq hsz [(23, true), (26, true)] [(71, 0), (72, 1), (73, 2), (74, 3), (75, 4), (76, 5), (77, 6), (78, 7), (79, 8), (80, 9), (81, 10), (82, 11), (83, 12), (84, 13), (85, 14), (86, 15), (87, 16), (88, 17), (89, 18), (90, 19), (91, 20), (92, 21), (93, 22), (94, 23), (95, 24), (96, 25), (97, 26), (100, 29), (101, 30), (102, 31), (103, 32), (104, 33), (105, 34), (106, 35), (107, 36), (108, 37), (109, 38), (110, 39), (111, 40), (112, 41), (113, 42), (114, 43), (115, 44), (116, 45), (117, 46), (118, 47), (119, 48), (120, 49), (121, 50), (122, 51), (123, 52), (124, 53), (125, 54)] none (by kernel_rfl) (by kernel_rfl) (by kernel_rfl) (by kernel_rfl) rfl
  · intro xs w hw hp K hK
    simp only [holdsL, List.nil_append, List.cons_append, List.getD_cons_succ, List.getD_cons_zero, if_true, and_true] at hp
    go_simp
    exact hK _ (Grow.refl _)
  -- operation 28
  apply lexf_eq hsz [(27, true)] [(71, 0), (72, 1), (73, 2), (74, 3), (75, 4), (76, 5), (77, 6), (78, 7), (79, 8), (80, 9), (81, 10), (82, 11), (83, 12), (84, 13), (85, 14), (86, 15), (87, 16), (88, 17), (89, 18), (90, 19), (91, 20), (92, 21), (93, 22), (94, 23), (95, 24), (96, 25), (97, 26), (98, 27), (105, 34), (106, 35), (107, 36), (108, 37), (109, 38), (110, 39), (111, 40), (112, 41), (113, 42), (114, 43), (115, 44), (116, 45), (117, 46), (118, 47), (119, 48), (120, 49), (121, 50), (122, 51), (123, 52), (124, 53), (125, 54)] none (by kernel_rfl) (by kernel_rfl) (by kernel_rfl) (by kernel_rfl) rfl
  · intro xs w hw hp K hK
    simp only [holdsL, List.nil_append, List.cons_append, List.getD_cons_succ, List.getD_cons_zero, if_true, and_true] at hp
    go_simp
    exact hK _ (Grow.refl _)
  -- operation 29
  apply lexf_eq hsz [(28, true)] [(71, 0), (72, 1), (73, 2), (74, 3), (75, 4), (76, 5), (77, 6), (78, 7), (79, 8), (80, 9), (81, 10), (82, 11), (83, 12), (84, 13), (85, 14), (86, 15), (87, 16), (88, 17), (89, 18), (90, 19), (91, 20), (92, 21), (93, 22), (94, 23), (95, 24), (96, 25), (97, 26), (98, 27), (99, 28), (101, 30), (103, 32), (104, 33), (105, 34), (106, 35), (107, 36), (108, 37), (109, 38), (110, 39), (111, 40), (112, 41), (113, 42), (114, 43), (115, 44), (116, 45), (117, 46), (118, 47), (119, 48), (120, 49), (121, 50), (122, 51), (123, 52), (124, 53), (125, 54)] (some (99, true)) (by kernel_rfl) (by kernel_rfl) (by kernel_rfl) (by kernel_rfl) rfl
  · intro xs w hw hp K hK
    simp only [holdsL, List.nil_append, List.cons_append, List.getD_cons_succ, List.getD_cons_zero, if_true, and_true] at hp
    obtain ⟨c0, c1, c2, _⟩ := HZ.out w hw
    go_simp
    exact hK _ (Grow.refl _)
  -- operation 30
  apply lexf_eq hsz [(28, true)] [(71, 0), (72, 1), (73, 2), (74, 3), (75, 4), (76, 5), (77, 6), (78, 7), (79, 8), (80, 9), (81, 10), (82, 11), (83, 12), (84, 13), (85, 14), (86, 15), (87, 16), (88, 17), (89, 18), (90, 19), (91, 20), (92, 21), (93, 22), (94, 23), (95, 24), (96, 25), (97, 26), (98, 27), (99, 28), (100, 29), (103, 32), (104, 33), (105, 34), (106, 35), (107, 36), (108, 37), (109, 38), (110, 39), (111, 40), (112, 41), (113, 42), (114, 43), (115, 44), (116, 45), (117, 46), (118, 47), (119, 48), (120, 49), (121, 50), (122, 51), (123, 52), (124, 53), (125, 54)] (some (99, true)) (by kernel_rfl) (by kernel_rfl) (by kernel_rfl) (by kernel_rfl) rfl
  · intro xs w hw hp K hK
    simp only [holdsL, List.nil_append, List.cons_append, List.getD_cons_succ, List.getD_cons_zero, if_true, and_true] at hp
    obtain ⟨c0, c1, c2, _⟩ := HW.out w hw
    go_simp
    exact hK _ (Grow.refl _)
  -- operation 31
  apply lexf_eq hsz [(28, true), (29, true), (30, true)] [(71, 0), (72, 1), (73, 2), (74, 3), (75, 4), (76, 5), (77, 6), (78, 7), (79, 8), (80, 9), (81, 10), (82, 11), (83, 12), (84, 13), (85, 14), (86, 15), (87, 16), (88, 17), (89, 18), (90, 19), (91, 20), (92, 21), (93, 22), (94, 23), (95, 24), (96, 25), (97, 26), (98, 27), (99, 28), (100, 29), (101, 30), (104, 33), (105, 34), (106, 35), (107, 36), (108, 37), (109, 38), (110, 39), (111, 40), (112, 41), (113, 42), (114, 43), (115, 44), (116, 45), (117, 46), (118, 47), (119, 48), (120, 49), (121, 50), (122, 51), (123, 52), (124, 53), (125, 54)] (some (99, true)) (by kernel_rfl) (by kernel_rfl) (by kernel_rfl) (by kernel_rfl) rfl
  · intro xs w hw hp K hK
    simp only [holdsL, List.nil_append, List.cons_append, List.getD_cons_succ, List.getD_cons_zero, if_true, and_true] at hp
    go_simp
    exact hK _ (Grow.refl _)
  -- operation 32
  apply lexf_eq hsz [(28, true), (31, true)] [(71, 0), (72, 1), (73, 2), (74, 3), (75, 4), (76, 5), (77, 6), (78, 7), (79, 8), (80, 9), (81, 10), (82, 11), (83, 12), (84, 13), (85, 14), (86, 15), (87, 16), (88, 17), (89, 18), (90, 19), (91, 20), (92, 21), (93, 22), (94, 23), (95, 24), (96, 25), (97, 26), (98, 27), (99, 28), (100, 29), (101, 30), (102, 31), (105, 34), (106, 35), (107, 36), (108, 37), (109, 38), (110, 39), (111, 40), (112, 41), (113, 42), (114, 43), (115, 44), (116, 45), (117, 46), (118, 47), (119, 48), (120, 49), (121, 50), (122, 51), (123, 52), (124, 53), (125, 54)] none (by kernel_rfl) (by kernel_rfl) (by kernel_rfl) (by kernel_rfl) rfl
  · intro xs w hw hp K hK
    simp only [holdsL, List.nil_append, List.cons_append, List.getD_cons_succ, List.getD_cons_zero, if_true, and_true] at hp
    go_simp
    exact hK _ (Grow.refl _)
  -- operation 33
  apply lexf_eq hsz [(32, true)] [(71, 0), (72, 1), (73, 2), (74, 3), (75, 4), (76, 5), (77, 6), (78, 7), (79, 8), (80, 9), (81, 10), (82, 11), (83, 12), (84, 13), (85, 14), (86, 15), (87, 16), (88, 17), (89, 18), (90, 19), (91, 20), (92, 21), (93, 22), (94, 23), (95, 24), (96, 25), (97, 26), (98, 27), (99, 28), (100, 29), (101, 30), (102, 31), (103, 32), (110, 39), (111, 40), (112, 41), (113, 42), (114, 43), (115, 44), (116, 45), (117, 46), (118, 47), (119, 48), (120, 49), (121, 50), (122, 51), (123, 52), (124, 53), (125, 54)] none (by kernel_rfl) (by kernel_rfl) (by kernel_rfl) (by kernel_rfl) rfl
  · intro xs w hw hp K hK
    simp only [holdsL, List.nil_append, List.cons_append, List.getD_cons_succ, List.getD_cons_zero, if_true, and_true] at hp
    go_simp
    exact hK _ (Grow.refl _)
  -- operation 34
  apply lexf_eq hsz [(33, true)] [(71, 0), (72, 1), (73, 2), (74, 3), (75, 4), (76, 5), (77, 6), (78, 7), (79, 8), (80, 9), (81, 10), (82, 11), (83, 12), (84, 13), (85, 14), (86, 15), (87, 16), (88, 17), (89, 18), (90, 19), (91, 20), (92, 21), (93, 22), (94, 23), (95, 24), (96, 25), (97, 26), (98, 27), (99, 28), (100, 29), (101, 30), (102, 31), (103, 32), (104, 33), (106, 35), (108, 37), (109, 38), (110, 39), (111, 40), (112, 41), (113, 42), (114, 43), (115, 44), (116, 45), (117, 46), (118, 47), (119, 48), (120, 49), (121, 50), (122, 51), (123, 52), (124, 53), (125, 54)] (some (104, true)) (by kernel_rfl) (by kernel_rfl) (by kernel_rfl) (by kernel_rfl) rfl
  · intro xs w hw hp K hK
    simp only [holdsL, List.nil_append, List.cons_append, List.getD_cons_succ, List.getD_cons_zero, if_true, and_true] at hp
    go_simp
    exact hK _ (Grow.refl _)
  -- operation 35
  apply lexf_eq hsz [(33, true)] [(71, 0), (72, 1), (73, 2), (74, 3), (75, 4), (76, 5), (77, 6), (78, 7), (79, 8), (80, 9), (81, 10), (82, 11), (83, 12), (84, 13), (85, 14), (86, 15), (87, 16), (88, 17), (89, 18), (90, 19), (91, 20), (92, 21), (93, 22), (94, 23), (95, 24), (96, 25), (97, 26), (98, 27), (99, 28), (100, 29), (101, 30), (102, 31), (103, 32), (104, 33), (105, 34), (108, 37), (109, 38), (110, 39), (111, 40), (112, 41), (113, 42), (114, 43), (115, 44), (116, 45), (117, 46), (118, 47), (119, 48), (120, 49), (121, 50), (122, 51), (123, 52), (124, 53), (125, 54)] (some (104, true)) (by kernel_rfl) (by kernel_rfl) (by kernel_rfl) (by kernel_rfl) rfl
  · intro xs w hw hp K hK
    simp only [holdsL, List.nil_append, List.cons_append, List.getD_cons_succ, List.getD_cons_zero, if_true, and_true] at hp
    go_simp
    exact hK _ (Grow.refl _)
  -- operation 36
  apply lexf_eq hsz [(33, true), (34, true), (35, true)] [(71, 0), (72, 1), (73, 2), (74, 3), (75, 4), (76, 5), (77, 6), (78, 7), (79, 8), (80, 9), (81, 10), (82, 11), (83, 12), (84, 13), (85, 14), (86, 15), (87, 16), (88, 17), (89, 18), (90, 19), (91, 20), (92, 21), (93, 22), (94, 23), (95, 24), (96, 25), (97, 26), (98, 27), (99, 28), (100, 29), (101, 30), (102, 31), (103, 32), (104, 33), (105, 34), (106, 35), (109, 38), (110, 39), (111, 40), (112, 41), (113, 42), (114, 43), (115, 44), (116, 45), (117, 46), (118, 47), (119, 48), (120, 49), (121, 50), (122, 51), (123, 52), (124, 53), (125, 54)] (some (104, true)) (by kernel_rfl) (by kernel_rfl) (by kernel_rfl) (by kernel_rfl) rfl
  · intro xs w hw hp K hK
    simp only [holdsL, List.nil_append, List.cons_append, List.getD_cons_succ, List.getD_cons_zero, if_true, and_true] at hp
    go_simp
    exact hK _ (Grow.refl _)
  -- operation 37
  apply lexf_eq hsz [(33, true), (36, true)] [(71, 0), (72, 1), (73, 2), (74, 3), (75, 4), (76, 5), (77, 6), (78, 7), (79, 8), (80, 9), (81, 10), (82, 11), (83, 12), (84, 13), (85, 14), (86, 15), (87, 16), (88, 17), (89, 18), (90, 19), (91, 20), (92, 21), (93, 22), (94, 23), (95, 24), (96, 25), (97, 26), (98, 27), (99, 28), (100, 29), (101, 30), (102, 31), (103, 32), (104, 33), (105, 34), (106, 35), (107, 36), (110, 39), (111, 40), (112, 41), (113, 42), (114, 43), (115, 44), (116, 45), (117, 46), (118, 47), (119, 48), (120, 49), (121, 50), (122, 51), (123, 52), (124, 53), (125, 54)] none (by kernel_rfl) (by kernel_rfl) (by kernel_rfl) (by kernel_rfl) rfl
  · intro xs w hw hp K hK
    simp only [holdsL, List.nil_append, List.cons_append, List.getD_cons_succ, List.getD_cons_zero, if_true, and_true] at hp
    go_simp
    exact hK _ (Grow.refl _)
  -- operation 38
  apply lexf_eq hsz [(37, true)] [(71, 0), (72, 1), (73, 2), (74, 3), (75, 4), (76, 5), (77, 6), (78, 7), (79, 8), (80, 9), (81, 10), (82, 11), (83, 12), (84, 13), (85, 14), (86, 15), (87, 16), (88, 17), (89, 18), (90, 19), (91, 20), (92, 21), (93, 22), (94, 23), (95, 24), (96, 25), (97, 26), (98, 27), (99, 28), (100, 29), (101, 30), (102, 31), (103, 32), (104, 33), (105, 34), (106, 35), (107, 36), (108, 37), (115, 44), (116, 45), (117, 46), (118, 47), (119, 48), (120, 49), (121, 50), (122, 51), (123, 52), (124, 53), (125, 54)] none (by kernel_rfl) (by kernel_rfl) (by kernel_rfl) (by kernel_rfl) rfl
  · intro xs w hw hp K hK
    simp only [holdsL, List.nil_append, List.cons_append, List.getD_cons_succ, List.getD_cons_zero, if_true, and_true] at hp
    go_simp
    exact hK _ (Grow.refl _)
  -- operation 39
  apply lexf_eq hsz [(38, true)] [(71, 0), (72, 1), (73, 2), (74, 3), (75, 4), (76, 5), (77, 6), (78, 7), (79, 8), (80, 9), (81, 10), (82, 11), (83, 12), (84, 13), (85, 14), (86, 15), (87, 16), (88, 17), (89, 18), (90, 19), (91, 20), (92, 21), (93, 22), (94, 23), (95, 24), (96, 25), (97, 26), (98, 27), (99, 28), (100, 29), (101, 30), (102, 31), (103, 32), (104, 33), (105, 34), (106, 35), (107, 36), (108, 37), (109, 38), (111, 40), (113, 42), (114, 43), (115, 44), (116, 45), (117, 46), (118, 47), (119, 48), (120, 49), (121, 50), (122, 51), (123, 52), (124, 53), (125, 54)] (some (109, true)) (by kernel_rfl) (by kernel_rfl) (by kernel_rfl) (by kernel_rfl) rfl
  · intro xs w hw hp K hK
    simp only [holdsL, List.nil_append, List.cons_append, List.getD_cons_succ, List.getD_cons_zero, if_true, and_true] at hp
    go_simp
    exact hK _ (Grow.refl _)
  -- operation 40
  apply lexf_eq hsz [(38, true)] [(71, 0), (72, 1), (73, 2), (74, 3), (75, 4), (76, 5), (77, 6), (78, 7), (79, 8), (80, 9), (81, 10), (82, 11), (83, 12), (84, 13), (85, 14), (86, 15), (87, 16), (88, 17), (89, 18), (90, 19), (91, 20), (92, 21), (93, 22), (94, 23), (95, 24), (96, 25), (97, 26), (98, 27), (99, 28), (100, 29), (101, 30), (102, 31), (103, 32), (104, 33), (105, 34), (106, 35), (107, 36), (108, 37), (109, 38), (110, 39), (113, 42), (114, 43), (115, 44), (116, 45), (117, 46), (118, 47), (119, 48), (120, 49), (121, 50), (122, 51), (123, 52), (124, 53), (125, 54)] (some (109, true)) (by kernel_rfl) (by kernel_rfl) (by kernel_rfl) (by kernel_rfl) rfl
  · intro xs w hw hp K hK
    simp only [holdsL, List.nil_append, List.cons_append, List.getD_cons_succ, List.getD_cons_zero, if_true, and_true] at hp
    go_simp
    exact hK _ (Grow.refl _)
  -- operation 41
  apply lexf_eq hsz [(38, true), (39, true), (40, true)] [(71, 0), (72, 1), (73, 2), (74, 3), (75, 4), (76, 5), (77, 6), (78, 7), (79, 8), (80, 9), (81, 10), (82, 11), (83, 12), (84, 13), (85, 14), (86, 15), (87, 16), (88, 17), (89, 18), (90, 19), (91, 20), (92, 21), (93, 22), (94, 23), (95, 24), (96, 25), (97, 26), (98, 27), (99, 28), (100, 29), (101, 30), (102, 31), (103, 32), (104, 33), (105, 34), (106, 35), (107, 36), (108, 37), (109, 38), (110, 39), (111, 40), (114, 43), (115, 44), (116, 45), (117, 46), (118, 47), (119, 48), (120, 49), (121, 50), (122, 51), (123, 52), (124, 53), (125, 54)] (some (109, true)) (by kernel_rfl) (by kernel_rfl) (by kernel_rfl) (by kernel_rfl) rfl
  · intro xs w hw hp K hK
    simp only [holdsL, List.nil_append, List.cons_append, List.getD_cons_succ, List.getD_cons_zero, if_true, and_true] at hp
    go_simp
    exact hK _ (Grow.refl _)
  -- operation 42
  apply lexf_eq hsz [(38, true), (41, true)] [(71, 0), (72, 1), (73, 2), (74, 3), (75, 4), (76, 5), (77, 6), (78, 7), (79, 8), (80, 9), (81, 10), (82, 11), (83, 12), (84, 13), (85, 14), (86, 15), (87, 16), (88, 17), (89, 18), (90, 19), (91, 20), (92, 21), (93, 22), (94, 23), (95, 24), (96, 25), (97, 26), (98, 27), (99, 28), (100, 29), (101, 30), (102, 31), (103, 32), (104, 33), (105, 34), (106, 35), (107, 36), (108, 37), (109, 38), (110, 39), (111, 40), (112, 41), (115, 44), (116, 45), (117, 46), (118, 47), (119, 48), (120, 49), (121, 50), (122, 51), (123, 52), (124, 53), (125, 54)] none (by kernel_rfl) (by kernel_rfl) (by kernel_rfl) (by kernel_rfl) rfl
  · intro xs w hw hp K hK
    simp only [holdsL, List.nil_append, List.cons_append, List.getD_cons_succ, List.getD_cons_zero, if_true, and_true] at hp
    go_simp
    exact hK _ (Grow.refl _)
  -- operation 43
  apply lexf_eq hsz [(42, true)] [(71, 0), (72, 1), (73, 2), (74, 3), (75, 4), (76, 5), (77, 6), (78, 7), (79, 8), (80, 9), (81, 10), (82, 11), (83, 12), (84, 13), (85, 14), (86, 15), (87, 16), (88, 17), (89, 18), (90, 19), (91, 20), (92, 21), (93, 22), (94, 23), (95, 24), (96, 25), (97, 26), (98, 27), (99, 28), (100, 29), (101, 30), (102, 31), (103, 32), (104, 33), (105, 34), (106, 35), (107, 36), (108, 37), (109, 38), (110, 39), (111, 40), (112, 41), (113, 42), (123, 52), (124, 53), (125, 54)] none (by kernel_rfl) (by kernel_rfl) (by kernel_rfl) (by kernel_rfl) rfl
  · intro xs w hw hp K hK
    simp only [holdsL, List.nil_append, List.cons_append, List.getD_cons_succ, List.getD_cons_zero, if_true, and_true] at hp
    go_simp
    exact hK _ (Grow.refl _)
  -- operation 44
  apply lexf_eq hsz [(43, true)] [(71, 0), (72, 1), (73, 2), (74, 3), (75, 4), (76, 5), (77, 6), (78, 7), (79, 8), (80, 9), (81, 10), (82, 11), (83, 12), (84, 13), (85, 14), (86, 15), (87, 16), (88, 17), (89, 18), (90, 19), (91, 20), (92, 21), (93, 22), (94, 23), (95, 24), (96, 25), (97, 26), (98, 27), (99, 28), (100, 29), (101, 30), (102, 31), (103, 32), (104, 33), (105, 34), (106, 35), (107, 36), (108, 37), (109, 38), (110, 39), (111, 40), (112, 41), (113, 42), (114, 43), (116, 45), (118, 47), (119, 48), (120, 49), (121, 50), (122, 51), (123, 52), (124, 53), (125, 54)] (some (114, true)) (by kernel_rfl) (by kernel_rfl) (by kernel_rfl) (by kernel_rfl) rfl
  · intro xs w hw hp K hK
    simp only [holdsL, List.nil_append, List.cons_append, List.getD_cons_succ, List.getD_cons_zero, if_true, and_true] at hp
    obtain ⟨c0, c1, c2, _⟩ := HA.out w hw
    go_simp
    exact hK _ (Grow.refl _)
  -- operation 45
  apply lexf_eq hsz [(43, true)] [(71, 0), (72, 1), (73, 2), (74, 3), (75, 4), (76, 5), (77, 6), (78, 7), (79, 8), (80, 9), (81, 10), (82, 11), (83, 12), (84, 13), (85, 14), (86, 15), (87, 16), (88, 17), (89, 18), (90, 19), (91, 20), (92, 21), (93, 22), (94, 23), (95, 24), (96, 25), (97, 26), (98, 27), (99, 28), (100, 29), (101, 30), (102, 31), (103, 32), (104, 33), (105, 34), (106, 35), (107, 36), (108, 37), (109, 38), (110, 39), (111, 40), (112, 41), (113, 42), (114, 43), (115, 44), (118, 47), (119, 48), (120, 49), (121, 50), (122, 51), (123, 52), (124, 53), (125, 54)] (some (114, true)) (by kernel_rfl) (by kernel_rfl) (by kernel_rfl) (by kernel_rfl) rfl
  · intro xs w hw hp K hK
    simp only [holdsL, List.nil_append, List.cons_append, List.getD_cons_succ, List.getD_cons_zero, if_true, and_true] at hp
    obtain ⟨c0, c1, c2, _⟩ := HB.out w hw
    go_simp
    exact hK _ (Grow.refl _)
  -- operation 46
  apply lexf_eq hsz [(43, true), (44, true), (45, true)] [(71, 0), (72, 1), (73, 2), (74, 3), (75, 4), (76, 5), (77, 6), (78, 7), (79, 8), (80, 9), (81, 10), (82, 11), (83, 12), (84, 13), (85, 14), (86, 15), (87, 16), (88, 17), (89, 18), (90, 19), (91, 20), (92, 21), (93, 22), (94, 23), (95, 24), (96, 25), (97, 26), (98, 27), (99, 28), (100, 29), (101, 30), (102, 31), (103, 32), (104, 33), (105, 34), (106, 35), (107, 36), (108, 37), (109, 38), (110, 39), (111, 40), (112, 41), (113, 42), (114, 43), (115, 44), (116, 45), (118, 47), (119, 48), (122, 51), (123, 52), (124, 53), (125, 54)] (some (114, true)) (by kernel_rfl) (by kernel_rfl) (by kernel_rfl) (by kernel_rfl) rfl
  · intro xs w hw hp K hK
    simp only [holdsL, List.nil_append, List.cons_append, List.getD_cons_succ, List.getD_cons_zero, if_true, and_true] at hp
    go_simp
    exact (HCp.out w).mono fun e w' h => ⟨_, h.1, hK _ h.2⟩
  -- operation 47
  apply lexf_eq hsz [(43, true)] [(71, 0), (72, 1), (73, 2), (74, 3), (75, 4), (76, 5), (77, 6), (78, 7), (79, 8), (80, 9), (81, 10), (82, 11), (83, 12), (84, 13), (85, 14), (86, 15), (87, 16), (88, 17), (89, 18), (90, 19), (91, 20), (92, 21), (93, 22), (94, 23), (95, 24), (96, 25), (97, 26), (98, 27), (99, 28), (100, 29), (101, 30), (102, 31), (103, 32), (104, 33), (105, 34), (106, 35), (107, 36), (108, 37), (109, 38), (110, 39), (111, 40), (112, 41), (113, 42), (114, 43), (115, 44), (116, 45), (117, 46), (119, 48), (121, 50), (122, 51), (123, 52), (124, 53), (125, 54)] (some (114, true)) (by kernel_rfl) (by kernel_rfl) (by kernel_rfl) (by kernel_rfl) rfl
  · intro xs w hw hp K hK
    simp only [holdsL, List.nil_append, List.cons_append, List.getD_cons_succ, List.getD_cons_zero, if_true, and_true] at hp
    obtain ⟨c0, c1, c2, _⟩ := HA.out w hw
    go_simp
    exact hK _ (Grow.refl _)
  -- operation 48
  apply lexf_eq hsz [(43, true)] [(71, 0), (72, 1), (73, 2), (74, 3), (75, 4), (76, 5), (77, 6), (78, 7), (79, 8), (80, 9), (81, 10), (82, 11), (83, 12), (84, 13), (85, 14), (86, 15), (87, 16), (88, 17), (89, 18), (90, 19), (91, 20), (92, 21), (93, 22), (94, 23), (95, 24), (96, 25), (97, 26), (98, 27), (99, 28), (100, 29), (101, 30), (102, 31), (103, 32), (104, 33), (105, 34), (106, 35), (107, 36), (108, 37), (109, 38), (110, 39), (111, 40), (112, 41), (113, 42), (114, 43), (115, 44), (116, 45), (117, 46), (118, 47), (121, 50), (122, 51), (123, 52), (124, 53), (125, 54)] (some (114, true)) (by kernel_rfl) (by kernel_rfl) (by kernel_rfl) (by kernel_rfl) rfl
  · intro xs w hw hp K hK
    simp only [holdsL, List.nil_append, List.cons_append, List.getD_cons_succ, List.getD_cons_zero, if_true, and_true] at hp
    obtain ⟨c0, c1, c2, _⟩ := HB.out w hw
    go_simp
    exact hK _ (Grow.refl _)
  -- operation 49
  apply lexf_eq hsz [(43, true), (47, true), (48, true)] [(71, 0), (72, 1), (73, 2), (74, 3), (75, 4), (76, 5), (77, 6), (78, 7), (79, 8), (80, 9), (81, 10), (82, 11), (83, 12), (84, 13), (85, 14), (86, 15), (87, 16), (88, 17), (89, 18), (90, 19), (91, 20), (92, 21), (93, 22), (94, 23), (95, 24), (96, 25), (97, 26), (98, 27), (99, 28), (100, 29), (101, 30), (102, 31), (103, 32), (104, 33), (105, 34), (106, 35), (107, 36), (108, 37), (109, 38), (110, 39), (111, 40), (112, 41), (113, 42), (114, 43), (115, 44), (116, 45), (117, 46), (118, 47), (119, 48), (122, 51), (124, 53), (125, 54)] (some (114, true)) (by kernel_rfl) (by kernel_rfl) (by kernel_rfl) (by kernel_rfl) rfl
  · intro xs w hw hp K hK
    simp only [holdsL, List.nil_append, List.cons_append, List.getD_cons_succ, List.getD_cons_zero, if_true, and_true] at hp
    go_simp
    exact (HRc.out w).mono fun e w' h => ⟨_, h.1, hK _ h.2⟩
  -- operation 50
  apply lexf_eq hsz [(43, true), (46, true), (49, true)] [(71, 0), (72, 1), (73, 2), (74, 3), (75, 4), (76, 5), (77, 6), (78, 7), (79, 8), (80, 9), (81, 10), (82, 11), (83, 12), (84, 13), (85, 14), (86, 15), (87, 16), (88, 17), (89, 18), (90, 19), (91, 20), (92, 21), (93, 22), (94, 23), (95, 24), (96, 25), (97, 26), (98, 27), (99, 28), (100, 29), (101, 30), (102, 31), (103, 32), (104, 33), (105, 34), (106, 35), (107, 36), (108, 37), (109, 38), (110, 39), (111, 40), (112, 41), (113, 42), (114, 43), (115, 44), (116, 45), (117, 46), (118, 47), (119, 48), (120, 49), (123, 52), (124, 53), (125, 54)] (some (114, true)) (by kernel_rfl) (by kernel_rfl) (by kernel_rfl) (by kernel_rfl) rfl
  · intro xs w hw hp K hK
    simp only [holdsL, List.nil_append, List.cons_append, List.getD_cons_succ, List.getD_cons_zero, if_true, and_true] at hp
    go_simp
    exact hK _ (Grow.refl _)
  -- operation 51
  apply lexf_eq hsz [(43, true), (50, true)] [(71, 0), (72, 1), (73, 2), (74, 3), (75, 4), (76, 5), (77, 6), (78, 7), (79, 8), (80, 9), (81, 10), (82, 11), (83, 12), (84, 13), (85, 14), (86, 15), (87, 16), (88, 17), (89, 18), (90, 19), (91, 20), (92, 21), (93, 22), (94, 23), (95, 24), (96, 25), (97, 26), (98, 27), (99, 28), (100, 29), (101, 30), (102, 31), (103, 32), (104, 33), (105, 34), (106, 35), (107, 36), (108, 37), (109, 38), (110, 39), (111, 40), (112, 41), (113, 42), (114, 43), (115, 44), (116, 45), (117, 46), (118, 47), (119, 48), (120, 49), (121, 50), (124, 53), (125, 54)] none (by kernel_rfl) (by kernel_rfl) (by kernel_rfl) (by kernel_rfl) rfl
  · intro xs w hw hp K hK
    simp only [holdsL, List.nil_append, List.cons_append, List.getD_cons_succ, List.getD_cons_zero, if_true, and_true] at hp
    go_simp
    exact hK _ (Grow.refl _)
  -- operation 52
  apply lexf_eq hsz [(51, true)] [(71, 0), (72, 1), (73, 2), (74, 3), (75, 4), (76, 5), (77, 6), (78, 7), (79, 8), (80, 9), (81, 10), (82, 11), (83, 12), (84, 13), (85, 14), (86, 15), (87, 16), (88, 17), (89, 18), (90, 19), (91, 20), (92, 21), (93, 22), (94, 23), (95, 24), (96, 25), (97, 26), (98, 27), (99, 28), (100, 29), (101, 30), (102, 31), (103, 32), (104, 33), (105, 34), (106, 35), (107, 36), (108, 37), (109, 38), (110, 39), (111, 40), (112, 41), (113, 42), (114, 43), (115, 44), (116, 45), (117, 46), (118, 47), (119, 48), (120, 49), (121, 50), (122, 51)] none (by kernel_rfl) (by kernel_rfl) (by kernel_rfl) (by kernel_rfl) rfl
  · intro xs w hw hp K hK
    simp only [holdsL, List.nil_append, List.cons_append, List.getD_cons_succ, List.getD_cons_zero, if_true, and_true] at hp
    go_simp
    exact hK _ (Grow.refl _)
  -- operation 53
  apply lexf_eq hsz [(52, true)] [(71, 0), (72, 1), (73, 2), (74, 3), (75, 4), (76, 5), (77, 6), (78, 7), (79, 8), (80, 9), (81, 10), (82, 11), (83, 12), (84, 13), (85, 14), (86, 15), (87, 16), (88, 17), (89, 18), (90, 19), (91, 20), (92, 21), (93, 22), (94, 23), (95, 24), (96, 25), (97, 26), (98, 27), (99, 28), (100, 29), (101, 30), (102, 31), (103, 32), (104, 33), (105, 34), (106, 35), (107, 36), (108, 37), (109, 38), (110, 39), (111, 40), (112, 41), (113, 42), (114, 43), (115, 44), (116, 45), (117, 46), (118, 47), (119, 48), (120, 49), (121, 50), (122, 51), (123, 52)] (some (123, true)) (by kernel_rfl) (by kernel_rfl) (by kernel_rfl) (by kernel_rfl) rfl
  · intro xs w hw hp K hK
    simp only [holdsL, List.nil_append, List.cons_append, List.getD_cons_succ, List.getD_cons_zero, if_true, and_true] at hp
    go_simp
    exact (awake_any w).mono fun e w' h => ⟨_, h.1, hK _ h.2⟩
  -- operation 54
  apply lexf_eq hsz [(52, true), (53, true)] [(71, 0), (72, 1), (73, 2), (74, 3), (75, 4), (76, 5), (77, 6), (78, 7), (79, 8), (80, 9), (81, 10), (82, 11), (83, 12), (84, 13), (85, 14), (86, 15), (87, 16), (88, 17), (89, 18), (90, 19), (91, 20), (92, 21), (93, 22), (94, 23), (95, 24), (96, 25), (97, 26), (98, 27), (99, 28), (100, 29), (101, 30), (102, 31), (103, 32), (104, 33), (105, 34), (106, 35), (107, 36), (108, 37), (109, 38), (110, 39), (111, 40), (112, 41), (113, 42), (114, 43), (115, 44), (116, 45), (117, 46), (118, 47), (119, 48), (120, 49), (121, 50), (122, 51), (123, 52), (124, 53)] none (by kernel_rfl) (by kernel_rfl) (by kernel_rfl) (by kernel_rfl) rfl
  · intro xs w hw hp K hK
    simp only [holdsL, List.nil_append, List.cons_append, List.getD_cons_succ, List.getD_cons_zero, if_true, and_true] at hp
    go_simp
    exact hK _ (Grow.refl _)
  intro xs w hw hp
  have ha0 := HA0.out
  clear HA0 hsz s3 s4 s7 s8 s9 s10 s11 s12 s13 s14 s15 s16 s17 s18 s19 s20 s21 s22 s23 s24
  simp only [holdsL, List.nil_append, List.cons_append, List.getD_cons_succ, List.getD_cons_zero, if_true, and_true] at hp
  have h54 := hp.2.2.2.2.2.2.2.2.2.2.2.2.2.2.2.2.2.2.2.2.2.2.2.2.2.2.2.2.2.2.2.2.2.2.2.2.2.2.2.2.2.2.2.2.2.2.2.2.2.2.2.2.2.2
  clear hp
  subst ha0
  simp only [putAll, h54]
  have hG := Grow.trans HG.out hw.undrew
  clear hw h54
  go_wp2_with fail
  go_ret
  exact ⟨rfl, hG⟩

end Go.Proofs.Ytigbgodbalpgdaa
