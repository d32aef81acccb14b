import Derived.Test.YtigbgodbalpgdaaGreatKSp2
import Derived.Test.YtigbgodbalpgdaaGreatKRt1
import Derived.Test.YtigbgodbalpgdaaGreatKCh2
import Derived.BigQuiet
/- almonrylaw14.awake: the chapter's examples. -/
namespace Go.Proofs.YtigbgodbalpgdaaGreat
open Go.RowKit
attribute [local simp] eql_entry
attribute [local go_sem] guard_entry

theorem aw1 : insN leafP ([98], 1, 0) = (⟨0, 3, 0, 0, [], [[1, 98, 1, 0]]⟩, 0) := by kernel_rfl
theorem aw2 : insN ⟨0, 3, 0, 0, [], [[1, 98, 1, 0]]⟩ ([97], 2, 0) = (⟨0, 3, 0, 0, [], [[1, 97, 2, 0], [1, 98, 1, 0]]⟩, 0) := by kernel_rfl
theorem aw3 : splitOk ⟨0, 3, 0, 0, [], [[1, 97, 2, 0], [1, 98, 1, 0]]⟩ 7 = true := by kernel_rfl
theorem aw4 : leftN ⟨0, 3, 0, 0, [], [[1, 97, 2, 0], [1, 98, 1, 0]]⟩ 7 = ⟨0, 3, 0, 7, [1, 97, 2, 0], [[1, 97, 2, 0]]⟩ := by kernel_rfl
theorem aw5 : rightN ⟨0, 3, 0, 0, [], [[1, 97, 2, 0], [1, 98, 1, 0]]⟩ = ⟨0, 3, 0, 0, [], [[1, 98, 1, 0]]⟩ := by kernel_rfl
theorem aw6 : borderN ⟨0, 3, 0, 0, [], [[1, 97, 2, 0], [1, 98, 1, 0]]⟩ = ([97], 2, 0) := by kernel_rfl
theorem aw7 : rootN 1 5 ([97], 2, 0) 7 = (⟨0, 3, 1, 0, [], [[0, 0, 0, 5], [1, 97, 2, 0, 7]]⟩, 0) := by kernel_rfl
theorem aw8 : childN ⟨0, 3, 1, 0, [], [[0, 0, 0, 5], [1, 97, 2, 0, 7]]⟩ ([97], 2, 0) = (5, 0) := by kernel_rfl
theorem aw9 : childN ⟨0, 3, 1, 0, [], [[0, 0, 0, 5], [1, 97, 2, 0, 7]]⟩ ([97], 2, 1) = (7, 0) := by kernel_rfl
theorem aw10 : encN ([107], 300, 2) = ([1, 107, 172, 2, 2], 0) := by kernel_rfl

theorem pgIn_of {w : World} {iv : Value} {P : Pg} (h : ItemsC w iv P.items) (hs : (P.items.all fun x => decide (x.length ≤ 1000)) = true) (hh : P.high.length ≤ 1000) (hl : P.items.length ≤ 1000) (hlsn : P.lsn ≤ 9223372036854775807) : PgIn w iv P :=
  ⟨h.1.weak, fun x hx => by have := List.all_eq_true.1 hs x hx; simp only [decide_eq_true_eq] at this; omega, by omega, by omega, hlsn⟩

set_option maxRecDepth 100000 in
set_option maxHeartbeats 4000000 in
theorem awake_any (w_ : World) : Calls Tryz.prog 13 #[] w_ fun x w' => x = .returned (.bool true) ∧ Below w_.heap.size w_ w' := by
  have h1 := fun u => insert_any leafP (.slice none 0 0) ([98], 1, 0) u (pgIn_of (ItemsC.nil u) rfl (by decide) (by decide) (by decide))
  rw [aw1] at h1
  have h2 := fun u iv (h : ItemsC u iv [[1, 98, 1, 0]]) => insert_any ⟨0, 3, 0, 0, [], [[1, 98, 1, 0]]⟩ iv ([97], 2, 0) u (pgIn_of h rfl (by decide) (by decide) (by decide))
  rw [aw2] at h2
  have h3 := fun u iv (h : ItemsC u iv [[1, 97, 2, 0], [1, 98, 1, 0]]) => split_leaf ⟨0, 3, 0, 0, [], [[1, 97, 2, 0], [1, 98, 1, 0]]⟩ iv 7 u (pgIn_of h rfl (by decide) (by decide) (by decide)) h.2 rfl aw3
  rw [aw4, aw5, aw6] at h3
  have h4 := fun u => root_any 1 5 ([97], 2, 0) 7 u
  rw [aw7] at h4
  have h5 := fun u iv (h : ItemsC u iv [[0, 0, 0, 5], [1, 97, 2, 0, 7]]) => child_node ⟨0, 3, 1, 0, [], [[0, 0, 0, 5], [1, 97, 2, 0, 7]]⟩ iv ([97], 2, 0) u (pgIn_of h rfl (by decide) (by decide) (by decide))
  rw [aw8] at h5
  have h6 := fun u iv (h : ItemsC u iv [[0, 0, 0, 5], [1, 97, 2, 0, 7]]) => child_node ⟨0, 3, 1, 0, [], [[0, 0, 0, 5], [1, 97, 2, 0, 7]]⟩ iv ([97], 2, 1) u (pgIn_of h rfl (by decide) (by decide) (by decide))
  rw [aw9] at h6
  have h7 := fun u => encode_any ([107], 300, 2) u
  rw [aw10] at h7
  unfold PgPost at h1 h2 h4
  unfold SplitPost at h3
  unfold enV at h7 h4
  unfold pgV at h1 h2 h3 h4 h5 h6
  unfold enV at h1 h2 h3 h5 h6
  unfold leafP at h1
  dsimp only at h1 h2 h3 h4 h5 h6 h7
  have H1 := keep h1
  have H2 := keep h2
  have H3 := keep h3
  have H4 := keep h4
  have H5 := keep h5
  have H6 := keep h6
  have H7 := keep h7
  clear h1 h2 h3 h4 h5 h6 h7
  go_enter Tryz.func13, Tryz.ntmps13
  go_wp2_with fail
  refine (leaf_any w_).mono ?_
  rintro x w1 ⟨rfl, hb1⟩
  have HG1 := keep hb1
  clear hb1
  unfold pgV leafP
  dsimp only
  go_wp2_with fail
  refine (H1.out w1).mono ?_
  rintro x w2 ⟨iv1, rfl, hi2, hb2⟩
  have HG2 := keep (Grow.trans HG1.out hb2)
  clear hb2
  obtain ⟨v1a, v1c, rfl⟩ := itemsS_form hi2.1
  go_upto_region 2 with fail
  obtain ⟨w3, hw3⟩ : ∃ w3, w3 = w2.alloc (.cells #[.int .i64 0, .int .i64 3, .int .i64 0, .int .i64 0, .string (str []), .slice v1a 1 v1c] 24) := ⟨_, rfl⟩
  rw [← hw3]
  have hB3 : Blk w3 w2.heap.size 24 [.int .i64 0, .int .i64 3, .int .i64 0, .int .i64 0, .string (str []), .slice v1a 1 v1c] := by subst hw3; exact Blk.new w2 _ [.int .i64 0, .int .i64 3, .int .i64 0, .int .i64 0, .string (str []), .slice v1a 1 v1c]
  have hgr : Grow w2 w3 := by subst hw3; exact (Grow.refl _).alloc _
  have HG3 := keep (Grow.trans HG2.out hgr)
  have hi3 := hi2.fits hgr
  clear hw3 hgr hi2
  obtain ⟨p0, p1, p2, p3, p4, p5, _⟩ := pgres hB3
  clear hB3
  go_wp2_with fail
  refine (H2.out w3 _ hi3).mono ?_
  rintro x w4 ⟨iv2, rfl, hi4, hb4⟩
  have HG4 := keep (Grow.trans HG3.out hb4)
  clear hb4 p0 p1 p2 p3 p4 p5 hi3
  obtain ⟨v2a, v2c, rfl⟩ := itemsS_form hi4.1
  go_upto_region 3 with fail
  obtain ⟨w5, hw5⟩ : ∃ w5, w5 = w4.alloc (.cells #[.int .i64 0, .int .i64 3, .int .i64 0, .int .i64 0, .string (str []), .slice v2a 2 v2c] 24) := ⟨_, rfl⟩
  rw [← hw5]
  have hB5 : Blk w5 w4.heap.size 24 [.int .i64 0, .int .i64 3, .int .i64 0, .int .i64 0, .string (str []), .slice v2a 2 v2c] := by subst hw5; exact Blk.new w4 _ [.int .i64 0, .int .i64 3, .int .i64 0, .int .i64 0, .string (str []), .slice v2a 2 v2c]
  have hgr : Grow w4 w5 := by subst hw5; exact (Grow.refl _).alloc _
  have HG5 := keep (Grow.trans HG4.out hgr)
  have hi5 := hi4.fits hgr
  clear hw5 hgr hi4
  obtain ⟨p0, p1, p2, p3, p4, p5, _⟩ := pgres hB5
  clear hB5
  go_wp2_with fail
  refine (H3.out w5 _ hi5).mono ?_
  rintro x w6 ⟨av, bv, rfl, hia6, hib6, hb6⟩
  have HG6 := keep (Grow.trans HG5.out hb6)
  clear hb6 p0 p1 p2 p3 p4 p5 hi5
  obtain ⟨vaa, vac, rfl⟩ := itemsS_form hia6.1
  obtain ⟨vba, vbc, rfl⟩ := itemsS_form hib6.1
  go_upto_region 4 with fail
  obtain ⟨w7, hw7⟩ : ∃ w7, w7 = (((w6.alloc (.cells #[.int .i64 0, .int .i64 3, .int .i64 0, .int .i64 7, .string (str [1, 97, 2, 0]), .slice vaa 1 vac] 24)).alloc (.cells #[.int .i64 0, .int .i64 3, .int .i64 0, .int .i64 0, .string (str []), .slice vba 1 vbc] 24)).alloc (.cells #[.string (str [97]), .int .i64 2, .int .i64 0] 26)) := ⟨_, rfl⟩
  rw [← hw7]
  have hA7 : Blk w7 w6.heap.size 24 [.int .i64 0, .int .i64 3, .int .i64 0, .int .i64 7, .string (str [1, 97, 2, 0]), .slice vaa 1 vac] := by subst hw7; exact ((Blk.new w6 _ [.int .i64 0, .int .i64 3, .int .i64 0, .int .i64 7, .string (str [1, 97, 2, 0]), .slice vaa 1 vac]).alloc _).alloc _
  have hB7 : Blk w7 (w6.heap.size + 1) 24 [.int .i64 0, .int .i64 3, .int .i64 0, .int .i64 0, .string (str []), .slice vba 1 vbc] := by
    have := (Blk.new (w6.alloc (.cells #[.int .i64 0, .int .i64 3, .int .i64 0, .int .i64 7, .string (str [1, 97, 2, 0]), .slice vaa 1 vac] 24)) 24 [.int .i64 0, .int .i64 3, .int .i64 0, .int .i64 0, .string (str []), .slice vba 1 vbc]).alloc (.cells #[.string (str [97]), .int .i64 2, .int .i64 0] 26)
    have e : (w6.alloc (.cells #[.int .i64 0, .int .i64 3, .int .i64 0, .int .i64 7, .string (str [1, 97, 2, 0]), .slice vaa 1 vac] 24)).heap.size = w6.heap.size + 1 := by simp
    rw [e] at this
    subst hw7; exact this
  have hX7 : Blk w7 (w6.heap.size + 2) 26 [.string (str [97]), .int .i64 2, .int .i64 0] := by
    have := Blk.new ((w6.alloc (.cells #[.int .i64 0, .int .i64 3, .int .i64 0, .int .i64 7, .string (str [1, 97, 2, 0]), .slice vaa 1 vac] 24)).alloc (.cells #[.int .i64 0, .int .i64 3, .int .i64 0, .int .i64 0, .string (str []), .slice vba 1 vbc] 24)) 26 [.string (str [97]), .int .i64 2, .int .i64 0]
    have e : ((w6.alloc (.cells #[.int .i64 0, .int .i64 3, .int .i64 0, .int .i64 7, .string (str [1, 97, 2, 0]), .slice vaa 1 vac] 24)).alloc (.cells #[.int .i64 0, .int .i64 3, .int .i64 0, .int .i64 0, .string (str []), .slice vba 1 vbc] 24)).heap.size = w6.heap.size + 2 := by simp
    rw [e] at this
    subst hw7; exact this
  have hgr : Grow w6 w7 := by subst hw7; exact (((Grow.refl _).alloc _).alloc _).alloc _
  have HG7 := keep (Grow.trans HG6.out hgr)
  have HA7 := keep hA7
  have HB7 := keep hB7
  have HX7 := keep hX7
  have HIa7 := keep (hia6.fits hgr)
  clear hw7 hgr hia6 hib6 hA7 hB7
  obtain ⟨x0, x1, x2, _⟩ := enres hX7
  have e2 : w6.heap.size + 1 + 1 = w6.heap.size + 2 := by omega
  rw [e2]
  clear hX7 e2
  go_wp2_with fail
  refine (H4.out w7).mono ?_
  rintro x w8 ⟨rv, rfl, hi8, hb8⟩
  have HG8 := keep (Grow.trans HG7.out hb8)
  have HA8 := keep (HA7.out.fits hb8)
  have HB8 := keep (HB7.out.fits hb8)
  have HX8 := keep (HX7.out.fits hb8)
  have HIa8 := keep (HIa7.out.fits hb8)
  clear hb8 x0 x1 x2 HA7 HB7 HX7 HIa7
  obtain ⟨vra, vrc, rfl⟩ := itemsS_form hi8.1
  go_upto_region 5 with fail
  obtain ⟨w9, hw9⟩ : ∃ w9, w9 = w8.alloc (.cells #[.int .i64 0, .int .i64 3, .int .i64 1, .int .i64 0, .string (str []), .slice vra 2 vrc] 24) := ⟨_, rfl⟩
  rw [← hw9]
  have hR9 : Blk w9 w8.heap.size 24 [.int .i64 0, .int .i64 3, .int .i64 1, .int .i64 0, .string (str []), .slice vra 2 vrc] := by subst hw9; exact Blk.new w8 _ [.int .i64 0, .int .i64 3, .int .i64 1, .int .i64 0, .string (str []), .slice vra 2 vrc]
  have hgr : Grow w8 w9 := by subst hw9; exact (Grow.refl _).alloc _
  have HG9 := keep (Grow.trans HG8.out hgr)
  have hi9 := hi8.fits hgr
  have HA9 := keep (HA8.out.fits hgr)
  have HB9 := keep (HB8.out.fits hgr)
  have HX9 := keep (HX8.out.fits hgr)
  have HIa9 := keep (HIa8.out.fits hgr)
  have HR9 := keep hR9
  clear hw9 hgr hi8 HA8 HB8 HX8 HIa8
  obtain ⟨p0, p1, p2, p3, p4, p5, _⟩ := pgres hR9
  clear hR9
  go_wp2_with fail
  refine (H5.out w9 _ hi9).mono ?_
  rintro x w10 ⟨rfl, hb10⟩
  have HG10 := keep (Grow.trans HG9.out hb10)
  have HA10 := keep (HA9.out.fits hb10)
  have HB10 := keep (HB9.out.fits hb10)
  have HX10 := keep (HX9.out.fits hb10)
  have HIa10 := keep (HIa9.out.fits hb10)
  have hi10 := hi9.fits hb10
  have hR10 := HR9.out.fits hb10
  clear hb10 p0 p1 p2 p3 p4 p5 hi9 HA9 HB9 HX9 HIa9
  obtain ⟨p0, p1, p2, p3, p4, p5, _⟩ := pgres hR10
  clear hR10
  go_wp2_with fail
  refine (H6.out w10 _ hi10).mono ?_
  rintro x w11 ⟨rfl, hb11⟩
  have HG11 := keep (Grow.trans HG10.out hb11)
  have HA11 := keep (HA10.out.fits hb11)
  have HB11 := keep (HB10.out.fits hb11)
  have HX11 := keep (HX10.out.fits hb11)
  have HIa11 := keep (HIa10.out.fits hb11)
  clear hb11 p0 p1 p2 p3 p4 p5 hi10 HA10 HB10 HX10 HIa10
  go_wp2_with fail
  refine (H7.out w11).mono ?_
  rintro x w12 ⟨rfl, hb12⟩
  have HG12 := keep (Grow.trans HG11.out hb12)
  have hA12 := HA11.out.fits hb12
  have hB12 := HB11.out.fits hb12
  have hX12 := HX11.out.fits hb12
  have hIa12 := HIa11.out.fits hb12
  clear hb12 HA11 HB11 HX11 HIa11
  obtain ⟨c, off, cap, hve, hcell⟩ := items_cells hIa12.1.weak (by decide)
  simp only [Value.slice.injEq] at hve
  obtain ⟨rfl, _, rfl⟩ := hve
  have hc0 := hcell 0 (by decide)
  simp only [Nat.add_zero, List.getElem_cons_zero] at hc0
  obtain ⟨p0, p1, p2, p3, p4, p5, _⟩ := pgres hA12
  obtain ⟨y0, y1, y2, y3, y4, y5, _⟩ := pgres hB12
  obtain ⟨x0, x1, x2, _⟩ := enres hX12
  have es1 : (⟨#[97]⟩ : ByteArray) = str [97] := rfl
  have es2 : (⟨#[1, 107, 172, 2, 2]⟩ : ByteArray) = str [1, 107, 172, 2, 2] := rfl
  clear hcell hA12 hB12 hX12 hIa12
  go_upto_region 8 with fail
  simp only [List.append_eq, List.cons_append, List.nil_append]
  go_quiet (fail)
  go_wp2_with fail
  go_ret
  exact ⟨congrArg (fun b => Ending.returned (Value.bool b)) (show sameE ([97], 2, 0) ([97], 2, 0) = true by simp [sameE]), ⟨HG12.out.os, HG12.out.tape, HG12.out.output, HG12.out.size, HG12.out.block⟩⟩

end Go.Proofs.YtigbgodbalpgdaaGreat
