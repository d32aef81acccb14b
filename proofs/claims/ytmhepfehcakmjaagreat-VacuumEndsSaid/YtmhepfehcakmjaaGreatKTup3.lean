import Derived.Test.YtmhepfehcakmjaaGreatKTup1
import Derived.Test.YtmhepfehcakmjaaGreatKBits5
import Derived.Test.YtmhepfehcakmjaaGreatKBits6
namespace Go.Proofs.YtmhepfehcakmjaaGreat
open Go.RowKit
attribute [local go_sem] gives givesUpon_value givesUpon_skip givesUpon_enter
structure Tup where
 xmin : Nat
 xmax : Nat
 frozen : Bool
 key : List UInt8
 val : List UInt8
def decKey (l : List UInt8) : List UInt8 × List UInt8 × Int := rdTextS 24 (l.drop 5)
def decVal (l : List UInt8) : List UInt8 × List UInt8 × Int := rdText2 64 (decKey l)
def decParts (l : List UInt8) : Tup :=
 { xmin := ofS (l.tail.take 2), xmax := ofS ((l.drop 3).take 2), frozen := (l.getD 0 0).toNat % 4 / 2 == 1, key := (decKey l).1, val := (decVal l).1 }
def decOk (l : List UInt8) : Bool :=
 decide (5 ≤ l.length) && decide ((decVal l).2.2 = 0) && decide ((decVal l).2.1 = []) && decide ((l.getD 0 0).toNat = 1 ∨ (l.getD 0 0).toNat = 3) &&
  decide ((decParts l).xmin ≠ 0) && decide ((decParts l).xmin ≤ 1024) && decide ((decParts l).xmax ≤ 1024) && decide ((decKey l).1 ≠ [])
def decS (l : List UInt8) : Option Tup := if decOk l then some (decParts l) else none
def tupV (t : Tup) : Value := .agg #[.int .i64 t.xmin, .int .i64 t.xmax, .bool t.frozen, .string (str t.key), .string (str t.val)]
def noTup : Tup := { xmin := 0, xmax := 0, frozen := false, key := [], val := [] }
theorem flag_bit (c : Nat) (h : c < 256) : (bits BinOp.and IntKind.u8 (↑c) 2 != 0) = (c % 4 / 2 == 1) := by
 have e : (2 : Int) = ((2 : Nat) : Int) := rfl
 rw [e, u8_and_nat _ _ h (by omega)]
 have key : ∀ c, c < 256 → (((c &&& 2 : Nat) : Int) != 0) = (c % 4 / 2 == 1) := by decide +kernel
 exact key c h
theorem flag_rest (c : Nat) (h : c < 256) : (bits BinOp.andNot IntKind.u8 (↑c) 2 = 1) ↔ (c = 1 ∨ c = 3) := by
 have e : (2 : Int) = ((2 : Nat) : Int) := rfl
 rw [e, u8_andNot_nat _ _ h (by omega)]
 have key : ∀ c, c < 256 → ((((c &&& (255 - 2) : Nat) : Int) = 1) ↔ (c = 1 ∨ c = 3)) := by decide +kernel
 exact key c h
theorem set5 {w : World} {b t : Nat} {a0 a1 a2 a3 a4 : Value} (h : Blk w b t [a0, a1, a2, a3, a4]) (v0 v1 v2 v3 v4 : Value) :
  Blk (((((w.setCell ⟨b, 0, none⟩ v0).setCell ⟨b, 1, none⟩ v1).setCell ⟨b, 2, none⟩ v2).setCell ⟨b, 3, none⟩ v3).setCell ⟨b, 4, none⟩ v4) b t [v0, v1, v2, v3, v4] :=
 ((((h.set 0 v0).set 1 v1).set 2 v2).set 3 v3).set 4 v4
theorem but5 (w : World) (b : Nat) (v0 v1 v2 v3 v4 : Value) :
  But b w (((((w.setCell ⟨b, 0, none⟩ v0).setCell ⟨b, 1, none⟩ v1).setCell ⟨b, 2, none⟩ v2).setCell ⟨b, 3, none⟩ v3).setCell ⟨b, 4, none⟩ v4) :=
 (((((But.refl b w).setCell 0 v0).setCell 1 v1).setCell 2 v2).setCell 3 v3).setCell 4 v4
def DecPost (l : List UInt8) (w : World) (e : Ending) (w' : World) : Prop :=
 e = .returned (.tuple #[tupV ((decS l).getD noTup), .int .i64 (if (decS l).isSome then 0 else 110)]) ∧ Below w.heap.size w w'
theorem decPost_none {l : List UInt8} {w w' : World} (h : decOk l = false) (hb : Below w.heap.size w w') : DecPost l w (.returned (.tuple #[tupV noTup, .int .i64 110])) w' := by
 unfold DecPost decS
 rw [h]
 exact ⟨rfl, hb⟩
theorem decPost_some {l : List UInt8} {w w' : World} (h : decOk l = true) (hb : Below w.heap.size w w') : DecPost l w (.returned (.tuple #[tupV (decParts l), .int .i64 0])) w' := by
 unfold DecPost decS
 rw [h]
 exact ⟨rfl, hb⟩
theorem decOk_short {l : List UInt8} (h : l.length < 5) : decOk l = false := by
 unfold decOk; simp; omega
set_option maxHeartbeats 400000 in
theorem dec_short (s : ByteArray) (w : World) (h : s.size < 5) : Calls Tryz.prog 14 #[.string s] w (DecPost s.data.toList w) := by
 go_enter Tryz.func14, Tryz.ntmps14
 go_wp2_with fail
 refine bodyPost_ret (v := .tuple #[tupV noTup, .int .i64 110]) ?_ rfl (decPost_none (decOk_short (by simpa using h)) ?_)
 ·simp [results, Tryz.results14, go_sem]
  rfl
 ·exact (Below.refl _ _).alloc (Nat.le_refl _) _
set_option maxRecDepth 100000 in
set_option maxHeartbeats 1000000 in
theorem dec_long (s : ByteArray) (w_ : World) (h : 5 ≤ s.size) (hs : (s.size : Int) ≤ 9223372036854775807) : Calls Tryz.prog 14 #[.string s] w_ (DecPost s.data.toList w_) := by
 have Hx5 := keep (extract_tail s 5)
 have Hx13 := keep (show s.extract 1 3 = str ((s.data.toList.drop 1).take 2) from Lib.extract_eq s 1 3)
 have Hx35 := keep (show s.extract 3 5 = str ((s.data.toList.drop 3).take 2) from Lib.extract_eq s 3 5)
 go_enter Tryz.func14, Tryz.ntmps14
 go_wp2_with fail
 generalize hw0 : w_.alloc (.cells #[.int .i64 0, .int .i64 0, .bool false, .string ⟨#[]⟩, .string ⟨#[]⟩] 51) = w0
 have hB0 : Blk w0 w_.heap.size 51 [.int .i64 0, .int .i64 0, .bool false, .string ⟨#[]⟩, .string ⟨#[]⟩] := by subst hw0; exact Blk.new w_ _ _
 have hg0 : Grow w_ w0 := by subst hw0; exact (Grow.refl w_).alloc _
 clear hw0
 have hlt0 := hB0.lt
 have hpos : 0 < s.size := by omega
 have hpos3 : (3 : Int) ≤ s.size := by omega
 refine wp_region_grow (by kernel_rfl) 5 (by kernel_rfl) [(11, 0), (12, 1), (13, 2), (14, 3), (15, 4)] (by kernel_rfl) [(0, true), (1, true), (2, true), (3, true), (4, true)] (by kernel_rfl) rfl rfl ?_
 apply lex_eq [] [(13, 2), (14, 3), (15, 4)] (by kernel_rfl) (by kernel_rfl) rfl
 ·intro xs w hw hp K hK
  simp only [putAll]
  go_simp
  exact hK _ (Grow.refl _)
 apply lex_eq [(0, true)] [(11, 0), (13, 2), (14, 3), (15, 4)] (by kernel_rfl) (by kernel_rfl) rfl
 ·intro xs w hw hp K hK
  simp only [hz] at hp
  simp only [putAll]
  go_simp
  exact hK _ (Grow.refl _)
 apply lex_eq [] [(11, 0), (12, 1), (15, 4), (4, 5)] (by kernel_rfl) (by kernel_rfl) rfl
 ·intro xs w hw hp K hK
  simp only [putAll]
  go_simp
  exact hK _ (Grow.refl _)
 apply lex_eq [(2, true)] [(11, 0), (12, 1), (13, 2), (4, 5)] (by kernel_rfl) (by kernel_rfl) rfl
 ·intro xs w hw hp K hK
  simp only [hz] at hp
  simp only [putAll]
  go_simp
  exact hK _ (Grow.refl _)
 refine lex_says (fun v w => ∃ b, v = .pointer (some ⟨b, 0, none⟩) ∧ Rd w b (str (s.data.toList.drop 5)) 0 ∧ w0.heap.size ≤ b) (fun v u u' hg ⟨b, h1, h2, h3⟩ => ⟨b, h1, Blk.fits h2 hg, h3⟩) [(3, true)] [(11, 0), (12, 1), (13, 2), (14, 3)] (by kernel_rfl) (by kernel_rfl) rfl ?_ ?_
 ·intro xs w hw hp K hK
  simp only [hz] at hp
  simp only [putAll]
  go_simp
  rw [Hx5.out]
  refine (rdRead _ _).mono ?_; rintro e w' ⟨rfl, rfl⟩
  exact ⟨_, rfl, hK _ _ ⟨_, rfl, Blk.new w _ _, by simpa using hw.size⟩ ((Grow.refl w).alloc _)⟩
 intro xs w hw hp
 simp only [hz] at hp
 simp only [putAll, hp, List.drop_succ_cons, List.drop_zero]
 obtain ⟨hp0, hp1, hp2, hp3, b, hp4, hrd, hbw⟩ := hp
 simp only [hp4]
 have hgw : Grow w0 w := hw.undrew
 have hB1 := hB0.fits hgw
 clear hp0 hp1 hp2 hp3 hp4 hw
 go_wp2_with fail
 obtain ⟨w3, rfl⟩ : ∃ w3 : World, w3 = w := ⟨_, rfl⟩
 refine wp_region_grow (by kernel_rfl) 11 (by kernel_rfl) [(16, 0), (17, 1), (18, 2), (19, 3), (20, 4), (21, 5), (22, 6), (23, 7), (24, 8), (25, 9), (6, 10)] (by kernel_rfl) [(0, true), (1, true), (2, true), (3, true), (4, true), (5, true), (6, true), (7, true), (8, true), (9, true), (10, true)] (by kernel_rfl) rfl rfl ?_
 apply lex_eq [] [(18, 2), (19, 3), (20, 4), (21, 5), (22, 6), (23, 7), (24, 8), (25, 9), (6, 10)] (by kernel_rfl) (by kernel_rfl) rfl
 ·intro xs w hw hp K hK
  simp only [putAll]
  go_simp
  exact hK _ (Grow.refl _)
 apply lex_eq [(0, true)] [(16, 0), (19, 3), (20, 4), (21, 5), (22, 6), (23, 7), (24, 8), (25, 9), (6, 10)] (by kernel_rfl) (by kernel_rfl) rfl
 ·intro xs w hw hp K hK
  simp only [hz] at hp
  simp only [putAll]
  go_simp
  exact hK _ (Grow.refl _)
 apply lex_eq [(1, true)] [(16, 0), (17, 1), (19, 3), (20, 4), (21, 5), (22, 6), (23, 7), (24, 8), (6, 10)] (by kernel_rfl) (by kernel_rfl) rfl
 ·intro xs w hw hp K hK
  simp only [hz] at hp
  simp only [putAll]
  go_simp
  exact hK _ (Grow.refl _)
 apply lex_eq [] [(16, 0), (17, 1), (18, 2), (21, 5), (22, 6), (23, 7), (24, 8), (25, 9), (6, 10)] (by kernel_rfl) (by kernel_rfl) rfl
 ·intro xs w hw hp K hK
  simp only [putAll]
  go_simp
  exact hK _ (Grow.refl _)
 apply lex_eq [(3, true)] [(16, 0), (17, 1), (18, 2), (19, 3), (22, 6), (23, 7), (24, 8), (25, 9), (6, 10)] (by kernel_rfl) (by kernel_rfl) rfl
 ·intro xs w hw hp K hK
  simp only [hz] at hp
  simp only [putAll]
  go_simp
  exact hK _ (Grow.refl _)
 apply lex_eq [(4, true)] [(16, 0), (17, 1), (18, 2), (19, 3), (20, 4), (22, 6), (23, 7), (6, 10)] (by kernel_rfl) (by kernel_rfl) rfl
 ·intro xs w hw hp K hK
  simp only [hz] at hp
  simp only [putAll]
  go_simp
  rw [Hx13.out]
  refine (of_ok _ _ (by simp; omega)).mono ?_; rintro e w' ⟨rfl, rfl⟩; exact ⟨_, rfl, hK _ (Grow.refl _)⟩
 apply lex_eq [] [(16, 0), (17, 1), (18, 2), (19, 3), (20, 4), (21, 5), (24, 8), (25, 9), (6, 10)] (by kernel_rfl) (by kernel_rfl) rfl
 ·intro xs w hw hp K hK
  simp only [putAll]
  go_simp
  exact hK _ (Grow.refl _)
 apply lex_eq [(6, true)] [(16, 0), (17, 1), (18, 2), (19, 3), (20, 4), (21, 5), (22, 6), (25, 9), (6, 10)] (by kernel_rfl) (by kernel_rfl) rfl
 ·intro xs w hw hp K hK
  simp only [hz] at hp
  simp only [putAll]
  go_simp
  exact hK _ (Grow.refl _)
 apply lex_eq [(7, true)] [(16, 0), (17, 1), (18, 2), (19, 3), (20, 4), (21, 5), (22, 6), (23, 7), (6, 10)] (by kernel_rfl) (by kernel_rfl) rfl
 ·intro xs w hw hp K hK
  simp only [hz] at hp
  simp only [putAll]
  go_simp
  rw [Hx35.out]
  refine (of_ok _ _ (by simp; omega)).mono ?_; rintro e w' ⟨rfl, rfl⟩; exact ⟨_, rfl, hK _ (Grow.refl _)⟩
 apply lex_eq [(2, true), (5, true), (8, true)] [(16, 0), (17, 1), (18, 2), (19, 3), (20, 4), (21, 5), (22, 6), (23, 7), (24, 8), (6, 10)] (by kernel_rfl) (by kernel_rfl) rfl
 ·intro xs w hw hp K hK
  simp only [hz] at hp
  simp only [putAll]
  go_simp
  exact hK _ (Grow.refl _)
 refine lex_says (fun v w => ∃ b, v = .pointer (some ⟨b, 0, none⟩) ∧ Blk w b 51 [.int .i64 0, .int .i64 0, .bool false, .string ⟨#[]⟩, .string ⟨#[]⟩] ∧ w3.heap.size ≤ b) (fun v u u' hg ⟨b, h1, h2, h3⟩ => ⟨b, h1, Blk.fits h2 hg, h3⟩) [] [(16, 0), (17, 1), (18, 2), (19, 3), (20, 4), (21, 5), (22, 6), (23, 7), (24, 8), (25, 9)] (by kernel_rfl) (by kernel_rfl) rfl ?_ ?_
 ·intro xs w hw hp K hK
  simp only [putAll]
  go_simp
  exact hK _ _ ⟨_, rfl, Blk.new w _ _, by simpa using hw.size⟩ ((Grow.refl w).alloc _)
 intro xs w hw hp
 simp only [hz] at hp
 simp only [putAll, hp, List.drop_succ_cons, List.drop_zero]
 obtain ⟨hp0, hp1, hp2, hp3, hp4, hp5, hp6, hp7, hp8, hp9, b2, hp10, hB2, hb2⟩ := hp
 simp only [hp10]
 have hgw4 : Grow w3 w := hw.undrew
 have hrd4 : Rd w b (str (s.data.toList.drop 5)) 0 := Blk.fits hrd hgw4
 have hB4 := hB1.fits hgw4
 have hbb : b < w3.heap.size := Blk.lt hrd
 have c0 := hB2.cell 0 (by simp)
 have c1 := hB2.cell 1 (by simp)
 have c2 := hB2.cell 2 (by simp)
 have c3 := hB2.cell 3 (by simp)
 have c4 := hB2.cell 4 (by simp)
 have f0 := hB2.free 0
 have f1 := hB2.free 1
 have f2 := hB2.free 2
 have f3 := hB2.free 3
 have f4 := hB2.free 4
 clear hp0 hp1 hp2 hp3 hp4 hp5 hp6 hp7 hp8 hp9 hp10 hw
 go_wp2_with fail
 have hc256 : s[0].toNat < 256 := s[0].toNat_lt
 rw [flag_bit _ hc256]
 have hB5 := set5 hB2 (.int .i64 ↑(ofS (s.data.toList.tail.take 2))) (.int .i64 ↑(ofS ((s.data.toList.drop 3).take 2))) (.bool (s[0].toNat % 4 / 2 == 1)) (.string ⟨#[]⟩) (.string ⟨#[]⟩)
 have hbt5 := but5 w b2 (.int .i64 ↑(ofS (s.data.toList.tail.take 2))) (.int .i64 ↑(ofS ((s.data.toList.drop 3).take 2))) (.bool (s[0].toNat % 4 / 2 == 1)) (.string ⟨#[]⟩) (.string ⟨#[]⟩)
 have hrd5 := Blk.but hrd4 hbt5 (by omega)
 have hB05 := Blk.but hB4 hbt5 (by omega)
 generalize (((((w.setCell ⟨b2, 0, none⟩ (.int .i64 ↑(ofS (s.data.toList.tail.take 2)))).setCell ⟨b2, 1, none⟩ (.int .i64 ↑(ofS ((s.data.toList.drop 3).take 2)))).setCell ⟨b2, 2, none⟩ (.bool (s[0].toNat % 4 / 2 == 1))).setCell ⟨b2, 3, none⟩ (.string ⟨#[]⟩)).setCell ⟨b2, 4, none⟩ (.string ⟨#[]⟩)) = w5 at *
 clear c0 c1 c2 c3 c4 f0 f1 f2 f3 f4 hB2 hrd hrd4 hB4 hB1
 obtain ⟨X, hX⟩ : ∃ X, X = decKey s.data.toList := ⟨_, rfl⟩
 have hXl := rdTextS_le 24 (s.data.toList.drop 5)
 have hT1 := rdText_any b 24 ([], s.data.toList.drop 5, 0) w5 hrd5 (by simp; omega) (by omega)
 have e0 : rdText2 24 ([], s.data.toList.drop 5, 0) = X := by rw [hX]; rfl
 have e0' : rdTextS 24 (s.data.toList.drop 5) = X := hX.symm
 rw [e0] at hT1
 rw [e0'] at hXl
 obtain ⟨Y, hY⟩ : ∃ Y, Y = rdText2 64 X := ⟨_, rfl⟩
 have HX := keep hX
 have HY := keep hY
 have HT1 := keep hT1
 have hXl2 : (X.2.1.length : Int) ≤ 9223372036854775807 := by have := hXl.2; simp at this; omega
 clear hX hY hT1 e0 e0' hXl
 refine HT1.out.mono ?_
 rintro e w6 ⟨rfl, hrd6, hbt6⟩
 have hB6 := Blk.but hB5 hbt6 (by omega)
 have hB06 := Blk.but hB05 hbt6 (by omega)
 go_wp2_with fail
 have HT2 := rdText_any b 64 X w6 hrd6 hXl2 (by omega)
 rw [← HY.out] at HT2
 refine HT2.mono ?_
 rintro e w7 ⟨rfl, hrd7, hbt7⟩
 have hB7 := Blk.but hB6 hbt7 (by omega)
 have hB07 := Blk.but hB06 hbt7 (by omega)
 clear HT2 hB5 hB6 hB05 hB06 hrd5 hrd6
 have c3 := hB7.cell 3 (by simp)
 have c4 := hB7.cell 4 (by simp)
 have f3 := hB7.free 3
 have f4 := hB7.free 4
 have c4' : (w7.setCell ⟨b2, 3, none⟩ (.string (str X.1))).cell? ⟨b2, 4, none⟩ = some (.string ⟨#[]⟩) := by
  rw [World.cell?_setCell_other _ _ _ _ (by simp)]; exact c4
 go_wp2_with fail
 have hB8 := (hB7.set 3 (.string (str X.1))).set 4 (.string (str Y.1))
 have hbt8 : But b2 w7 ((w7.setCell ⟨b2, 3, none⟩ (.string (str X.1))).setCell ⟨b2, 4, none⟩ (.string (str Y.1))) := ((But.refl _ _).setCell _ _).setCell _ _
 have hrd8 := Blk.but hrd7 hbt8 (by omega)
 have hB08 := Blk.but hB07 hbt8 (by omega)
 generalize ((w7.setCell ⟨b2, 3, none⟩ (.string (str X.1))).setCell ⟨b2, 4, none⟩ (.string (str Y.1))) = w8 at *
 simp only [List.set_cons_succ, List.set_cons_zero] at hB8
 clear c3 c4 f3 f4 c4' hB7 hB07 hrd7
 have d0 := hB8.cell 0 (by simp)
 have d1 := hB8.cell 1 (by simp)
 have d2 := hB8.cell 2 (by simp)
 have d3 := hB8.cell 3 (by simp)
 have d4 := hB8.cell 4 (by simp)
 simp only [List.getElem_cons_zero, List.getElem_cons_succ] at d0 d1 d2 d3 d4
 refine (rdEnd _ _ _ _ hrd8).mono ?_
 rintro e w9 ⟨rfl, rfl⟩
 generalize hE : (if Y.2.2 = 0 ∧ 0 < (str Y.2.1).size then (12 : Int) else Y.2.2) = E
 have hE0 : E = 0 ↔ (Y.2.2 = 0 ∧ Y.2.1 = []) := by
  rw [← hE]
  cases hy : Y.2.1 with
  | nil => simp
  | cons a l =>
   simp
   split
   ·omega
   ·assumption
 have HE0 := keep hE0
 clear hE hE0
 have g0 := hB08.cell 0 (by simp)
 have g1 := hB08.cell 1 (by simp)
 have g2 := hB08.cell 2 (by simp)
 have g3 := hB08.cell 3 (by simp)
 have g4 := hB08.cell 4 (by simp)
 have k0 := hB08.free 0
 have k1 := hB08.free 1
 have k2 := hB08.free 2
 have k3 := hB08.free 3
 have k4 := hB08.free 4
 simp only [List.getElem_cons_zero, List.getElem_cons_succ] at g0 g1 g2 g3 g4
 have hs0 := hg0.size
 have hs3 := hgw.size
 have hs4 := hgw4.size
 have hs5 := hbt5.size
 have hs6 := hbt6.size
 have hs7 := hbt7.size
 have hs8 := hbt8.size
 have hwb : Below w_.heap.size w_ w8 := by
  have b3 : Below w_.heap.size w_ w3 := Below.trans hg0 (Below.mono hgw hs0)
  have b4 : Below w_.heap.size w_ w := b3.trans (Below.mono hgw4 (by omega))
  have b5 := But.below b4 hbt5 (by omega) (by omega)
  have b6 := But.below b5 hbt6 (by omega) (by omega)
  have b7 := But.below b6 hbt7 (by omega) (by omega)
  exact But.below b7 hbt8 (by omega) (by omega)
 have hBz := set5 hB08 (.int .i64 0) (.int .i64 0) (.bool false) (.string ⟨#[]⟩) (.string ⟨#[]⟩)
 have hBy := set5 hB08 (.int .i64 ↑(ofS (s.data.toList.tail.take 2))) (.int .i64 ↑(ofS ((s.data.toList.drop 3).take 2))) (.bool (s[0].toNat % 4 / 2 == 1)) (.string (str X.1)) (.string (str Y.1))
 have hbz := But.below hwb (but5 w8 w_.heap.size (.int .i64 0) (.int .i64 0) (.bool false) (.string ⟨#[]⟩) (.string ⟨#[]⟩)) (Nat.le_refl _) (by omega)
 have hby := But.below hwb (but5 w8 w_.heap.size (.int .i64 ↑(ofS (s.data.toList.tail.take 2))) (.int .i64 ↑(ofS ((s.data.toList.drop 3).take 2))) (.bool (s[0].toNat % 4 / 2 == 1)) (.string (str X.1)) (.string (str Y.1))) (Nat.le_refl _) (by omega)
 have hxm : (decParts s.data.toList).xmin = ofS (s.data.toList.tail.take 2) := rfl
 have hxx : (decParts s.data.toList).xmax = ofS ((s.data.toList.drop 3).take 2) := rfl
 have hgd : (s.data.toList.getD 0 0) = s[0] := by
  have : s.data.toList[0]? = some s[0] := by rw [List.getElem?_eq_getElem (by simpa using hpos)]; rfl
  simp [this]
 have hfr := flag_rest _ hc256
 have hparts : tupV (decParts s.data.toList) = .agg #[.int .i64 ↑(ofS (s.data.toList.tail.take 2)), .int .i64 ↑(ofS ((s.data.toList.drop 3).take 2)), .bool (s[0].toNat % 4 / 2 == 1), .string (str X.1), .string (str Y.1)] := by
  rw [HX.out, show Y = decVal s.data.toList from by rw [HY.out, HX.out]; rfl, ← hgd]
  rfl
 have hok : decOk s.data.toList = (decide (E = 0) && decide (bits BinOp.andNot IntKind.u8 (↑s[0].toNat) 2 = 1) && decide (ofS (s.data.toList.tail.take 2) ≠ 0) && decide (ofS (s.data.toList.tail.take 2) ≤ 1024) && decide (ofS ((s.data.toList.drop 3).take 2) ≤ 1024) && decide (X.1 ≠ [])) := by
  unfold decOk
  have e1 : decide (5 ≤ s.data.toList.length) = true := by simpa using h
  have e2 : decVal s.data.toList = Y := by rw [HY.out, HX.out]; rfl
  rw [e1, e2, hxm, hxx, ← HX.out, hgd, Bool.eq_iff_iff]
  simp only [Bool.and_eq_true, decide_eq_true_eq, HE0.out, hfr, true_and, and_assoc]
 generalize hM : ofS (s.data.toList.tail.take 2) = M at *
 generalize hMx : ofS ((s.data.toList.drop 3).take 2) = Mx at *
 have HBz := keep hBz
 have HBy := keep hBy
 have Hbz := keep hbz
 have Hby := keep hby
 have Hparts := keep hparts
 have Hok := keep hok
 clear hM hMx hBz hBy hbz hby hparts hok hfr hxm hxx hgd
 by_cases h1 : E = 0
 ·have h1' : (E != 0) = false := by simpa using h1
  by_cases h2 : bits BinOp.andNot IntKind.u8 (↑s[0].toNat) 2 = 1
  ·by_cases h3 : M = 0
   ·have h3' : ((M : Int) == 0) = true := by simpa using h3
    have hok : decOk s.data.toList = false := by
     rw [Hok.out]
     simp [h3]
    go_wp2_with fail
    refine bodyPost_ret (v := .tuple #[tupV noTup, .int .i64 110]) ?_ rfl (decPost_none hok Hbz.out)
    have r0 := HBz.out.cell 0 (by simp)
    have r1 := HBz.out.cell 1 (by simp)
    have r2 := HBz.out.cell 2 (by simp)
    have r3 := HBz.out.cell 3 (by simp)
    have r4 := HBz.out.cell 4 (by simp)
    simp [results, Tryz.results14, go_sem, r0, r1, r2, r3, r4, tupV, noTup]
    rfl
   ·have h3' : ((M : Int) == 0) = false := by simpa using h3
    by_cases h4 : (1024 : Int) < M
    ·have hok : decOk s.data.toList = false := by
      rw [Hok.out]
      have : ¬ M ≤ 1024 := by omega
      simp [this]
     go_wp2_with fail
     refine bodyPost_ret (v := .tuple #[tupV noTup, .int .i64 110]) ?_ rfl (decPost_none hok Hbz.out)
     have r0 := HBz.out.cell 0 (by simp)
     have r1 := HBz.out.cell 1 (by simp)
     have r2 := HBz.out.cell 2 (by simp)
     have r3 := HBz.out.cell 3 (by simp)
     have r4 := HBz.out.cell 4 (by simp)
     simp [results, Tryz.results14, go_sem, r0, r1, r2, r3, r4, tupV, noTup]
     rfl
    ·by_cases h5 : (1024 : Int) < Mx
     ·have hok : decOk s.data.toList = false := by
       rw [Hok.out]
       have : ¬ Mx ≤ 1024 := by omega
       simp [this]
      go_wp2_with fail
      refine bodyPost_ret (v := .tuple #[tupV noTup, .int .i64 110]) ?_ rfl (decPost_none hok Hbz.out)
      have r0 := HBz.out.cell 0 (by simp)
      have r1 := HBz.out.cell 1 (by simp)
      have r2 := HBz.out.cell 2 (by simp)
      have r3 := HBz.out.cell 3 (by simp)
      have r4 := HBz.out.cell 4 (by simp)
      simp [results, Tryz.results14, go_sem, r0, r1, r2, r3, r4, tupV, noTup]
      rfl
     ·cases hk : (str X.1).toList.isEmpty with
      | true =>
       have hok : decOk s.data.toList = false := by
        rw [Hok.out]
        have hk' : X.1 = [] := by
         cases hx : X.1 with
         | nil => rfl
         | cons a l => rw [hx, str_list] at hk; simp at hk
        simp [hk']
       go_wp2_with fail
       refine bodyPost_ret (v := .tuple #[tupV noTup, .int .i64 110]) ?_ rfl (decPost_none hok Hbz.out)
       have r0 := HBz.out.cell 0 (by simp)
       have r1 := HBz.out.cell 1 (by simp)
       have r2 := HBz.out.cell 2 (by simp)
       have r3 := HBz.out.cell 3 (by simp)
       have r4 := HBz.out.cell 4 (by simp)
       simp [results, Tryz.results14, go_sem, r0, r1, r2, r3, r4, tupV, noTup]
       rfl
      | false =>
       have hok : decOk s.data.toList = true := by
        rw [Hok.out]
        have hk' : X.1 ≠ [] := by intro e; rw [e, str_list] at hk; simp at hk
        simp [h1, h2, h3, hk']; omega
       go_wp2_with fail
       refine bodyPost_ret (v := .tuple #[tupV (decParts s.data.toList), .int .i64 0]) ?_ rfl (decPost_some hok Hby.out)
       rw [Hparts.out]
       have r0 := HBy.out.cell 0 (by simp)
       have r1 := HBy.out.cell 1 (by simp)
       have r2 := HBy.out.cell 2 (by simp)
       have r3 := HBy.out.cell 3 (by simp)
       have r4 := HBy.out.cell 4 (by simp)
       simp [results, Tryz.results14, go_sem, r0, r1, r2, r3, r4]
  ·have hok : decOk s.data.toList = false := by
    rw [Hok.out]
    simp [h2]
   go_wp2_with fail
   refine bodyPost_ret (v := .tuple #[tupV noTup, .int .i64 110]) ?_ rfl (decPost_none hok Hbz.out)
   have r0 := HBz.out.cell 0 (by simp)
   have r1 := HBz.out.cell 1 (by simp)
   have r2 := HBz.out.cell 2 (by simp)
   have r3 := HBz.out.cell 3 (by simp)
   have r4 := HBz.out.cell 4 (by simp)
   simp [results, Tryz.results14, go_sem, r0, r1, r2, r3, r4, tupV, noTup]
   rfl
 ·have h1' : (E != 0) = true := by simpa using h1
  have hok : decOk s.data.toList = false := by
   rw [Hok.out]
   simp [h1]
  go_wp2_with fail
  refine bodyPost_ret (v := .tuple #[tupV noTup, .int .i64 110]) ?_ rfl (decPost_none hok Hbz.out)
  have r0 := HBz.out.cell 0 (by simp)
  have r1 := HBz.out.cell 1 (by simp)
  have r2 := HBz.out.cell 2 (by simp)
  have r3 := HBz.out.cell 3 (by simp)
  have r4 := HBz.out.cell 4 (by simp)
  simp [results, Tryz.results14, go_sem, r0, r1, r2, r3, r4, tupV, noTup]
  rfl
end Go.Proofs.YtmhepfehcakmjaaGreat
namespace Go.Proofs.YtmhepfehcakmjaaGreat
open Go.RowKit
set_option maxHeartbeats 400000 in
theorem free_any (w : World) : Calls Tryz.prog 36 #[] w fun e w' => e = .returned (.string ⟨#[]⟩) ∧ w = w' := by
 go_enter Tryz.func36, Tryz.ntmps36
 go_wp2
 go_ret
 exact ⟨rfl, rfl⟩
theorem tdecode_any (s : ByteArray) (w : World) (hs : (s.size : Int) ≤ 9223372036854775807) : Calls Tryz.prog 14 #[.string s] w (DecPost s.data.toList w) := by
 by_cases h : s.size < 5
 ·exact dec_short s w h
 ·exact dec_long s w (by omega) hs
def deadS (key : List UInt8) : List UInt8 := sev 4 ++ txt key
set_option maxHeartbeats 1000000 in
theorem dead_ok (key : ByteArray) (w : World) (h : fitsB key = true) : Calls Tryz.prog 39 #[.string key] w fun e w' =>
  e = .returned (.tuple #[.string (str (deadS key.data.toList)), .int .i64 0]) ∧ Below w.heap.size w w' := by
 have h6 : key.size ≤ 24 := by simp [fitsB] at h; omega
 go_enter Tryz.func39, Tryz.ntmps39
 go_wp2_with fail
 refine (fits_yes _ _ h).mono ?_
 rintro e w' ⟨rfl, rfl⟩
 go_wp2_with fail
 refine (wrNew w).mono ?_
 rintro e w1 ⟨rfl, hW1, hb1⟩
 go_wp2_with fail
 have hn := wrNum_some w.heap.size [] [4] w1.heap.size 0 1 #[.int .i64 4] (0, 0) (w1.alloc (.cells #[.int .i64 4] 3)) (hW1.alloc _) (by show (w1.heap.push _)[_]? = _; simp)
  (by intro j hj; simp at hj; subst hj; rfl) (by intro j hj; simp at hj; subst hj; simp) (by simp)
 refine hn.mono ?_
 rintro e w2 ⟨rfl, hW2, hb2⟩
 clear hn
 go_wp2_with fail
 refine (wrText _ _ _ _ hW2 (by have := sevs_length [4]; simp at this ⊢; omega)).mono ?_
 rintro e w3 ⟨rfl, hW3, hb3⟩
 go_wp2_with fail
 refine (wrBytes _ _ _ hW3).mono ?_
 rintro e w4 ⟨rfl, rfl⟩
 go_wp2_with fail
 go_ret2
 exact ⟨rfl, ((hb1.alloc hb1.size _).trans hb2).trans hb3⟩
set_option maxHeartbeats 1000000 in
theorem dead_bad (key : ByteArray) (w : World) (h : fitsB key = false) : Calls Tryz.prog 39 #[.string key] w fun e w' =>
  e = .returned (.tuple #[.string (str []), .int .i64 110]) ∧ w = w' := by
 go_enter Tryz.func39, Tryz.ntmps39
 go_wp2_with fail
 refine (fits_no _ _ h).mono ?_
 rintro e w' ⟨rfl, rfl⟩
 go_wp2_with fail
 go_ret2
 exact ⟨rfl, rfl⟩
def burNum (l : List UInt8) : Int × List UInt8 × Int := rdNumS 4 l
def burTxt (l : List UInt8) : List UInt8 × List UInt8 × Int := rdText2 24 ([], (burNum l).2.1, (burNum l).2.2)
def buriedOk (l : List UInt8) : Bool := decide ((burTxt l).2.2 = 0) && decide ((burTxt l).2.1 = []) && decide ((burNum l).1 = 4) && !(burTxt l).1.isEmpty
def buriedS (l : List UInt8) : Option (List UInt8) := if buriedOk l then some (burTxt l).1 else none
def BurPost (l : List UInt8) (w : World) (e : Ending) (w' : World) : Prop :=
 e = .returned (.tuple #[.string (str ((buriedS l).getD [])), .bool (buriedS l).isSome]) ∧ Below w.heap.size w w'
theorem burPost_some {l : List UInt8} {w w' : World} (h : buriedOk l = true) (hb : Below w.heap.size w w') : BurPost l w (.returned (.tuple #[.string (str (burTxt l).1), .bool true])) w' := by
 unfold BurPost buriedS; rw [h]; exact ⟨rfl, hb⟩
theorem burPost_none {l : List UInt8} {w w' : World} (h : buriedOk l = false) (hb : Below w.heap.size w w') : BurPost l w (.returned (.tuple #[.string (str []), .bool false])) w' := by
 unfold BurPost buriedS; rw [h]; exact ⟨rfl, hb⟩
set_option maxHeartbeats 1000000 in
theorem buried_any (s : ByteArray) (w : World) (hs : (s.size : Int) ≤ 9223372036854775807) : Calls Tryz.prog 35 #[.string s] w (BurPost s.data.toList w) := by
 go_enter Tryz.func35, Tryz.ntmps35
 go_wp2_with fail
 refine (rdRead s w).mono ?_
 rintro e w1 ⟨rfl, hw1⟩
 have hrd1 : Rd w1 w.heap.size s 0 := by subst hw1; exact Blk.new w _ [_, _]
 have hb1 : Below w.heap.size w w1 := by subst hw1; exact (Below.refl _ _).alloc (Nat.le_refl _) _
 have hsz1 : w.heap.size < w1.heap.size := Blk.lt hrd1
 clear hw1
 go_wp2_with fail
 have hN := rdNum_ok w.heap.size s 4 w1 hrd1 (by unfold maxLen; omega) (by omega)
 have hNf := rdNumS_facts 4 s.data.toList
 obtain ⟨X, hX⟩ : ∃ X, X = rdNumS 4 s.data.toList := ⟨_, rfl⟩
 rw [← hX] at hN hNf
 have HX := keep hX
 have hl : (X.2.1.length : Int) ≤ 9223372036854775807 := by have := hNf.2.1; simp at this; omega
 clear hX hNf
 refine hN.mono ?_
 rintro e w2 ⟨rfl, hrd2, hbt2⟩
 clear hN
 go_wp2_with fail
 have hT := rdText_any w.heap.size 24 ([], X.2.1, X.2.2) w2 hrd2 hl (by omega)
 obtain ⟨Y, hY⟩ : ∃ Y, Y = rdText2 24 ([], X.2.1, X.2.2) := ⟨_, rfl⟩
 rw [← hY] at hT
 have HY := keep hY
 clear hY
 refine hT.mono ?_
 rintro e w3 ⟨rfl, hrd3, hbt3⟩
 clear hT
 go_wp2_with fail
 refine (rdEnd _ _ _ _ hrd3).mono ?_
 rintro e w4 ⟨rfl, rfl⟩
 generalize hE : (if Y.2.2 = 0 ∧ 0 < (str Y.2.1).size then (12 : Int) else Y.2.2) = E
 have hE0 : E = 0 ↔ (Y.2.2 = 0 ∧ Y.2.1 = []) := by
  rw [← hE]
  cases hy : Y.2.1 with
  | nil => simp
  | cons a l =>
   simp
   split
   ·omega
   ·assumption
 have hwb : Below w.heap.size w w3 := But.below (But.below hb1 hbt2 (Nat.le_refl _) (by omega)) hbt3 (Nat.le_refl _) (by have := hbt2.size; omega)
 have hok : buriedOk s.data.toList = (decide (E = 0) && decide (X.1 = 4) && !Y.1.isEmpty) := by
  unfold buriedOk
  have e1 : burNum s.data.toList = X := HX.out.symm
  have e2 : burTxt s.data.toList = Y := by unfold burTxt; rw [e1]; exact HY.out.symm
  rw [e1, e2, Bool.eq_iff_iff]
  simp only [Bool.and_eq_true, decide_eq_true_eq, hE0]
 have hy1 : (burTxt s.data.toList).1 = Y.1 := by
  have e1 : burNum s.data.toList = X := HX.out.symm
  unfold burTxt; rw [e1, ← HY.out]
 have HOK := keep hok
 have HY1 := keep hy1
 clear hE hE0 hok hy1
 have hstr : (str Y.1).toList.isEmpty = Y.1.isEmpty := by rw [str_list]
 by_cases h1 : E = 0
 ·have h1' : (E != 0) = false := by simpa using h1
  by_cases h2 : X.1 = 4
  ·have h2' : (X.1 != 4) = false := by simpa using h2
   cases h3 : Y.1.isEmpty with
   | true =>
    have hno : buriedOk s.data.toList = false := by rw [HOK.out, h3]; simp
    have HN := keep hno
    rw [h3] at hstr
    clear hno h3
    go_wp2_with fail
    go_ret2
    exact burPost_none HN.out hwb
   | false =>
    have hyes : buriedOk s.data.toList = true := by rw [HOK.out, h3]; simp [h1, h2]
    have HYes := keep hyes
    rw [h3] at hstr
    clear hyes h3
    go_wp2_with fail
    go_ret2
    have := burPost_some HYes.out hwb
    rw [HY1.out] at this
    exact this
  ·have h2' : (X.1 != 4) = true := by simpa using h2
   have hno : buriedOk s.data.toList = false := by rw [HOK.out]; simp [h2]
   have HN := keep hno
   clear hno
   go_wp2_with fail
   go_ret2
   exact burPost_none HN.out hwb
 ·have h1' : (E != 0) = true := by simpa using h1
  have hno : buriedOk s.data.toList = false := by rw [HOK.out]; simp [h1]
  have HN := keep hno
  clear hno
  go_wp2_with fail
  go_ret2
  exact burPost_none HN.out hwb
end Go.Proofs.YtmhepfehcakmjaaGreat
