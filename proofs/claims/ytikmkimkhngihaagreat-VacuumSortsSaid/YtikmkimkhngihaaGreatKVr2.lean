
import Derived.Test.YtikmkimkhngihaaGreatKVr1
import Derived.Test.YtikmkimkhngihaaGreatKSame2
/- The records that vacuum makes: what they are in memory; the law's comparison of two; the document's record of what is frozen. -/
namespace Go.Proofs.YtikmkimkhngihaaGreat
open Go.RowKit

def recR (k p : Int) (sv mv : Value) : Value := .agg #[.int .i64 0, .int .i64 0, .int .i64 0, .int .u8 k, .int .i64 0, .int .i64 p, .int .i64 0, .int .i64 0, .int .i64 0, .int .i64 0, .string ⟨#[]⟩, sv, mv, .slice none 0 0, .slice none 0 0, .slice none 0 0]
def recRC (k p : Int) (sv mv : Value) : List Value := [.int .i64 0, .int .i64 0, .int .i64 0, .int .u8 k, .int .i64 0, .int .i64 p, .int .i64 0, .int .i64 0, .int .i64 0, .int .i64 0, .string ⟨#[]⟩, sv, mv, .slice none 0 0, .slice none 0 0, .slice none 0 0]
/-- A record of kind k of page p with these slots, and whether there is one. -/
def RecPost (k p : Int) (B : Bool) (S M : List Int) (w : World) (e : Ending) (w' : World) : Prop :=
  ∃ sv mv, e = .returned (.tuple #[recR k p sv mv, .bool B]) ∧ Ints w' sv S ∧ Ints w' mv M ∧ Below w.heap.size w w'
theorem wk_new (fv ov gv : Value) (w_ w0 : World) (h : w0 = (w_.alloc (.cells #[fv, ov, gv] 39)).alloc (.cells #[.int .i64 0, .int .i64 0, .int .i64 0, .int .u8 0, .int .i64 0, .int .i64 0, .int .i64 0, .int .i64 0, .int .i64 0, .int .i64 0, .string ⟨#[]⟩, .slice none 0 0, .slice none 0 0, .slice none 0 0, .slice none 0 0, .slice none 0 0] 47)) :
    Grow w_ w0 ∧ Blk w0 w_.heap.size 39 [fv, ov, gv] ∧ Blk w0 (w_.heap.size + 1) 47 [.int .i64 0, .int .i64 0, .int .i64 0, .int .u8 0, .int .i64 0, .int .i64 0, .int .i64 0, .int .i64 0, .int .i64 0, .int .i64 0, .string ⟨#[]⟩, .slice none 0 0, .slice none 0 0, .slice none 0 0, .slice none 0 0, .slice none 0 0] ∧ w0.heap.size = w_.heap.size + 2 := by
  subst h
  refine ⟨((Grow.refl w_).alloc _).alloc _, (Blk.new w_ 39 [fv, ov, gv]).alloc _, ?_, by simp⟩
  have := Blk.new (w_.alloc (.cells #[fv, ov, gv] 39)) 47 [.int .i64 0, .int .i64 0, .int .i64 0, .int .u8 0, .int .i64 0, .int .i64 0, .int .i64 0, .int .i64 0, .int .i64 0, .int .i64 0, .string ⟨#[]⟩, .slice none 0 0, .slice none 0 0, .slice none 0 0, .slice none 0 0, .slice none 0 0]
  have e : (w_.alloc (.cells #[fv, ov, gv] 39)).heap.size = w_.heap.size + 1 := by simp
  rw [e] at this
  exact this
theorem rfrz_res (tm : Array Value) (w : World) (b : Nat) (K P : Int) (sv mv : Value) (B : Bool) (h4 : tm.getD 4 undef = .pointer (some ⟨b, 0, none⟩)) (h5 : tm.getD 5 undef = .bool B) (hB : Blk w b 47 (recRC K P sv mv)) :
    (results Tryz.f10 tm).run Tryz.prog w = .ok (.tuple #[recR K P sv mv, .bool B]) w := by
  unfold recRC at hB
  obtain ⟨⟨s0_, s1_, s2_, s3_, s4_, s5_, s6_, s7_, s8_, s9_, s10_, s11_, s12_, s13_, s14_, s15_⟩, _⟩ := recres hB
  simp only [Array.getD_eq_getD_getElem?] at h4 h5
  simp [results, Tryz.results10, go_sem, h4, h5, s0_, s1_, s2_, s3_, s4_, s5_, s6_, s7_, s8_, s9_, s10_, s11_, s12_, s13_, s14_, s15_, recR]
theorem rcln_res (tm : Array Value) (w : World) (b : Nat) (K P : Int) (sv mv : Value) (B : Bool) (h4 : tm.getD 4 undef = .pointer (some ⟨b, 0, none⟩)) (h5 : tm.getD 5 undef = .bool B) (hB : Blk w b 47 (recRC K P sv mv)) :
    (results Tryz.f12 tm).run Tryz.prog w = .ok (.tuple #[recR K P sv mv, .bool B]) w := by
  unfold recRC at hB
  obtain ⟨⟨s0_, s1_, s2_, s3_, s4_, s5_, s6_, s7_, s8_, s9_, s10_, s11_, s12_, s13_, s14_, s15_⟩, _⟩ := recres hB
  simp only [Array.getD_eq_getD_getElem?] at h4 h5
  simp [results, Tryz.results12, go_sem, h4, h5, s0_, s1_, s2_, s3_, s4_, s5_, s6_, s7_, s8_, s9_, s10_, s11_, s12_, s13_, s14_, s15_, recR]
theorem frz_res (tm : Array Value) (w : World) (b : Nat) (K P : Int) (sv mv : Value) (B : Bool) (h4 : tm.getD 4 undef = .pointer (some ⟨b, 0, none⟩)) (h5 : tm.getD 5 undef = .bool B) (hB : Blk w b 47 (recRC K P sv mv)) :
    (results Tryz.f9 tm).run Tryz.prog w = .ok (.tuple #[recR K P sv mv, .bool B]) w := by
  unfold recRC at hB
  obtain ⟨⟨s0_, s1_, s2_, s3_, s4_, s5_, s6_, s7_, s8_, s9_, s10_, s11_, s12_, s13_, s14_, s15_⟩, _⟩ := recres hB
  simp only [Array.getD_eq_getD_getElem?] at h4 h5
  simp [results, Tryz.results9, go_sem, h4, h5, s0_, s1_, s2_, s3_, s4_, s5_, s6_, s7_, s8_, s9_, s10_, s11_, s12_, s13_, s14_, s15_, recR]
theorem cln_res (tm : Array Value) (w : World) (b : Nat) (K P : Int) (sv mv : Value) (B : Bool) (h4 : tm.getD 4 undef = .pointer (some ⟨b, 0, none⟩)) (h5 : tm.getD 5 undef = .bool B) (hB : Blk w b 47 (recRC K P sv mv)) :
    (results Tryz.f11 tm).run Tryz.prog w = .ok (.tuple #[recR K P sv mv, .bool B]) w := by
  unfold recRC at hB
  obtain ⟨⟨s0_, s1_, s2_, s3_, s4_, s5_, s6_, s7_, s8_, s9_, s10_, s11_, s12_, s13_, s14_, s15_⟩, _⟩ := recres hB
  simp only [Array.getD_eq_getD_getElem?] at h4 h5
  simp [results, Tryz.results11, go_sem, h4, h5, s0_, s1_, s2_, s3_, s4_, s5_, s6_, s7_, s8_, s9_, s10_, s11_, s12_, s13_, s14_, s15_, recR]

theorem same_ints (S : List Int) (sv su : Value) (u : World) (h1 : Ints u sv S) (h2 : Ints u su S) (hS : (S.length : Int) ≤ 70368744177664) : Calls Tryz.prog 32 #[sv, su] u fun e w' => e = .returned (.bool true) ∧ Below u.heap.size u w' := by
  have h := sameInts_any sv su S S u h1 h2 hS hS
  rw [decide_eq_true (rfl : S = S)] at h
  exact h
set_option maxRecDepth 100000 in
set_option maxHeartbeats 2000000 in
theorem record_any (k p : Int) (S M : List Int) (sv mv su mu : Value) (w_ : World) (h1 : Ints w_ sv S) (h2 : Ints w_ mv M) (h3 : Ints w_ su S) (h4 : Ints w_ mu M) (hS : (S.length : Int) ≤ 70368744177664) (hM : (M.length : Int) ≤ 70368744177664) :
    Calls Tryz.prog 13 #[recR k p sv mv, recR k p su mu] w_ fun e w' => e = .returned (.bool true) ∧ Below w_.heap.size w_ w' := by
  obtain ⟨w0, hw0⟩ : ∃ w0, w0 = (w_.alloc (.cells #[.int .i64 0, .int .i64 0, .int .i64 0, .int .u8 k, .int .i64 0, .int .i64 p, .int .i64 0, .int .i64 0, .int .i64 0, .int .i64 0, .string ⟨#[]⟩, sv, mv, .slice none 0 0, .slice none 0 0, .slice none 0 0] 47)).alloc (.cells #[.int .i64 0, .int .i64 0, .int .i64 0, .int .u8 k, .int .i64 0, .int .i64 p, .int .i64 0, .int .i64 0, .int .i64 0, .int .i64 0, .string ⟨#[]⟩, su, mu, .slice none 0 0, .slice none 0 0, .slice none 0 0] 47) := ⟨_, rfl⟩
  have hg0 : Grow w_ w0 := by subst hw0; exact ((Grow.refl w_).alloc _).alloc _
  have hA0 : Blk w0 w_.heap.size 47 (recRC k p sv mv) := by
    have := (Blk.new w_ 47 (recRC k p sv mv)).alloc (.cells (recRC k p su mu).toArray 47)
    subst hw0; exact this
  have hB0 : Blk w0 (w_.heap.size + 1) 47 (recRC k p su mu) := by
    have := Blk.new (w_.alloc (.cells (recRC k p sv mv).toArray 47)) 47 (recRC k p su mu)
    have e : (w_.alloc (.cells (recRC k p sv mv).toArray 47)).heap.size = w_.heap.size + 1 := by simp
    rw [e] at this
    subst hw0; exact this
  have HS := keep (fun (u : World) (hu : Grow w_ u) => same_ints S sv su u (h1.fits hu) (h3.fits hu) hS)
  have HM := keep (fun (u : World) (hu : Grow w_ u) => same_ints M mv mu u (h2.fits hu) (h4.fits hu) hM)
  obtain ⟨sa, sc, rfl⟩ := row_slice h1
  obtain ⟨ma, mc, rfl⟩ := row_slice h2
  obtain ⟨ta, tc, rfl⟩ := row_slice h3
  obtain ⟨na, nc, rfl⟩ := row_slice h4
  have HA0 := keep hA0
  have HB0 := keep hB0
  have HG0 := keep hg0
  unfold recRC at hA0 hB0
  obtain ⟨⟨a0, a1, a2, a3, a4, a5, a6, a7, a8, a9, a10, a11, a12, a13, a14, a15⟩, _⟩ := recres hA0
  obtain ⟨⟨b0, b1, b2, b3, b4, b5, b6, b7, b8, b9, b10, b11, b12, b13, b14, b15⟩, _⟩ := recres hB0
  clear h1 h2 h3 h4 hg0 hA0 hB0
  unfold recR
  go_enter Tryz.func13, Tryz.ntmps13
  go_upto_region 1 with fail
  rw [← hw0]
  clear hw0
  go_wp2_with fail
  refine (HS.out w0 HG0.out).mono ?_
  rintro x w1 ⟨rfl, hb1⟩
  have hA1 := HA0.out.fits hb1
  have hB1 := HB0.out.fits hb1
  have hg1 := Grow.trans HG0.out hb1
  unfold recRC at hA1 hB1
  clear a0 a1 a2 a3 a4 a5 a6 a7 a8 a9 a10 a11 a12 a13 a14 a15 b0 b1 b2 b3 b4 b5 b6 b7 b8 b9 b10 b11 b12 b13 b14 b15 hb1
  obtain ⟨⟨a0, a1, a2, a3, a4, a5, a6, a7, a8, a9, a10, a11, a12, a13, a14, a15⟩, _⟩ := recres hA1
  obtain ⟨⟨b0, b1, b2, b3, b4, b5, b6, b7, b8, b9, b10, b11, b12, b13, b14, b15⟩, _⟩ := recres hB1
  go_wp2_with fail
  refine (HM.out w1 hg1).mono ?_
  rintro x w2 ⟨rfl, hb2⟩
  have hA2 := hA1.fits hb2
  have hg2 := Grow.trans hg1 hb2
  clear a0 a1 a2 a3 a4 a5 a6 a7 a8 a9 a10 a11 a12 a13 a14 a15 b0 b1 b2 b3 b4 b5 b6 b7 b8 b9 b10 b11 b12 b13 b14 b15 hb2 hA1 hB1 hg1
  obtain ⟨⟨a0, a1, a2, a3, a4, a5, a6, a7, a8, a9, a10, a11, a12, a13, a14, a15⟩, _⟩ := recres hA2
  go_wp2_with fail
  go_ret
  exact ⟨rfl, hg2⟩

end Go.Proofs.YtikmkimkhngihaaGreat
