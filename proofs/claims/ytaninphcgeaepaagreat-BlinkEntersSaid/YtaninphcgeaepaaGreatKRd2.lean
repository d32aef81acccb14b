import Derived.Test.YtaninphcgeaepaaGreatKRf3
import Derived.Test.YtaninphcgeaepaaGreatKRf5
import Derived.Test.YtaninphcgeaepaaGreatKRd3
namespace Go.Proofs.YtaninphcgeaepaaGreat
open Go.RowKit
theorem Rr.set_other {w : World} {b : Nat} {l : List UInt8} {x : List UInt8 × Int} (h : Rr w b l x) (a : Addr) (ha : b ≠ a.block) (v : Value) : Rr (w.setCell a v) b l x := by
 obtain ⟨i, h1, h2, h3⟩ := h
 exact ⟨i, h1, Blk.set_other h2 a ha v, h3⟩
theorem Rr.fits {w w' : World} {b : Nat} {l : List UInt8} {x : List UInt8 × Int} (h : Rr w b l x) (g : Grow w w') : Rr w' b l x := by
 obtain ⟨i, h1, h2, h3⟩ := h
 exact ⟨i, h1, Blk.fits h2 g, h3⟩
theorem three_new (w_ : World) (l : List UInt8) (w0 : World) (hw0 : w0 = (((w_.alloc (.cells #[.string ⟨#[]⟩, .int .i64 0, .int .i64 0] 41)).alloc (.cells #[.string (str l), .int .i64 0, .int .i64 0] 115)).alloc (.cells #[.string ⟨#[]⟩, .int .i64 0, .int .i64 0] 41))) :
  Blk w0 w_.heap.size 41 [.string ⟨#[]⟩, .int .i64 0, .int .i64 0] ∧ Rr w0 (w_.heap.size + 1) l (l, 0) ∧ Blk w0 (w_.heap.size + 2) 41 [.string ⟨#[]⟩, .int .i64 0, .int .i64 0] ∧ Below w_.heap.size w_ w0 ∧ w_.heap.size + 3 ≤ w0.heap.size := by
 subst hw0
 have e1 : (w_.alloc (.cells #[.string ⟨#[]⟩, .int .i64 0, .int .i64 0] 41)).heap.size = w_.heap.size + 1 := by simp
 refine ⟨?_, ⟨0, by omega, ?_, fun _ => rfl⟩, ?_, ((Below.refl w_.heap.size w_).alloc (Nat.le_refl _) _).alloc (by simp) _ |>.alloc (by simp; omega) _, by simp⟩
 ·exact ((Blk.new w_ 41 [.string ⟨#[]⟩, .int .i64 0, .int .i64 0]).alloc _).alloc _
 ·have := (Blk.new (w_.alloc (.cells #[.string ⟨#[]⟩, .int .i64 0, .int .i64 0] 41)) 115 [.string (str l), .int .i64 0, .int .i64 0]).alloc (.cells #[.string ⟨#[]⟩, .int .i64 0, .int .i64 0] 41)
  rw [e1] at this
  exact this
 ·have := Blk.new ((w_.alloc (.cells #[.string ⟨#[]⟩, .int .i64 0, .int .i64 0] 41)).alloc (.cells #[.string (str l), .int .i64 0, .int .i64 0] 115)) 41 [.string ⟨#[]⟩, .int .i64 0, .int .i64 0]
  have e : ((w_.alloc (.cells #[.string ⟨#[]⟩, .int .i64 0, .int .i64 0] 41)).alloc (.cells #[.string (str l), .int .i64 0, .int .i64 0] 115)).heap.size = w_.heap.size + 2 := by simp
  rw [e] at this
  exact this
theorem rrtext_any (b : Nat) (l y : List UInt8) (most : Int) (w : World) (h : Rr w b l (y, 0)) (hs : (l.length : Int) ≤ 4611686018427387904) (hm : 0 ≤ most) : Calls Tryz.prog 75 #[.pointer (some ⟨b, 0, none⟩), .int .i64 most] w fun x w' =>
  x = .returned (.string (str (rdTextS most y).1)) ∧ Rr w' b l (rdTextS most y).2 ∧ But b w w' := by
 obtain ⟨a, ha, hr, hd⟩ := h
 have h1 : l.drop a = y := hd rfl
 rw [← h1]
 exact rrtext_ok b l a most w hr hs ha hm
theorem Below.step {B b : Nat} {u w w' : World} (h : Below B u w) (k : But b w w') (hb : B ≤ b) (hB : B ≤ w.heap.size) : Below B u w' := But.below h k hb hB
set_option maxRecDepth 100000 in
set_option maxHeartbeats 4000000 in
theorem rdecode_any (l : List UInt8) (w_ : World) (hs : (l.length : Int) ≤ 4611686018427387904) :
  Calls Tryz.prog 32 #[.string (str l)] w_ fun x w' => x = .returned (.tuple #[enV (decN l).1, .int .i64 (decN l).2]) ∧ Below w_.heap.size w_ w' := by
 obtain ⟨w0, hw0⟩ : ∃ w0, w0 = (((w_.alloc (.cells #[.string ⟨#[]⟩, .int .i64 0, .int .i64 0] 41)).alloc (.cells #[.string (str l), .int .i64 0, .int .i64 0] 115)).alloc (.cells #[.string ⟨#[]⟩, .int .i64 0, .int .i64 0] 41)) := ⟨_, rfl⟩
 obtain ⟨hR0, hD0, hE0, hg0, hz0⟩ := three_new w_ l w0 hw0
 have hd : decN l = if decide (endE ((takeS l).2.1, (takeS l).2.2) = 0) && enOk ((takeK l).1, (takeP l).1, (takeS l).1) then (((takeK l).1, (takeP l).1, (takeS l).1), 0) else (leastE, 140) := rfl
 have hc := dec_canon l
 have hK := fun (u : World) (b : Nat) (h : Rr u b l (l, 0)) => rrtext_any b l l 24 u h hs (by decide)
 have hP := fun (u : World) (b : Nat) (h : Rr u b l (takeK l).2) => rrnum_any b l 65535 (takeK l).2 u h hs (by decide)
 have hS := fun (u : World) (b : Nat) (h : Rr u b l (takeP l).2) => rrnum_any b l 65535 (takeP l).2 u h hs (by decide)
 have hE := fun (u : World) (b : Nat) (h : Rr u b l (takeS l).2) => rrend_any b l (takeS l).2 u h
 change ∀ u b, Rr u b l (takeK l).2 → Calls _ _ _ _ (fun e w' => e = .returned (.int .i64 (takeP l).1) ∧ Rr w' b l (takeP l).2 ∧ But b u w') at hP
 change ∀ u b, Rr u b l (takeP l).2 → Calls _ _ _ _ (fun e w' => e = .returned (.int .i64 (takeS l).1) ∧ Rr w' b l (takeS l).2 ∧ But b u w') at hS
 change ∀ u b, Rr u b l (l, 0) → Calls _ _ _ _ (fun e w' => e = .returned (.string (str (takeK l).1)) ∧ Rr w' b l (takeK l).2 ∧ But b u w') at hK
 change ∀ u b, Rr u b l (takeS l).2 → Calls _ _ _ _ (fun e w' => e = .returned (.int .i64 (endE ((takeS l).2.1, (takeS l).2.2))) ∧ Grow u w') at hE
 unfold partE at hc
 generalize endE ((takeS l).2.1, (takeS l).2.2) = EE at *
 generalize takeS l = S at *
 generalize takeP l = P at *
 generalize takeK l = K at *
 obtain ⟨k, K2⟩ := K
 obtain ⟨p, P2⟩ := P
 obtain ⟨s, S2⟩ := S
 dsimp only at hd hK hP hS hE hc
 have hen := fun (u : World) => rencode_any (k, p, s) u
 have heN : encN (k, p, s) = if enOk (k, p, s) then (enBytes (k, p, s) [], 0) else ([], 140) := rfl
 generalize enBytes (k, p, s) [] = EB at *
 generalize enOk (k, p, s) = A at *
 generalize encN (k, p, s) = X at *
 obtain ⟨eb, ec⟩ := X
 unfold enV at hen
 dsimp only at hen
 have HD := keep hd
 have HC := keep hc
 have HN := keep heN
 have HK := keep hK
 have HP := keep hP
 have HS := keep hS
 have HE := keep hE
 have HEn := keep hen
 clear hd hK hP hS hE hc hen heN
 go_enter Tryz.func32, Tryz.ntmps32
 go_upto_region 3 with fail
 rw [← hw0]
 clear hw0
 go_wp2_with fail
 refine (HK.out _ _ hD0).mono ?_
 rintro x w1 ⟨rfl, hD1, hb1⟩
 have hR1 := hR0.but hb1 (by omega)
 have hE1 := hE0.but hb1 (by omega)
 have hg1 := Below.step hg0 hb1 (by omega) (by omega)
 have hz1 := Nat.le_trans hz0 hb1.size
 clear hD0 hR0 hE0 hg0 hb1
 have hE1' := hE1.set 0 (.string (str k))
 have hR1' := hR1.set_other ⟨w_.heap.size + 2, 0, none⟩ (by dsimp only; omega) (.string (str k))
 have hD1' := hD1.set_other ⟨w_.heap.size + 2, 0, none⟩ (by dsimp only; omega) (.string (str k))
 have hg1' := Below.step hg1 ((But.refl (w_.heap.size + 2) w1).setCell 0 (.string (str k))) (by omega) (by omega)
 have hz1' := Nat.le_trans hz1 ((But.refl (w_.heap.size + 2) w1).setCell 0 (.string (str k))).size
 obtain ⟨c0, c1, c2, f0, f1, f2⟩ := enres hE1
 clear hD1 hR1 hE1 hg1
 go_wp2_with fail
 refine (HP.out _ _ hD1').mono ?_
 rintro x w2 ⟨rfl, hD2, hb2⟩
 have hR2 := hR1'.but hb2 (by omega)
 have hE2 := hE1'.but hb2 (by omega)
 have hg2 := Below.step hg1' hb2 (by omega) (by omega)
 have hz2 := Nat.le_trans hz1' hb2.size
 clear hD1' hR1' hE1' hg1' hb2
 have hE2' := hE2.set 1 (.int .i64 p)
 have hR2' := hR2.set_other ⟨w_.heap.size + 2, 1, none⟩ (by dsimp only; omega) (.int .i64 p)
 have hD2' := hD2.set_other ⟨w_.heap.size + 2, 1, none⟩ (by dsimp only; omega) (.int .i64 p)
 have hg2' := Below.step hg2 ((But.refl (w_.heap.size + 2) w2).setCell 1 (.int .i64 p)) (by omega) (by omega)
 have hz2' := Nat.le_trans hz2 ((But.refl (w_.heap.size + 2) w2).setCell 1 (.int .i64 p)).size
 obtain ⟨c0, c1, c2, f0, f1, f2⟩ := enres hE2
 clear hD2 hR2 hE2 hg2
 go_wp2_with fail
 refine (HS.out _ _ hD2').mono ?_
 rintro x w3 ⟨rfl, hD3, hb3⟩
 have hR3 := hR2'.but hb3 (by omega)
 have hE3 := hE2'.but hb3 (by omega)
 have hg3 := Below.step hg2' hb3 (by omega) (by omega)
 have hz3 := Nat.le_trans hz2' hb3.size
 clear hD2' hR2' hE2' hg2' hb3
 have hE3' := hE3.set 2 (.int .i64 s)
 have hR3' := hR3.set_other ⟨w_.heap.size + 2, 2, none⟩ (by dsimp only; omega) (.int .i64 s)
 have hD3' := hD3.set_other ⟨w_.heap.size + 2, 2, none⟩ (by dsimp only; omega) (.int .i64 s)
 have hg3' := Below.step hg3 ((But.refl (w_.heap.size + 2) w3).setCell 2 (.int .i64 s)) (by omega) (by omega)
 have hz3' := Nat.le_trans hz3 ((But.refl (w_.heap.size + 2) w3).setCell 2 (.int .i64 s)).size
 obtain ⟨c0, c1, c2, f0, f1, f2⟩ := enres hE3
 clear hD3 hR3 hE3 hg3
 go_upto_region 6 with fail
 generalize hw4 : w3.setCell ⟨w_.heap.size + 2, 2, none⟩ (.int .i64 s) = w4 at *
 have hE4 : Blk w4 (w_.heap.size + 2) 41 [.string (str k), .int .i64 p, .int .i64 s] := hE3'
 clear hE3' hw4 c0 c1 c2 f0 f1 f2
 obtain ⟨c0, c1, c2, _⟩ := enres hE4
 go_wp2_with fail
 refine (HEn.out w4).mono ?_
 rintro x w5 ⟨rfl, hb5⟩
 have hE5 := hE4.fits hb5
 have hR5 := Blk.fits hR3' hb5
 have hD5 := hD3'.fits hb5
 have hg5 := Below.trans hg3' (hb5.mono (by omega))
 have hz5 := Nat.le_trans hz3' hb5.size
 clear hE4 hR3' hD3' hg3' hb5 c0 c1 c2
 go_wp2_with fail
 refine (HE.out w5 _ hD5).mono ?_
 rintro x w6 ⟨rfl, hb6⟩
 have hE6 := hE5.fits hb6
 have hR6 := hR5.fits hb6
 have hg6 := Below.trans hg5 (hb6.mono (by omega))
 have hz6 := Nat.le_trans hz5 hb6.size
 clear hE5 hR5 hD5 hg5 hb6
 obtain ⟨c0, c1, c2, _⟩ := enres hE6
 obtain ⟨r0, r1, r2, f0, f1, f2⟩ := enres hR6
 by_cases hEE : EE = 0
 ·subst hEE
  have hel := HC.out (by simp)
  subst hel
  cases A with
  | true =>
   have hn := HN.out
   simp only [if_true, Prod.mk.injEq] at hn
   obtain ⟨rfl, rfl⟩ := hn
   have hd2 : decN eb = ((k, p, s), 0) := by rw [HD.out]; rfl
   have HD2 := keep hd2
   have Hset := keep (enset hR6 (.string (str k)) (.int .i64 p) (.int .i64 s))
   have Hbut := keep (enbut w6 w_.heap.size (.string (str k)) (.int .i64 p) (.int .i64 s))
   have Hlt := keep hR6.lt
   clear hR6 hE6 hd2 HD HC HN
   go_wp2_with fail
   rw [HD2.out]
   refine bodyPost_ret (v := .tuple #[enV (k, p, s), .int .i64 0]) ?_ rfl ⟨rfl, But.below hg6 Hbut.out (Nat.le_refl _) (Nat.le_of_lt Hlt.out)⟩
   obtain ⟨s0, s1, s2, _⟩ := enres Hset.out
   simp [results, Tryz.results32, go_sem, s0, s1, s2, enV]
  | false =>
   have hn := HN.out
   simp only [Bool.false_eq_true, if_false, Prod.mk.injEq] at hn
   obtain ⟨rfl, rfl⟩ := hn
   have hd2 : decN EB = (leastE, 140) := by rw [HD.out]; rfl
   have HD2 := keep hd2
   clear hd2 HD HC HN
   have Hset := keep (enset hR6 (.string ⟨#[]⟩) (.int .i64 0) (.int .i64 0))
   have Hbut := keep (enbut w6 w_.heap.size (.string ⟨#[]⟩) (.int .i64 0) (.int .i64 0))
   have Hlt := keep hR6.lt
   clear hR6 hE6
   go_wp2_with fail
   rw [HD2.out]
   refine bodyPost_ret (v := .tuple #[enV leastE, .int .i64 140]) ?_ rfl ⟨rfl, But.below hg6 Hbut.out (Nat.le_refl _) (Nat.le_of_lt Hlt.out)⟩
   obtain ⟨s0, s1, s2, _⟩ := enres Hset.out
   simp [results, Tryz.results32, go_sem, s0, s1, s2, enV, leastE]
   rfl
 ·have qE : (EE != 0) = true := by simp [hEE]
  have hd2 : decN l = (leastE, 140) := by rw [HD.out, decide_eq_false hEE]; rfl
  have HD2 := keep hd2
  clear hd2 HD HC HN
  have Hset := keep (enset hR6 (.string ⟨#[]⟩) (.int .i64 0) (.int .i64 0))
  have Hbut := keep (enbut w6 w_.heap.size (.string ⟨#[]⟩) (.int .i64 0) (.int .i64 0))
  have Hlt := keep hR6.lt
  clear hR6 hE6
  go_wp2_with fail
  rw [HD2.out]
  refine bodyPost_ret (v := .tuple #[enV leastE, .int .i64 140]) ?_ rfl ⟨rfl, But.below hg6 Hbut.out (Nat.le_refl _) (Nat.le_of_lt Hlt.out)⟩
  obtain ⟨s0, s1, s2, _⟩ := enres Hset.out
  simp [results, Tryz.results32, go_sem, s0, s1, s2, enV, leastE]
  rfl
end Go.Proofs.YtaninphcgeaepaaGreat
namespace Go.Proofs.YtaninphcgeaepaaGreat
open Go.RowKit
theorem neq_zeroE (k : List UInt8) (p s : Int) (w : World) : (binOp .neq 41 (.agg #[.string (str k), .int .i64 p, .int .i64 s]) (.agg #[.string ⟨#[]⟩, .int .i64 0, .int .i64 0])).run Tryz.prog w = .ok (.bool (!isL (k, p, s))) w := neq_least k p s w
attribute [local simp] neq_zeroE
attribute [local go_sem] guard_entry
theorem enBytes_short {e : En} (h : enFine e) : (enBytes e []).length ≤ 60 := by
 have h1 := sev_length e.1.length
 have h2 := sevs_length [e.2.1, e.2.2]
 have h3 := h.1
 simp only [enBytes, txt, List.length_append, sevs, List.flatMap_nil, List.length_nil, List.length_cons] at *
 omega
set_option maxRecDepth 100000 in
set_option maxHeartbeats 1000000 in
theorem rsep_any (e : En) (c : Int) (w_ : World) : Calls Tryz.prog 68 #[enV e, .int .i64 c] w_ fun x w' => x = .returned (.tuple #[.string (str (sepN e c).1), .int .i64 (sepN e c).2]) ∧ Below w_.heap.size w_ w' := by
 have hi := fun u => rentry_any e u
 have hc := fun u => rchild_any c u
 have hb := fun (u : World) (h : isL e = true ∨ enOk e = true) => rraw_any e u (sep_fine h)
 have hn := fun (u : World) (v : Value) (h : inB c 1 65535 = true) (hv : IntsS u v [c]) => rnum_any [c] v u hv.weak (by simp [inB] at h ⊢; omega) (by simp)
 have hd : sepN e c = if inB c 1 65535 && (isL e || enOk e) then (enBytes e [c], 0) else ([], 140) := rfl
 have hcat : str (enBytes e []) ++ str (sevs [c]) = str (enBytes e [c]) := by simp [str_app, enBytes, sevs]
 have hsh : (isL e = true ∨ enOk e = true) → ¬ 9223372036854775807 < (enBytes e []).length + (sevs [c]).length := fun h => by
  have h1 := enBytes_short (sep_fine h)
  have h2 := sevs_length [c]
  simp only [List.length_cons, List.length_nil] at h2
  omega
 obtain ⟨k, p, s⟩ := e
 obtain ⟨w0, hw0⟩ : ∃ w0, w0 = w_.alloc (.cells #[.string (str k), .int .i64 p, .int .i64 s] 41) := ⟨_, rfl⟩
 have hg0 : Grow w_ w0 := by subst hw0; exact (Grow.refl w_).alloc _
 have hB0 : Blk w0 w_.heap.size 41 [.string (str k), .int .i64 p, .int .i64 s] := by subst hw0; exact Blk.new w_ _ [_, _, _]
 obtain ⟨c0, c1, c2, _⟩ := enres hB0
 generalize enBytes (k, p, s) [c] = EC at *
 generalize enBytes (k, p, s) [] = EB at *
 generalize enOk (k, p, s) = A at *
 generalize inB c 1 65535 = C at *
 generalize sevs [c] = SC at *
 generalize hLe : isL (k, p, s) = L at *
 unfold enV at *
 dsimp only at *
 have HI := keep hi
 have HC := keep hc
 have HBy := keep hb
 have HNu := keep hn
 have HD := keep hd
 have HCat := keep hcat
 have HSh := keep hsh
 clear hi hb hd hc hn hcat hsh
 go_enter Tryz.func68, Tryz.ntmps68
 go_upto_region 1 with fail
 rw [← hw0]
 clear hw0
 go_wp2_with fail
 refine (HI.out w0).mono ?_
 rintro x w1 ⟨rfl, hb1⟩
 have hg1 := Grow.trans hg0 hb1
 have hB1 := hB0.fits hb1
 clear c0 c1 c2
 obtain ⟨c0, c1, c2, _⟩ := enres hB1
 cases A with
 | true =>
  have hlen := HSh.out (by simp)
  go_wp2_with fail
  refine (HC.out w1).mono ?_
  rintro x w2 ⟨rfl, rfl⟩
  cases C with
  | false =>
   go_wp2_with fail
   go_ret2
   rw [HD.out]
   exact ⟨rfl, hg1⟩
  | true =>
   go_wp2_with fail
   refine (HBy.out w1 (by simp)).mono ?_
   rintro x w2 ⟨rfl, hb2⟩
   go_wp2_with fail
   refine (HNu.out _ _ trivial (one_ints _ _)).mono ?_
   rintro x w3 ⟨rfl, hb3⟩
   go_wp2_with fail
   go_ret2
   have hd2 : sepN (k, p, s) c = (EC, 0) := by rw [HD.out]; simp
   rw [hd2]
   refine ⟨?_, Grow.trans hg1 (Grow.trans hb2 (Grow.trans ((Grow.refl _).alloc _) hb3))⟩
   show Ending.returned (.tuple #[.string (str EB ++ str SC), .int .i64 0]) = _
   rw [HCat.out]
 | false =>
  cases L with
  | true =>
   have hlen := HSh.out (by simp)
   go_wp2_with fail
   refine (HC.out w1).mono ?_
   rintro x w2 ⟨rfl, rfl⟩
   cases C with
   | false =>
    go_wp2_with fail
    go_ret2
    rw [HD.out]
    exact ⟨rfl, hg1⟩
   | true =>
    go_wp2_with fail
    refine (HBy.out w1 (by simp)).mono ?_
    rintro x w2 ⟨rfl, hb2⟩
    go_wp2_with fail
    refine (HNu.out _ _ trivial (one_ints _ _)).mono ?_
    rintro x w3 ⟨rfl, hb3⟩
    go_wp2_with fail
    go_ret2
    have hd2 : sepN (k, p, s) c = (EC, 0) := by rw [HD.out]; simp
    rw [hd2]
    refine ⟨?_, Grow.trans hg1 (Grow.trans hb2 (Grow.trans ((Grow.refl _).alloc _) hb3))⟩
    show Ending.returned (.tuple #[.string (str EB ++ str SC), .int .i64 0]) = _
    rw [HCat.out]
  | false =>
   go_wp2_with fail
   go_ret2
   rw [HD.out, show (C && (false || false)) = false by cases C <;> rfl]
   exact ⟨rfl, hg1⟩
set_option maxRecDepth 100000 in
set_option maxHeartbeats 4000000 in
theorem runsep_any (l : List UInt8) (w_ : World) (hs : (l.length : Int) ≤ 4611686018427387904) :
  Calls Tryz.prog 53 #[.string (str l)] w_ fun x w' => x = .returned (.tuple #[enV (unsN l).1, .int .i64 (unsN l).2.1, .int .i64 (unsN l).2.2]) ∧ Below w_.heap.size w_ w' := by
 obtain ⟨w0, hw0⟩ : ∃ w0, w0 = (((w_.alloc (.cells #[.string ⟨#[]⟩, .int .i64 0, .int .i64 0] 41)).alloc (.cells #[.string (str l), .int .i64 0, .int .i64 0] 115)).alloc (.cells #[.string ⟨#[]⟩, .int .i64 0, .int .i64 0] 41)) := ⟨_, rfl⟩
 obtain ⟨hR0, hD0, hE0, hg0, hz0⟩ := three_new w_ l w0 hw0
 have hd : unsN l = if decide (endE ((takeC l).2.1, (takeC l).2.2) = 0) && (inB (takeC l).1 1 65535 && (isL ((takeK l).1, (takeP l).1, (takeS l).1) || enOk ((takeK l).1, (takeP l).1, (takeS l).1))) then (((takeK l).1, (takeP l).1, (takeS l).1), (takeC l).1, 0) else (leastE, 0, 140) := rfl
 have hc := uns_canon l
 have hK := fun (u : World) (b : Nat) (h : Rr u b l (l, 0)) => rrtext_any b l l 24 u h hs (by decide)
 have hP := fun (u : World) (b : Nat) (h : Rr u b l (takeK l).2) => rrnum_any b l 65535 (takeK l).2 u h hs (by decide)
 have hS := fun (u : World) (b : Nat) (h : Rr u b l (takeP l).2) => rrnum_any b l 65535 (takeP l).2 u h hs (by decide)
 have hQ := fun (u : World) (b : Nat) (h : Rr u b l (takeS l).2) => rrnum_any b l 65535 (takeS l).2 u h hs (by decide)
 have hE := fun (u : World) (b : Nat) (h : Rr u b l (takeC l).2) => rrend_any b l (takeC l).2 u h
 change ∀ u b, Rr u b l (takeK l).2 → Calls _ _ _ _ (fun e w' => e = .returned (.int .i64 (takeP l).1) ∧ Rr w' b l (takeP l).2 ∧ But b u w') at hP
 change ∀ u b, Rr u b l (takeP l).2 → Calls _ _ _ _ (fun e w' => e = .returned (.int .i64 (takeS l).1) ∧ Rr w' b l (takeS l).2 ∧ But b u w') at hS
 change ∀ u b, Rr u b l (takeS l).2 → Calls _ _ _ _ (fun e w' => e = .returned (.int .i64 (takeC l).1) ∧ Rr w' b l (takeC l).2 ∧ But b u w') at hQ
 change ∀ u b, Rr u b l (l, 0) → Calls _ _ _ _ (fun e w' => e = .returned (.string (str (takeK l).1)) ∧ Rr w' b l (takeK l).2 ∧ But b u w') at hK
 change ∀ u b, Rr u b l (takeC l).2 → Calls _ _ _ _ (fun e w' => e = .returned (.int .i64 (endE ((takeC l).2.1, (takeC l).2.2))) ∧ Grow u w') at hE
 unfold partE at hc
 generalize endE ((takeC l).2.1, (takeC l).2.2) = EE at *
 generalize takeC l = Q at *
 generalize takeS l = S at *
 generalize takeP l = P at *
 generalize takeK l = K at *
 obtain ⟨k, K2⟩ := K
 obtain ⟨p, P2⟩ := P
 obtain ⟨s, S2⟩ := S
 obtain ⟨q, Q2⟩ := Q
 dsimp only at hd hK hP hS hQ hE hc
 have hen := fun (u : World) => rsep_any (k, p, s) q u
 have heN : sepN (k, p, s) q = if inB q 1 65535 && (isL (k, p, s) || enOk (k, p, s)) then (enBytes (k, p, s) [q], 0) else ([], 140) := rfl
 generalize enBytes (k, p, s) [q] = EB at *
 generalize (inB q 1 65535 && (isL (k, p, s) || enOk (k, p, s))) = A at *
 generalize sepN (k, p, s) q = X at *
 obtain ⟨eb, ec⟩ := X
 unfold enV at hen
 dsimp only at hen
 have HD := keep hd
 have HC := keep hc
 have HN := keep heN
 have HK := keep hK
 have HP := keep hP
 have HS := keep hS
 have HQ := keep hQ
 have HE := keep hE
 have HEn := keep hen
 clear hd hK hP hS hQ hE hc hen heN
 go_enter Tryz.func53, Tryz.ntmps53
 go_upto_region 3 with fail
 rw [← hw0]
 clear hw0
 go_wp2_with fail
 refine (HK.out _ _ hD0).mono ?_
 rintro x w1 ⟨rfl, hD1, hb1⟩
 have hR1 := hR0.but hb1 (by omega)
 have hE1 := hE0.but hb1 (by omega)
 have hg1 := Below.step hg0 hb1 (by omega) (by omega)
 have hz1 := Nat.le_trans hz0 hb1.size
 clear hD0 hR0 hE0 hg0 hb1
 have hE1' := hE1.set 0 (.string (str k))
 have hR1' := hR1.set_other ⟨w_.heap.size + 2, 0, none⟩ (by dsimp only; omega) (.string (str k))
 have hD1' := hD1.set_other ⟨w_.heap.size + 2, 0, none⟩ (by dsimp only; omega) (.string (str k))
 have hg1' := Below.step hg1 ((But.refl (w_.heap.size + 2) w1).setCell 0 (.string (str k))) (by omega) (by omega)
 have hz1' := Nat.le_trans hz1 ((But.refl (w_.heap.size + 2) w1).setCell 0 (.string (str k))).size
 obtain ⟨c0, c1, c2, f0, f1, f2⟩ := enres hE1
 clear hD1 hR1 hE1 hg1
 go_wp2_with fail
 refine (HP.out _ _ hD1').mono ?_
 rintro x w2 ⟨rfl, hD2, hb2⟩
 have hR2 := hR1'.but hb2 (by omega)
 have hE2 := hE1'.but hb2 (by omega)
 have hg2 := Below.step hg1' hb2 (by omega) (by omega)
 have hz2 := Nat.le_trans hz1' hb2.size
 clear hD1' hR1' hE1' hg1' hb2
 have hE2' := hE2.set 1 (.int .i64 p)
 have hR2' := hR2.set_other ⟨w_.heap.size + 2, 1, none⟩ (by dsimp only; omega) (.int .i64 p)
 have hD2' := hD2.set_other ⟨w_.heap.size + 2, 1, none⟩ (by dsimp only; omega) (.int .i64 p)
 have hg2' := Below.step hg2 ((But.refl (w_.heap.size + 2) w2).setCell 1 (.int .i64 p)) (by omega) (by omega)
 have hz2' := Nat.le_trans hz2 ((But.refl (w_.heap.size + 2) w2).setCell 1 (.int .i64 p)).size
 obtain ⟨c0, c1, c2, f0, f1, f2⟩ := enres hE2
 clear hD2 hR2 hE2 hg2
 go_wp2_with fail
 refine (HS.out _ _ hD2').mono ?_
 rintro x w3 ⟨rfl, hD3, hb3⟩
 have hR3 := hR2'.but hb3 (by omega)
 have hE3 := hE2'.but hb3 (by omega)
 have hg3 := Below.step hg2' hb3 (by omega) (by omega)
 have hz3 := Nat.le_trans hz2' hb3.size
 clear hD2' hR2' hE2' hg2' hb3
 have hE3' := hE3.set 2 (.int .i64 s)
 have hR3' := hR3.set_other ⟨w_.heap.size + 2, 2, none⟩ (by dsimp only; omega) (.int .i64 s)
 have hD3' := hD3.set_other ⟨w_.heap.size + 2, 2, none⟩ (by dsimp only; omega) (.int .i64 s)
 have hg3' := Below.step hg3 ((But.refl (w_.heap.size + 2) w3).setCell 2 (.int .i64 s)) (by omega) (by omega)
 have hz3' := Nat.le_trans hz3 ((But.refl (w_.heap.size + 2) w3).setCell 2 (.int .i64 s)).size
 obtain ⟨c0, c1, c2, f0, f1, f2⟩ := enres hE3
 clear hD3 hR3 hE3 hg3
 go_wp2_with fail
 refine (HQ.out _ _ hD3').mono ?_
 rintro x w4 ⟨rfl, hD4, hb4⟩
 have hR4 := hR3'.but hb4 (by omega)
 have hE4z := hE3'.but hb4 (by omega)
 have hg4 := Below.step hg3' hb4 (by omega) (by omega)
 have hz4 := Nat.le_trans hz3' hb4.size
 clear hD3' hR3' hE3' hg3' hb4
 have hE4 : Blk w4 (w_.heap.size + 2) 41 [.string (str k), .int .i64 p, .int .i64 s] := hE4z
 clear hE4z c0 c1 c2 f0 f1 f2
 obtain ⟨c0, c1, c2, _⟩ := enres hE4
 go_wp2_with fail
 refine (HEn.out w4).mono ?_
 rintro x w5 ⟨rfl, hb5⟩
 have hE5 := hE4.fits hb5
 have hR5 := Blk.fits hR4 hb5
 have hD5 := hD4.fits hb5
 have hg5 := Below.trans hg4 (hb5.mono (by omega))
 have hz5 := Nat.le_trans hz4 hb5.size
 clear hE4 hR4 hD4 hg4 hb5 c0 c1 c2
 go_wp2_with fail
 refine (HE.out w5 _ hD5).mono ?_
 rintro x w6 ⟨rfl, hb6⟩
 have hE6 := hE5.fits hb6
 have hR6 := hR5.fits hb6
 have hg6 := Below.trans hg5 (hb6.mono (by omega))
 have hz6 := Nat.le_trans hz5 hb6.size
 clear hE5 hR5 hD5 hg5 hb6
 obtain ⟨c0, c1, c2, _⟩ := enres hE6
 obtain ⟨r0, r1, r2, f0, f1, f2⟩ := enres hR6
 by_cases hEE : EE = 0
 ·subst hEE
  have hel := HC.out (by simp)
  subst hel
  cases A with
  | true =>
   have hn := HN.out
   simp only [if_true, Prod.mk.injEq] at hn
   obtain ⟨rfl, rfl⟩ := hn
   have hd2 : unsN eb = ((k, p, s), q, 0) := by rw [HD.out]; rfl
   have HD2 := keep hd2
   have Hset := keep (enset hR6 (.string (str k)) (.int .i64 p) (.int .i64 s))
   have Hbut := keep (enbut w6 w_.heap.size (.string (str k)) (.int .i64 p) (.int .i64 s))
   have Hlt := keep hR6.lt
   clear hR6 hE6 hd2 HD HC HN
   go_wp2_with fail
   rw [HD2.out]
   refine bodyPost_ret (v := .tuple #[enV (k, p, s), .int .i64 q, .int .i64 0]) ?_ rfl ⟨rfl, But.below hg6 Hbut.out (Nat.le_refl _) (Nat.le_of_lt Hlt.out)⟩
   obtain ⟨s0, s1, s2, _⟩ := enres Hset.out
   simp [results, Tryz.results53, go_sem, s0, s1, s2, enV]
  | false =>
   have hn := HN.out
   simp only [Bool.false_eq_true, if_false, Prod.mk.injEq] at hn
   obtain ⟨rfl, rfl⟩ := hn
   have hd2 : unsN EB = (leastE, 0, 140) := by rw [HD.out]; rfl
   have HD2 := keep hd2
   clear hd2 HD HC HN
   have Hset := keep (enset hR6 (.string ⟨#[]⟩) (.int .i64 0) (.int .i64 0))
   have Hbut := keep (enbut w6 w_.heap.size (.string ⟨#[]⟩) (.int .i64 0) (.int .i64 0))
   have Hlt := keep hR6.lt
   clear hR6 hE6
   go_wp2_with fail
   rw [HD2.out]
   refine bodyPost_ret (v := .tuple #[enV leastE, .int .i64 0, .int .i64 140]) ?_ rfl ⟨rfl, But.below hg6 Hbut.out (Nat.le_refl _) (Nat.le_of_lt Hlt.out)⟩
   obtain ⟨s0, s1, s2, _⟩ := enres Hset.out
   simp [results, Tryz.results53, go_sem, s0, s1, s2, enV, leastE]
   rfl
 ·have qE : (EE != 0) = true := by simp [hEE]
  have hd2 : unsN l = (leastE, 0, 140) := by rw [HD.out, decide_eq_false hEE]; rfl
  have HD2 := keep hd2
  clear hd2 HD HC HN
  have Hset := keep (enset hR6 (.string ⟨#[]⟩) (.int .i64 0) (.int .i64 0))
  have Hbut := keep (enbut w6 w_.heap.size (.string ⟨#[]⟩) (.int .i64 0) (.int .i64 0))
  have Hlt := keep hR6.lt
  clear hR6 hE6
  go_wp2_with fail
  rw [HD2.out]
  refine bodyPost_ret (v := .tuple #[enV leastE, .int .i64 0, .int .i64 140]) ?_ rfl ⟨rfl, But.below hg6 Hbut.out (Nat.le_refl _) (Nat.le_of_lt Hlt.out)⟩
  obtain ⟨s0, s1, s2, _⟩ := enres Hset.out
  simp [results, Tryz.results53, go_sem, s0, s1, s2, enV, leastE]
  rfl
end Go.Proofs.YtaninphcgeaepaaGreat
