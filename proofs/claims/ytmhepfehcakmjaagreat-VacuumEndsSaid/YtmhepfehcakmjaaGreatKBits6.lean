import Derived.Test.YtmhepfehcakmjaaGreatProg
import Derived.Test.YtmhepfehcakmjaaGreatKInv1
import Derived.Deep.QuietTactic
import Derived.BigQuiet
namespace Go.Proofs.YtmhepfehcakmjaaGreat
open Go.RowKit
def Rd (w : World) (b : Nat) (s : ByteArray) (e : Int) : Prop := Blk w b 114 [.string s, .int .i64 e]
theorem Rd.c0 {w : World} {b : Nat} {s : ByteArray} {e : Int} (h : Rd w b s e) : w.cell? ⟨b, 0, none⟩ = some (.string s) := Blk.cell h 0 (by simp)
theorem Rd.c1 {w : World} {b : Nat} {s : ByteArray} {e : Int} (h : Rd w b s e) : w.cell? ⟨b, 1, none⟩ = some (.int .i64 e) := Blk.cell h 1 (by simp)
theorem Rd.f0 {w : World} {b : Nat} {s : ByteArray} {e : Int} (h : Rd w b s e) : w.frozen? ⟨b, 0, none⟩ = false := Blk.free h 0
theorem Rd.f1 {w : World} {b : Nat} {s : ByteArray} {e : Int} (h : Rd w b s e) : w.frozen? ⟨b, 1, none⟩ = false := Blk.free h 1
set_option maxHeartbeats 400000 in
theorem rdRead (s : ByteArray) (w : World) : Calls Tryz.prog 31 #[.string s] w fun e w' =>
  e = .returned (.pointer (some ⟨w.heap.size, 0, none⟩)) ∧ w' = w.alloc (.cells #[.string s, .int .i64 0] 114) := by
 go_enter Tryz.func31, Tryz.ntmps31
 go_wp2
 go_ret
 exact ⟨rfl, rfl⟩
set_option maxHeartbeats 400000 in
theorem rdErr (b : Nat) (s : ByteArray) (er : Int) (w : World) (h : Rd w b s er) : Calls Tryz.prog 59 #[.pointer (some ⟨b, 0, none⟩)] w fun e w' =>
  e = .returned (.int .i64 er) ∧ w = w' := by
 have h0 := h.c1
 go_enter Tryz.func59, Tryz.ntmps59
 go_wp2
 go_ret
 exact ⟨rfl, rfl⟩
set_option maxHeartbeats 400000 in
theorem rdLeft (b : Nat) (s : ByteArray) (er : Int) (w : World) (h : Rd w b s er) : Calls Tryz.prog 60 #[.pointer (some ⟨b, 0, none⟩)] w fun e w' =>
  e = .returned (.int .i64 s.size) ∧ w = w' := by
 have h0 := h.c0
 go_enter Tryz.func60, Tryz.ntmps60
 go_wp2
 go_ret
 exact ⟨rfl, rfl⟩
set_option maxHeartbeats 400000 in
theorem rdFail (b : Nat) (s : ByteArray) (er n : Int) (w : World) (h : Rd w b s er) : Calls Tryz.prog 58 #[.pointer (some ⟨b, 0, none⟩), .int .i64 n] w fun e w' =>
  e = .returned (.int .i64 0) ∧ Rd w' b (str []) n ∧ But b w w' := by
 have h0 := h.c0
 have h1 := h.c1
 have f0 := h.f0
 have f1 := h.f1
 have h2 : (w.setCell ⟨b, 0, none⟩ (.string (str []))).cell? ⟨b, 1, none⟩ = some (.int .i64 er) := by
  rw [World.cell?_setCell_other _ _ _ _ (by simp)]; exact h1
 go_enter Tryz.func58, Tryz.ntmps58
 go_wp2
 go_ret
 exact ⟨rfl, (Blk.set (Blk.set h 0 _) 1 _), ((But.refl _ _).setCell _ _).setCell _ _⟩
set_option maxHeartbeats 400000 in
theorem rdEnd (b : Nat) (s : ByteArray) (er : Int) (w : World) (h : Rd w b s er) : Calls Tryz.prog 34 #[.pointer (some ⟨b, 0, none⟩)] w fun e w' =>
  e = .returned (.int .i64 (if er = 0 ∧ 0 < s.size then 12 else er)) ∧ w = w' := by
 go_enter Tryz.func34, Tryz.ntmps34
 go_wp2_with (first | (go_at_call 59; refine (rdErr _ _ _ _ h).mono ?_; rintro e w' ⟨rfl, rfl⟩) | (go_at_call 60; refine (rdLeft _ _ _ _ h).mono ?_; rintro e w' ⟨rfl, rfl⟩))
 all_goals go_ret
 all_goals exact ⟨rfl, rfl⟩
theorem rdNum_bad (b : Nat) (s : ByteArray) (er most : Int) (w : World) (h : Rd w b s er) (he : er ≠ 0) : Calls Tryz.prog 57 #[.pointer (some ⟨b, 0, none⟩), .int .i64 most] w fun e w' =>
  e = .returned (.int .i64 0) ∧ w = w' := by
 have h0 := h.c0
 have h1 := h.c1
 have he' : (er != 0) = true := by simpa using he
 go_enter Tryz.func57, Tryz.ntmps57
 go_wp2_with fail
 go_ret
 exact ⟨rfl, rfl⟩
set_option maxRecDepth 100000 in
set_option maxHeartbeats 1000000 in
theorem rdNum_ok (b : Nat) (s : ByteArray) (most : Int) (w : World) (h : Rd w b s 0) (hs : s.size ≤ maxLen) (hm : ¬ most < 0) : Calls Tryz.prog 57 #[.pointer (some ⟨b, 0, none⟩), .int .i64 most] w fun e w' =>
  e = .returned (.int .i64 (rdNumS most s.data.toList).1) ∧ Rd w' b (str (rdNumS most s.data.toList).2.1) (rdNumS most s.data.toList).2.2 ∧ But b w w' := by
 unfold maxLen at hs
 have h0 := h.c0
 have h1 := h.c1
 have f0 := h.f0
 have f1 := h.f1
 go_enter Tryz.func57, Tryz.ntmps57
 go_wp2_with fail
 go_loop [17, 5] (fun t i => ∃ k n : Nat, k ≤ 9 ∧ k ≤ s.size ∧ n < 2 ^ (7 * k) ∧ t = .int .i64 k ∧ i = .int .i64 n ∧ numGo most (9 - k) k n (s.data.toList.drop k) = rdNumS most s.data.toList) (fun t _ => 9 - (intOf t).toNat)
 case atStart => exact ⟨0, 0, by omega, by omega, by simp, rfl, rfl, by simp [rdNumS]⟩
 case round =>
  obtain ⟨k, n, hk9, hks, hn, rfl, rfl, hrel⟩ := hrel
  by_cases h9 : k < 9
  ·by_cases hlt : k < s.size
   ·have hst := numGo_step most s n k h9 hlt hrel
    have hc : s[k].toNat < 256 := s[k].toNat_lt
    have hor := or_step n k s[k].toNat (by omega) hn hc
    have hor0 : bits BinOp.or IntKind.i64 (↑n) (wrap64 (wrap64 (bits BinOp.and IntKind.u8 0 127) * 2 ^ (7 * k))) = n := by
     have := or_step n k 0 (by omega) hn (by omega); simpa using this
    have Hn := Lib.hid (seven_next n k s[k].toNat hn)
    have Hst := Lib.hid hst
    have Ho := Lib.hid (extract_tail s (k + 1))
    clear hn hrel hst hc
    by_cases hz : s[k].toNat = 0
    ·by_cases hk0 : 0 < k
     ·clear hor hor0
      go_wp2_with (go_at_call 58; refine (rdFail _ _ _ _ _ h).mono ?_; rintro e w' ⟨rfl, hr, hb⟩)
      go_ret
      rw [Hst.out, if_pos ⟨hz, hk0⟩]
      exact ⟨rfl, hr, hb⟩
     ·clear hor
      have hm0 : most < ((n + s[k].toNat % 128 * 2 ^ (7 * k) : Nat) : Int) ↔ most < n := by rw [hz]; simp
      have he0 : ((n + s[k].toNat % 128 * 2 ^ (7 * k) : Nat) : Int) = n := by rw [hz]; simp
      have Hm := Lib.hid hm0
      have He := Lib.hid he0
      clear hm0 he0
      go_wp2_with (go_at_call 58; refine (rdFail _ _ _ _ _ h).mono ?_; rintro e w' ⟨rfl, hr, hb⟩)
      ·go_ret
       have h2 : most < n := by assumption
       rw [Hst.out, if_neg (by omega), if_neg (by omega), if_pos (Hm.out.2 h2)]
       exact ⟨rfl, hr, hb⟩
      ·go_ret
       have h2 : (n : Int) ≤ most := by assumption
       rw [Hst.out, if_neg (by omega), if_neg (by omega), if_neg (by rw [Hm.out]; omega), He.out, Ho.out]
       exact ⟨rfl, Blk.set h 0 _, (But.refl _ _).setCell _ _⟩
    ·clear hor0
     go_wp2_with (go_at_call 58; refine (rdFail _ _ _ _ _ h).mono ?_; rintro e w' ⟨rfl, hr, hb⟩)
     ·go_round
      case rel =>
       refine ⟨k + 1, n + s[k].toNat % 128 * 2 ^ (7 * k), by omega, by omega, Hn.out, by go_num, by congr 1, ?_⟩
       rw [Hst.out, if_neg (by omega), if_pos (by omega)]
      case measure => simp [intOf]; omega
     ·go_ret
      have h2 : most < ↑n + ↑s[k].toNat % 128 * 2 ^ (7 * k) := by assumption
      have h3 : ((s[k].toNat : Nat) : Int) < 128 := by assumption
      rw [Hst.out, if_neg (by omega), if_neg (by omega), if_pos (by push_cast; exact h2)]
      exact ⟨rfl, hr, hb⟩
     ·go_ret
      have h2 : ↑n + ↑s[k].toNat % 128 * 2 ^ (7 * k) ≤ most := by assumption
      have h3 : ((s[k].toNat : Nat) : Int) < 128 := by assumption
      rw [Hst.out, if_neg (by omega), if_neg (by omega), if_neg (by push_cast; exact Int.not_lt.2 h2), Ho.out]
      exact ⟨rfl, Blk.set h 0 _, (But.refl _ _).setCell _ _⟩
   ·have e : rdNumS most s.data.toList = (0, [], 10) := by
     rw [← hrel, List.drop_eq_nil_of_le (by simpa using hlt)]
     rw [show 9 - k = (8 - k) + 1 from by omega]
     rfl
    have E := Lib.hid e
    clear e hrel hn
    go_wp2_with (go_at_call 58; refine (rdFail _ _ _ _ _ h).mono ?_; rintro e w' ⟨rfl, hr, hb⟩)
    go_ret
    rw [E.out]
    exact ⟨rfl, hr, hb⟩
  ·have e : rdNumS most s.data.toList = (0, [], 11) := by
    rw [← hrel, show 9 - k = 0 from by omega]
    rfl
   have E := Lib.hid e
   clear e hrel hn
   go_wp2_with (go_at_call 58; refine (rdFail _ _ _ _ _ h).mono ?_; rintro e w' ⟨rfl, hr, hb⟩)
   go_ret
   rw [E.out]
   exact ⟨rfl, hr, hb⟩
theorem rdText_bad (b : Nat) (s : ByteArray) (er most : Int) (w : World) (h : Rd w b s er) (he : er ≠ 0) : Calls Tryz.prog 33 #[.pointer (some ⟨b, 0, none⟩), .int .i64 most] w fun e w' =>
  e = .returned (.string (str [])) ∧ w = w' := by
 have h0 := h.c0
 have h1 := h.c1
 have he' : (er != 0) = true := by simpa using he
 go_enter Tryz.func33, Tryz.ntmps33
 go_wp2_with (go_at_call 57; refine (rdNum_bad _ _ _ _ _ h he).mono ?_; rintro e w' ⟨rfl, rfl⟩)
 go_ret
 exact ⟨rfl, rfl⟩
set_option maxHeartbeats 1000000 in
theorem rdText_ok (b : Nat) (s : ByteArray) (most : Int) (w : World) (h : Rd w b s 0) (hs : s.size ≤ maxLen) (hm : ¬ most < 0) : Calls Tryz.prog 33 #[.pointer (some ⟨b, 0, none⟩), .int .i64 most] w fun e w' =>
  e = .returned (.string (str (rdTextS most s.data.toList).1)) ∧ Rd w' b (str (rdTextS most s.data.toList).2.1) (rdTextS most s.data.toList).2.2 ∧ But b w w' := by
 obtain ⟨n, rest, er, hE⟩ : ∃ n rest er, rdNumS most s.data.toList = (n, rest, er) := ⟨_, _, _, rfl⟩
 have hc := rdNum_ok b s most w h hs hm
 have hf := rdNumS_facts most s.data.toList
 unfold rdTextS
 rw [hE] at hc hf ⊢
 simp only at hc hf ⊢
 obtain ⟨n, rfl⟩ := Int.eq_ofNat_of_zero_le hf.1
 have hl : rest.length ≤ 9223372036854775807 := by
  have : s.data.toList.length = s.size := by simp
  unfold maxLen at hs; omega
 have HC := Lib.hid hc
 have Hrest := Lib.hid hf.2.2.2.1
 clear hc hf hE hs
 by_cases he : er = 0
 ·subst he
  by_cases hlt : (rest.length : Int) < n
  ·go_enter Tryz.func33, Tryz.ntmps33
   go_wp2_with (first | (go_at_call 57; refine HC.out.mono ?_; rintro e w' ⟨rfl, hr, hb⟩; have c0 := hr.c0; have c1 := hr.c1) | (go_at_call 58; refine (rdFail _ _ _ _ _ (by assumption)).mono ?_; rintro e w2 ⟨rfl, hr2, hb2⟩))
   go_ret
   exact ⟨rfl, hr2, hb.trans hb2⟩
  ·go_enter Tryz.func33, Tryz.ntmps33
   go_wp2_with (first | (go_at_call 57; refine HC.out.mono ?_; rintro e w' ⟨rfl, hr, hb⟩; have c0 := hr.c0; have c1 := hr.c1; have f0 := hr.f0) | (go_at_call 58; refine (rdFail _ _ _ _ _ (by assumption)).mono ?_; rintro e w2 ⟨rfl, hr2, hb2⟩))
   go_ret
   refine ⟨?_, ?_, hb.setCell _ _⟩
   ·show Ending.returned (.string ((str rest).extract 0 n)) = _
    rw [str_head]
   ·have := Blk.set hr 0 (.string ((str rest).extract n rest.length))
    show Rd (w'.setCell ⟨b, 0, none⟩ (.string ((str rest).extract n rest.length))) b _ _
    rw [str_tail] at this ⊢
    exact this
 ·have he' : (er != 0) = true := by simpa using he
  go_enter Tryz.func33, Tryz.ntmps33
  go_wp2_with (first | (go_at_call 57; refine HC.out.mono ?_; rintro e w' ⟨rfl, hr, hb⟩; have c0 := hr.c0; have c1 := hr.c1) | (go_at_call 58; refine (rdFail _ _ _ _ _ (by assumption)).mono ?_; rintro e w2 ⟨rfl, hr2, hb2⟩))
  go_ret
  have h4 := (Hrest.out he).1
  subst h4
  exact ⟨rfl, hr, hb⟩
end Go.Proofs.YtmhepfehcakmjaaGreat
namespace Go.Proofs.YtmhepfehcakmjaaGreat
open Go.RowKit
def rdText2 (most : Int) (x : List UInt8 × List UInt8 × Int) : List UInt8 × List UInt8 × Int :=
 if x.2.2 = 0 then rdTextS most x.2.1 else ([], x.2.1, x.2.2)
def rdNum2 (most : Int) (x : List UInt8 × Int) : Int × List UInt8 × Int :=
 if x.2 = 0 then rdNumS most x.1 else (0, x.1, x.2)
theorem rdText_any (b : Nat) (most : Int) (x : List UInt8 × List UInt8 × Int) (w : World) (h : Rd w b (str x.2.1) x.2.2) (hs : (x.2.1.length : Int) ≤ 9223372036854775807) (hm : ¬ most < 0) :
  Calls Tryz.prog 33 #[.pointer (some ⟨b, 0, none⟩), .int .i64 most] w fun e w' =>
  e = .returned (.string (str (rdText2 most x).1)) ∧ Rd w' b (str (rdText2 most x).2.1) (rdText2 most x).2.2 ∧ But b w w' := by
 obtain ⟨k, l, e⟩ := x
 simp only at h hs
 unfold rdText2
 by_cases he : e = 0
 ·subst he
  rw [if_pos rfl]
  exact rdText_ok b (str l) most w h (by unfold maxLen; simp; omega) hm
 ·rw [if_neg he]
  refine (rdText_bad b (str l) e most w h he).mono ?_
  rintro x w' ⟨rfl, rfl⟩
  exact ⟨rfl, h, But.refl _ _⟩
theorem rdNum_any (b : Nat) (most : Int) (x : List UInt8 × Int) (w : World) (h : Rd w b (str x.1) x.2) (hs : (x.1.length : Int) ≤ 9223372036854775807) (hm : ¬ most < 0) :
  Calls Tryz.prog 57 #[.pointer (some ⟨b, 0, none⟩), .int .i64 most] w fun e w' =>
  e = .returned (.int .i64 (rdNum2 most x).1) ∧ Rd w' b (str (rdNum2 most x).2.1) (rdNum2 most x).2.2 ∧ But b w w' := by
 obtain ⟨l, e⟩ := x
 simp only at h hs
 unfold rdNum2
 by_cases he : e = 0
 ·subst he
  rw [if_pos rfl]
  exact rdNum_ok b (str l) most w h (by unfold maxLen; simp; omega) hm
 ·rw [if_neg he]
  refine (rdNum_bad b (str l) e most w h he).mono ?_
  rintro x w' ⟨rfl, rfl⟩
  exact ⟨rfl, h, But.refl _ _⟩
end Go.Proofs.YtmhepfehcakmjaaGreat
