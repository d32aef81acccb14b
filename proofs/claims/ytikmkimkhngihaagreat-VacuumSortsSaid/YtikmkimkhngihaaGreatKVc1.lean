
import Derived.Test.YtikmkimkhngihaaGreatKVq1
import Derived.Test.YtikmkimkhngihaaGreatKSort1
import Derived.Test.YtikmkimkhngihaaGreatKTup3
/- The document's numbers laid by sevens. -/
namespace Go.Proofs.YtikmkimkhngihaaGreat
open Go.RowKit

theorem ints_at {w : World} {v : Value} {l : List Int} (h : Row w 3 v l.length (iCells l)) {k : Nat} (hk : k < l.length) : ∃ c off cap, v = .slice (some ⟨c, off, none⟩) l.length cap ∧ ∀ u, Grow w u → u.cell? ⟨c, off + k, none⟩ = some (.int .i64 l[k]) := by
  rcases h with ⟨h1, _⟩ | ⟨c, off, cap, h1, h2⟩
  · omega
  · refine ⟨c, off, cap, h1, fun u hu => ?_⟩
    have h3 := h2 k (by simpa [iCells] using hk)
    have h4 : (iCells l)[k]'(by simpa [iCells] using hk) = .int .i64 l[k] := by simp [iCells]
    rw [h4] at h3
    exact (Below.cell hu (World.block_lt_of_cell? w _ h3)).trans h3
theorem row_slice {w : World} {t n : Nat} {v : Value} {cs : List Value} (h : Row w t v n cs) : ∃ a cap, v = .slice a n cap := by
  rcases h with ⟨h1, _, a, cap, h2⟩ | ⟨c, off, cap, h1, _⟩
  · exact ⟨a, cap, by rw [h2, h1]⟩
  · exact ⟨_, _, h1⟩
theorem own_push {w : World} {B : Nat} {v x : Value} {l : List UInt8} {c : UInt8} (h : w.ownsRow B 5 1 v (l.length + 1) (bcells l ++ [x])) (hx : x = .int .u8 c.toNat) : w.ownsRow B 5 1 v (l ++ [c]).length (bcells (l ++ [c])) := by
  subst hx
  rw [bcells_append, List.length_append]
  exact h
theorem own_grown {w wr w1 : World} {B e s n : Nat} {v : Value} {xs : List Value} {o : Obj} (hB : B ≤ wr.heap.size) (hg : Below B w wr) (ho : wr.ownsRow B e s v n xs) (h : (wr.alloc o).grownBy w1 v.ownBlock) : Below B w w1 := by
  refine (hg.alloc hB o).grown h (by simp; omega) fun k e => ?_
  have := ho.lt k e
  omega

set_option maxRecDepth 100000 in
set_option maxHeartbeats 4000000 in
theorem rnum_any (ns : List Int) (v : Value) (w_ : World) (h : Row w_ 3 v ns.length (iCells ns)) (hb : ∀ n ∈ ns, 0 ≤ n ∧ n ≤ 9223372036854775807) (hl : ns.length ≤ 1000) :
    Calls Tryz.prog 95 #[v] w_ fun x w' => x = .returned (.string (str (sevs ns))) ∧ Below w_.heap.size w_ w' := by
  obtain ⟨i0, hi, hz0, hz1, hz2⟩ := info_parts infoU8
  obtain ⟨a0_, c0_, rfl⟩ := row_slice h
  have HR := keep h
  have HB := keep hb
  clear h hb
  go_enter Tryz.func95, Tryz.ntmps95
  go_wp2_with fail
  go_loopw [3, 4] (fun x i wr => ∃ (k : Nat) (L : List UInt8) (a : Option Addr) (cap : Nat), k ≤ ns.length ∧ Kept (L = sevs (ns.take k)) ∧ x = .slice a L.length cap ∧ i = .int .i64 k ∧ Kept (wr.ownsRow w_.heap.size 5 1 (.slice a L.length cap) L.length (bcells L)) ∧ Kept (Below w_.heap.size w_ wr)) (fun _ i _ => ns.length - (intOf i).toNat)
  case atStart => exact ⟨0, [], none, 0, Nat.zero_le _, keep (by simp [sevs]), rfl, rfl, keep (World.ownsRow_nil _ _ _ _), keep (Grow.refl _)⟩
  case round =>
    obtain ⟨k, L, a, cap, hk, HL, rfl, rfl, HO, HG⟩ := hrel
    have hLl : L.length ≤ 10000 := by
      have h1 := sevs_length (ns.take k)
      rw [← HL.out, List.length_take] at h1
      omega
    by_cases hlt : k < ns.length
    · obtain ⟨c1, off1, cap1, e1, hc⟩ := ints_at HR.out hlt
      simp only [Value.slice.injEq] at e1
      obtain ⟨rfl, x1, x2⟩ := e1
      have hcell := hc wr HG.out
      obtain ⟨hN0, hN1⟩ := HB.out _ (List.getElem_mem hlt)
      have hst : sevs (ns.take k) ++ sev (ns[k]).toNat = sevs (ns.take (k + 1)) := by
        rw [List.take_succ_eq_append_getElem hlt, sevs, sevs, List.flatMap_append]
        simp
      rw [← HL.out] at hst
      obtain ⟨N, hN⟩ := Int.eq_ofNat_of_zero_le hN0
      rw [hN] at hcell hst hN1
      rw [Int.toNat_natCast] at hst
      have HSt := keep hst
      have hlen1 := sev_length N
      have HN1 := keep hN1
      clear hst hN hN0 hN1 hc x1 x2 HL
      have hmax : max (N : Int) 0 = N := by omega
      go_wp2_with fail
      obtain ⟨wo, rfl⟩ : ∃ wo : World, wo = wr := ⟨_, rfl⟩
      go_loopw [3, 5] (fun x y wi => ∃ (m : Nat) (d : List UInt8) (a : Option Addr) (cap : Nat), x = .slice a (L ++ d).length cap ∧ y = .int .i64 m ∧ (m : Int) ≤ 9223372036854775807 ∧ Kept (wi.ownsRow w_.heap.size 5 1 (.slice a (L ++ d).length cap) (L ++ d).length (bcells (L ++ d))) ∧ Kept (d ++ sev m = sev N) ∧ Kept (Below w_.heap.size w_ wi)) (fun _ y _ => (intOf y).toNat)
      case atStart => exact ⟨N, [], a, cap, by simp, rfl, by have := HN1.out; omega, by simpa using HO, keep (by simp), HG⟩
      case round =>
        obtain ⟨m, d, a1, cap1, rfl, rfl, hm, HO1, HD, HG1⟩ := hrel
        have hdl : d.length ≤ 10 := by
          have := congrArg List.length HD.out
          simp at *
          omega
        have hLd : ((L ++ d).length : Int) ≤ 70368744177664 := by simp; omega
        have ho := HO1.out
        have hsz := HG1.out.size
        generalize hLD : L ++ d = M at *
        have HLD := keep hLD
        clear hLD
        by_cases hbig : 128 ≤ m
        · go_wp2_with ((at_builtin; go_must (refine wpList_append_own _ rfl _ _ 84 rfl w_.heap.size 5 i0 (.int .u8 0) 1 1 Tryz.underlying84 hi hz0 hz1 hz2 rfl (by decide) _ _ _ rfl (ho.alloc _) ⟨wr.heap.size, 0, none⟩ 1 1 [.int .u8 ((m : Int) % 128 + 128)] rfl rfl (cell_one_new _ _ _) (ints_oneCell .u8 [((m : Int) % 128 + 128)]) (by unfold maxLen; omega) (by omega) (by simp; omega) ?_); intro v' w1 hown' hgrow _; obtain ⟨a', cap', rfl⟩ := own_form hown'))
          have hG2 := own_grown hsz HG1.out ho hgrow
          have hO2 := own_push hown' (sev_cell m)
          have HO2 := keep hO2
          have HG2 := keep hG2
          clear hO2 hG2 hown' hgrow
          go_roundw
          case rel => exact ⟨m / 128, d ++ [UInt8.ofNat (m % 128 + 128)], a', cap', by rw [← List.append_assoc, HLD.out, List.length_append]; rfl, by go_num, by omega, by rw [← List.append_assoc, HLD.out]; simpa using HO2, keep (by rw [List.append_assoc, List.singleton_append, ← sev_big m (by omega) (by omega)]; exact HD.out), HG2⟩
          case measure => simp [intOf]; omega
        · go_wp2_with ((at_builtin; go_must (refine wpList_append_own _ rfl _ _ 84 rfl w_.heap.size 5 i0 (.int .u8 0) 1 1 Tryz.underlying84 hi hz0 hz1 hz2 rfl (by decide) _ _ _ rfl (ho.alloc _) ⟨wr.heap.size, 0, none⟩ 1 1 [.int .u8 (m : Int)] rfl rfl (cell_one_new _ _ _) (ints_oneCell .u8 [(m : Int)]) (by unfold maxLen; omega) (by omega) (by simp; omega) ?_); intro v' w1 hown' hgrow _; obtain ⟨a', cap', rfl⟩ := own_form hown'))
          have hG2 := own_grown hsz HG1.out ho hgrow
          have hO2 := own_push hown' (sev_cell' m (by omega))
          have HO2 := keep hO2
          have HG2 := keep hG2
          clear hO2 hG2 hown' hgrow
          go_roundw
          case rel =>
            have e : sevs (ns.take (k + 1)) = M ++ [UInt8.ofNat m] := by
              rw [← HSt.out, ← HD.out, sev_small m (by omega), ← HLD.out, List.append_assoc]
            exact ⟨k + 1, M ++ [UInt8.ofNat m], a', cap', by omega, keep e.symm, by rw [List.length_append]; rfl, by go_num, by simpa using HO2, HG2⟩
          case measure => simp [intOf]; omega
    · have e : k = ns.length := by omega
      subst e
      have hcv := own_convert HO.out rfl
      go_wp2_with fail
      go_ret
      have e := HL.out
      rw [List.take_length] at e
      subst e
      exact ⟨rfl, HG.out⟩

end Go.Proofs.YtikmkimkhngihaaGreat

/- The document's numbers of two bytes, as bytes and back; whether a key may stand in a version. -/
namespace Go.Proofs.YtikmkimkhngihaaGreat
open Go.RowKit

theorem rright_any (s : ByteArray) (w : World) : Calls Tryz.prog 73 #[.string s] w fun e w' => e = .returned (.bool (fitsB s)) ∧ w = w' := by
  go_enter Tryz.func73, Tryz.ntmps73
  by_cases h1 : 1 ≤ s.size
  · by_cases h2 : s.size ≤ 24
    · go_wp2_with fail
      go_ret
      exact ⟨by simp [fitsB, h2]; omega, rfl⟩
    · go_wp2_with fail
      go_ret
      exact ⟨by simp [fitsB, h2]; omega, rfl⟩
  · go_wp2_with fail
    go_ret
    exact ⟨by simp [fitsB]; omega, rfl⟩

theorem ofS_two' (a b : UInt8) : ofS [a, b] = a.toNat * 256 + b.toNat := by
  have := a.toNat_lt; have := b.toNat_lt
  simp only [ofS, ofGo]; omega

set_option maxRecDepth 100000 in
set_option maxHeartbeats 1000000 in
theorem rof_two (a b : UInt8) (w_ : World) : Calls Tryz.prog 56 #[.string (str [a, b])] w_ fun e w' => e = .returned (.int .i64 (ofS [a, b])) ∧ Below w_.heap.size w_ w' := by
  have ha := a.toNat_lt
  have hb := b.toNat_lt
  have hO := ofS_two' a b
  obtain ⟨A, hA⟩ : ∃ A : Nat, A = a.toNat := ⟨_, rfl⟩
  obtain ⟨B, hB⟩ : ∃ B : Nat, B = b.toNat := ⟨_, rfl⟩
  have i0 : ∀ h : 0 < (str [a, b]).size, ((str [a, b])[0]'h).toNat = A := fun _ => hA.symm
  have i1 : ∀ h : 1 < (str [a, b]).size, ((str [a, b])[1]'h).toNat = B := fun _ => hB.symm
  rw [← hA, ← hB] at hO
  rw [← hA] at ha
  rw [← hB] at hb
  have hz : (str [a, b]).size = 2 := rfl
  have HO := keep hO
  clear hO hA hB
  generalize str [a, b] = s at *
  go_enter Tryz.func56, Tryz.ntmps56
  go_wp2_with fail
  go_loopw [3, 4] (fun n i wr => ((n = .int .i64 0 ∧ i = .int .i64 0) ∨ (n = .int .i64 (A : Int) ∧ i = .int .i64 1) ∨ (n = .int .i64 ((A * 256 + B : Nat) : Int) ∧ i = .int .i64 2)) ∧ Kept (Below w_.heap.size w_ wr)) (fun _ i _ => 2 - (intOf i).toNat)
  case atStart => exact ⟨.inl ⟨rfl, rfl⟩, keep (Grow.refl _)⟩
  case round =>
    obtain ⟨h | h | h, HG⟩ := hrel
    · obtain ⟨rfl, rfl⟩ := h
      have h0 : 0 < s.size := by omega
      have i0' := i0 h0
      go_wp2_with fail
      go_roundw
      case rel => exact ⟨.inr (.inl ⟨by go_num, rfl⟩), HG⟩
      case measure => simp [intOf]
    · obtain ⟨rfl, rfl⟩ := h
      have h0 : 1 < s.size := by omega
      have i0' := i1 h0
      go_wp2_with fail
      go_roundw
      case rel => exact ⟨.inr (.inr ⟨by go_num, rfl⟩), HG⟩
      case measure => simp [intOf]
    · obtain ⟨rfl, rfl⟩ := h
      go_wp2_with fail
      go_ret
      rw [HO.out]
      exact ⟨rfl, HG.out⟩

set_option maxRecDepth 100000 in
set_option maxHeartbeats 1000000 in
theorem rbig_two (N : Nat) (w : World) (hN : N < 65536) : Calls Tryz.prog 76 #[.int .i64 (N : Int), .int .i64 2] w fun e w' =>
    e = .returned (.string (str (bigS N 2))) ∧ Below w.heap.size w w' := by
  obtain ⟨i0, hi, hz0, hz1, hz2⟩ := info_parts infoU8
  have hd : bigS N 2 = [UInt8.ofNat (N / 256 % 256), UInt8.ofNat (N % 256)] := by
    have e : bigS N 2 = [UInt8.ofNat (N / 2 ^ 8 % 256), UInt8.ofNat (N / 2 ^ 0 % 256)] := rfl
    rw [e]; simp
  have c1 : Value.int .u8 ((N : Int) % 256) = .int .u8 (UInt8.ofNat (N % 256)).toNat := by simp
  have c2 : Value.int .u8 ((N : Int) / 256 % 256) = .int .u8 (UInt8.ofNat (N / 256 % 256)).toNat := by simp
  have HD := keep hd
  have HC1 := keep c1
  have HC2 := keep c2
  clear hd c1 c2
  go_enter Tryz.func76, Tryz.ntmps76
  go_wp2_with ((at_make; go_must (refine wpList_make_full _ rfl _ _ 84 rfl w.heap.size 5 i0 (.int .u8 0) 1 Tryz.underlying84 hi hz0 hz1 .i64 .i64 _ _ 2 rfl rfl rfl rfl (by rw [hz2]; omega) (by unfold maxLen; omega) (Nat.le_refl _) ?_); intro w1 hown hgrow))
  obtain ⟨wo, rfl⟩ : ∃ wo : World, wo = w := ⟨_, rfl⟩
  go_loopw [0, 6] (fun n i wr => ∃ l : List UInt8, wr.ownsRow wo.heap.size 5 1 (.slice (some ⟨wo.heap.size, 0, none⟩) 2 2) 2 (bcells l) ∧ Below wo.heap.size wo wr ∧ ((n = .int .i64 (N : Int) ∧ i = .int .i64 1 ∧ l = [0, 0]) ∨ (n = .int .i64 ((N / 256 : Nat) : Int) ∧ i = .int .i64 0 ∧ l = [0, UInt8.ofNat (N % 256)]) ∨ (n = .int .i64 ((N / 256 / 256 : Nat) : Int) ∧ i = .int .i64 (-1) ∧ l = [UInt8.ofNat (N / 256 % 256), UInt8.ofNat (N % 256)]))) (fun _ i _ => (intOf i + 1).toNat)
  case atStart =>
    refine ⟨[0, 0], ?_, (Below.refl _ _).grown hgrow (Nat.le_refl _) (by simp), .inl ⟨rfl, rfl, rfl⟩⟩
    have hz : (madeCells (Value.int IntKind.u8 0).cells (2 * 1)).toList = List.replicate 2 (.int .u8 0) := by rw [Nat.mul_one]; exact toList_madeCells_one _ _
    rw [hz] at hown
    simpa [bcells] using hown
  case round =>
    obtain ⟨l, hown, hbl, h | h | h⟩ := hrel
    · obtain ⟨rfl, rfl, rfl⟩ := h
      have hc : wr.cell? ⟨wo.heap.size, 1, none⟩ = some (.int .u8 0) := by
        rw [hown.cellAt 1 (by omega)]; rfl
      have hf := hown.frozenAt 1
      have hst := hown.stored 1 (.int .u8 ((N : Int) % 256))
      have e : (bcells [0, 0]).set 1 (.int .u8 ((N : Int) % 256)) = bcells [0, UInt8.ofNat (N % 256)] := by rw [HC1.out]; rfl
      rw [e] at hst
      have Hst := keep hst
      clear hst hown e
      go_wp2_with fail
      go_roundw
      case rel => exact ⟨_, Hst.out.1, hbl.setCell (Nat.le_refl _) _, .inr (.inl ⟨by go_num, rfl, rfl⟩)⟩
      case measure => simp [intOf]
    · obtain ⟨rfl, rfl, rfl⟩ := h
      have hc : wr.cell? ⟨wo.heap.size, 0, none⟩ = some (.int .u8 0) := by
        rw [hown.cellAt 0 (by omega)]; rfl
      have hf := hown.frozenAt 0
      have hst := hown.stored 0 (.int .u8 ((N : Int) / 256 % 256))
      have e : (bcells [0, UInt8.ofNat (N % 256)]).set 0 (.int .u8 ((N : Int) / 256 % 256)) = bcells [UInt8.ofNat (N / 256 % 256), UInt8.ofNat (N % 256)] := by rw [HC2.out]; rfl
      rw [e] at hst
      have Hst := keep hst
      clear hst hown e
      go_wp2_with fail
      go_roundw
      case rel => exact ⟨_, Hst.out.1, hbl.setCell (Nat.le_refl _) _, .inr (.inr ⟨by go_num, rfl, rfl⟩)⟩
      case measure => simp [intOf]
    · obtain ⟨rfl, rfl, rfl⟩ := h
      have hcv := own_convert hown rfl
      go_wp2_with fail
      go_ret
      rw [HD.out]
      exact ⟨rfl, hbl⟩

end Go.Proofs.YtikmkimkhngihaaGreat
