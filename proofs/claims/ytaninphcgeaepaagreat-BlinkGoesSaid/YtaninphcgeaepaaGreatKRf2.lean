import Derived.Test.YtaninphcgeaepaaGreatKNd1
/- The document's answers: an entry, a child, a reader's small functions. -/
namespace Go.Proofs.YtaninphcgeaepaaGreat
open Go.RowKit

theorem rsmall_any (n : Int) (w : World) : Calls Tryz.prog 82 #[.int .i64 n] w fun e w' => e = .returned (.bool (inB n 0 65535)) ∧ w = w' := by
  go_enter Tryz.func82, Tryz.ntmps82
  by_cases h1 : 0 ≤ n
  · by_cases h2 : n ≤ 65535
    · go_wp2_with fail
      go_ret
      exact ⟨by simp [inB, h1, h2], rfl⟩
    · go_wp2_with fail
      go_ret
      exact ⟨by simp [inB, h1, h2], rfl⟩
  · go_wp2_with fail
    go_ret
    exact ⟨by have : inB n 0 65535 = false := by (simp [inB]; omega)
              rw [this]; rfl, rfl⟩

theorem rchild_any (n : Int) (w : World) : Calls Tryz.prog 66 #[.int .i64 n] w fun e w' => e = .returned (.bool (inB n 1 65535)) ∧ w = w' := by
  go_enter Tryz.func66, Tryz.ntmps66
  by_cases h1 : 1 ≤ n
  · by_cases h2 : n ≤ 65535
    · go_wp2_with fail
      go_ret
      exact ⟨by simp [inB, h1, h2], rfl⟩
    · go_wp2_with fail
      go_ret
      exact ⟨by simp [inB, h1, h2], rfl⟩
  · go_wp2_with fail
    go_ret
    exact ⟨by have : inB n 1 65535 = false := by (simp [inB]; omega)
              rw [this]; rfl, rfl⟩

theorem rentry_any (e : En) (w : World) : Calls Tryz.prog 69 #[enV e] w fun x w' => x = .returned (.bool (enOk e)) ∧ Below w.heap.size w w' := by
  obtain ⟨k, p, s⟩ := e
  obtain ⟨w0, hw0⟩ : ∃ w0, w0 = w.alloc (.cells #[.string (str k), .int .i64 p, .int .i64 s] 41) := ⟨_, rfl⟩
  have hg0 : Grow w w0 := by subst hw0; exact (Grow.refl w).alloc _
  have hB0 : Blk w0 w.heap.size 41 [.string (str k), .int .i64 p, .int .i64 s] := by subst hw0; exact Blk.new w _ [_, _, _]
  obtain ⟨c0, c1, c2, _⟩ := enres hB0
  have hd : enOk (k, p, s) = (inB k.length 1 24 && (inB p 0 65535 && inB s 0 65535)) := rfl
  have h2 := fun u => rsmall_any p u
  have h3 := fun u => rsmall_any s u
  generalize inB p 0 65535 = B at *
  generalize inB s 0 65535 = C at *
  have HD := keep hd
  have H2 := keep h2
  have H3 := keep h3
  clear hd h2 h3
  unfold enV
  go_enter Tryz.func69, Tryz.ntmps69
  go_upto_region 1 with fail
  rw [← hw0]
  clear hw0
  by_cases h1 : 1 ≤ k.length
  · have h1' : (1 : Int) ≤ (k.length : Int) := by omega
    by_cases h4 : k.length ≤ 24
    · have h4' : (k.length : Int) ≤ 24 := by omega
      have hA : inB k.length 1 24 = true := by simp [inB, h1', h4']
      have HA := keep hA
      clear hA
      go_wp2_with fail
      refine (H2.out w0).mono ?_
      rintro x w1 ⟨rfl, rfl⟩
      cases B with
      | false =>
        go_wp2_with fail
        go_ret
        rw [HD.out, HA.out]
        exact ⟨rfl, hg0⟩
      | true =>
        go_wp2_with fail
        refine (H3.out w0).mono ?_
        rintro x w1 ⟨rfl, rfl⟩
        go_wp2_with fail
        go_ret
        rw [HD.out, HA.out]
        exact ⟨by cases C <;> rfl, hg0⟩
    · have h4' : ¬ (k.length : Int) ≤ 24 := by omega
      have hA : inB k.length 1 24 = false := by simp [inB, h4']
      have HA := keep hA
      clear hA
      go_wp2_with fail
      go_ret
      rw [HD.out, HA.out]
      exact ⟨rfl, hg0⟩
  · have h1' : ¬ (1 : Int) ≤ (k.length : Int) := by omega
    have hA : inB k.length 1 24 = false := by simp [inB, h1']
    have HA := keep hA
    clear hA
    go_wp2_with fail
    go_ret
    rw [HD.out, HA.out]
    exact ⟨rfl, hg0⟩

/-- A reader of the document: its bytes, its place, what is wrong. -/
def Rf (w : World) (b : Nat) (l : List UInt8) (at_ e : Int) : Prop := Blk w b 115 [.string (str l), .int .i64 at_, .int .i64 e]
theorem rwrong_any (b : Nat) (l : List UInt8) (a er n : Int) (w : World) (h : Rf w b l a er) : Calls Tryz.prog 97 #[.pointer (some ⟨b, 0, none⟩), .int .i64 n] w fun e w' =>
    e = .returned (.int .i64 0) ∧ Rf w' b l a n ∧ But b w w' := by
  obtain ⟨c0, c1, c2, f0, f1, f2⟩ := enres h
  go_enter Tryz.func97, Tryz.ntmps97
  go_wp2_with fail
  go_ret
  exact ⟨rfl, h.set 2 (.int .i64 n), (But.refl b w).setCell 2 _⟩
def rendE (l : List UInt8) (a e : Int) : Int := if e = 0 ∧ a < l.length then 12 else e
theorem rend_any (b : Nat) (l : List UInt8) (a er : Int) (w : World) (h : Rf w b l a er) : Calls Tryz.prog 77 #[.pointer (some ⟨b, 0, none⟩)] w fun e w' =>
    e = .returned (.int .i64 (rendE l a er)) ∧ Grow w w' := by
  obtain ⟨c0, c1, c2, f0, f1, f2⟩ := enres h
  go_enter Tryz.func77, Tryz.ntmps77
  by_cases h0 : er = 0
  · by_cases h1 : a < l.length
    · go_upto_region 1 with fail
      go_quiet (fail)
      go_wp2_with fail
      go_ret
      exact ⟨by simp [rendE, h0, h1], below_drewN (Grow.refl _) _⟩
    · go_upto_region 1 with fail
      go_quiet (fail)
      go_wp2_with fail
      go_ret
      exact ⟨by simp [rendE, h0, h1], below_drewN (Grow.refl _) _⟩
  · go_upto_region 1 with fail
    go_quiet (fail)
    go_wp2_with fail
    go_ret
    exact ⟨by simp [rendE, h0], below_drewN (Grow.refl _) _⟩

end Go.Proofs.YtaninphcgeaepaaGreat

/- The document's answers: numbers by sevens, a text, an entry's bytes. -/
namespace Go.Proofs.YtaninphcgeaepaaGreat
open Go.RowKit

theorem ints_at {w : World} {v : Value} {l : List Int} (h : Row w 3 v l.length (iCells l)) {k : Nat} (hk : k < l.length) : ∃ c off cap, v = .slice (some ⟨c, off, none⟩) l.length cap ∧ ∀ u, Grow w u → u.cell? ⟨c, off + k, none⟩ = some (.int .i64 l[k]) := by
  rcases h with ⟨h1, _⟩ | ⟨c, off, cap, h1, h2⟩
  · omega
  · refine ⟨c, off, cap, h1, fun u hu => ?_⟩
    have h3 := h2 k (by simpa [iCells] using hk)
    have h4 : (iCells l)[k]'(by simpa [iCells] using hk) = .int .i64 l[k] := by simp [iCells]
    rw [h4] at h3
    exact (Below.cell hu (World.block_lt_of_cell? w _ h3)).trans h3
theorem row_slice {w : World} {t n : Nat} {v : Value} {cs : List Value} (h : Row w t v n cs) : ∃ a cap, v = .slice a n cap := by
  rcases h with ⟨h1, _, a, cap, h2⟩ | ⟨c, off, cap, h1, _⟩
  · exact ⟨a, cap, by rw [h2, h1]⟩
  · exact ⟨_, _, h1⟩
theorem own_push {w : World} {B : Nat} {v x : Value} {l : List UInt8} {c : UInt8} (h : w.ownsRow B 5 1 v (l.length + 1) (bcells l ++ [x])) (hx : x = .int .u8 c.toNat) : w.ownsRow B 5 1 v (l ++ [c]).length (bcells (l ++ [c])) := by
  subst hx
  rw [bcells_append, List.length_append]
  exact h
theorem own_grown {w wr w1 : World} {B e s n : Nat} {v : Value} {xs : List Value} {o : Obj} (hB : B ≤ wr.heap.size) (hg : Below B w wr) (ho : wr.ownsRow B e s v n xs) (h : (wr.alloc o).grownBy w1 v.ownBlock) : Below B w w1 := by
  refine (hg.alloc hB o).grown h (by simp; omega) fun k e => ?_
  have := ho.lt k e
  omega

set_option maxRecDepth 100000 in
set_option maxHeartbeats 4000000 in
theorem rnum_any (ns : List Int) (v : Value) (w_ : World) (h : Row w_ 3 v ns.length (iCells ns)) (hb : ∀ n ∈ ns, 0 ≤ n ∧ n ≤ 9223372036854775807) (hl : ns.length ≤ 1000) :
    Calls Tryz.prog 93 #[v] w_ fun x w' => x = .returned (.string (str (sevs ns))) ∧ Below w_.heap.size w_ w' := by
  obtain ⟨i0, hi, hz0, hz1, hz2⟩ := info_parts infoU8
  obtain ⟨a0_, c0_, rfl⟩ := row_slice h
  have HR := keep h
  have HB := keep hb
  clear h hb
  go_enter Tryz.func93, Tryz.ntmps93
  go_wp2_with fail
  go_loopw [3, 4] (fun x i wr => ∃ (k : Nat) (L : List UInt8) (a : Option Addr) (cap : Nat), k ≤ ns.length ∧ Kept (L = sevs (ns.take k)) ∧ x = .slice a L.length cap ∧ i = .int .i64 k ∧ Kept (wr.ownsRow w_.heap.size 5 1 (.slice a L.length cap) L.length (bcells L)) ∧ Kept (Below w_.heap.size w_ wr)) (fun _ i _ => ns.length - (intOf i).toNat)
  case atStart => exact ⟨0, [], none, 0, Nat.zero_le _, keep (by simp [sevs]), rfl, rfl, keep (World.ownsRow_nil _ _ _ _), keep (Grow.refl _)⟩
  case round =>
    obtain ⟨k, L, a, cap, hk, HL, rfl, rfl, HO, HG⟩ := hrel
    have hLl : L.length ≤ 10000 := by
      have h1 := sevs_length (ns.take k)
      rw [← HL.out, List.length_take] at h1
      omega
    by_cases hlt : k < ns.length
    · obtain ⟨c1, off1, cap1, e1, hc⟩ := ints_at HR.out hlt
      simp only [Value.slice.injEq] at e1
      obtain ⟨rfl, x1, x2⟩ := e1
      have hcell := hc wr HG.out
      obtain ⟨hN0, hN1⟩ := HB.out _ (List.getElem_mem hlt)
      have hst : sevs (ns.take k) ++ sev (ns[k]).toNat = sevs (ns.take (k + 1)) := by
        rw [List.take_succ_eq_append_getElem hlt, sevs, sevs, List.flatMap_append]
        simp
      rw [← HL.out] at hst
      obtain ⟨N, hN⟩ := Int.eq_ofNat_of_zero_le hN0
      rw [hN] at hcell hst hN1
      rw [Int.toNat_natCast] at hst
      have HSt := keep hst
      have hlen1 := sev_length N
      have HN1 := keep hN1
      clear hst hN hN0 hN1 hc x1 x2 HL
      have hmax : max (N : Int) 0 = N := by omega
      go_wp2_with fail
      obtain ⟨wo, rfl⟩ : ∃ wo : World, wo = wr := ⟨_, rfl⟩
      go_loopw [3, 5] (fun x y wi => ∃ (m : Nat) (d : List UInt8) (a : Option Addr) (cap : Nat), x = .slice a (L ++ d).length cap ∧ y = .int .i64 m ∧ (m : Int) ≤ 9223372036854775807 ∧ Kept (wi.ownsRow w_.heap.size 5 1 (.slice a (L ++ d).length cap) (L ++ d).length (bcells (L ++ d))) ∧ Kept (d ++ sev m = sev N) ∧ Kept (Below w_.heap.size w_ wi)) (fun _ y _ => (intOf y).toNat)
      case atStart => exact ⟨N, [], a, cap, by simp, rfl, by have := HN1.out; omega, by simpa using HO, keep (by simp), HG⟩
      case round =>
        obtain ⟨m, d, a1, cap1, rfl, rfl, hm, HO1, HD, HG1⟩ := hrel
        have hdl : d.length ≤ 10 := by
          have := congrArg List.length HD.out
          simp at *
          omega
        have hLd : ((L ++ d).length : Int) ≤ 70368744177664 := by simp; omega
        have ho := HO1.out
        have hsz := HG1.out.size
        generalize hLD : L ++ d = M at *
        have HLD := keep hLD
        clear hLD
        by_cases hbig : 128 ≤ m
        · go_wp2_with ((at_builtin; go_must (refine wpList_append_own _ rfl _ _ 140 rfl w_.heap.size 5 i0 (.int .u8 0) 1 1 Tryz.underlying140 hi hz0 hz1 hz2 rfl (by decide) _ _ _ rfl (ho.alloc _) ⟨wr.heap.size, 0, none⟩ 1 1 [.int .u8 ((m : Int) % 128 + 128)] rfl rfl (cell_one_new _ _ _) (ints_oneCell .u8 [((m : Int) % 128 + 128)]) (by unfold maxLen; omega) (by omega) (by simp; omega) ?_); intro v' w1 hown' hgrow _; obtain ⟨a', cap', rfl⟩ := own_form hown'))
          have hG2 := own_grown hsz HG1.out ho hgrow
          have hO2 := own_push hown' (sev_cell m)
          have HO2 := keep hO2
          have HG2 := keep hG2
          clear hO2 hG2 hown' hgrow
          go_roundw
          case rel => exact ⟨m / 128, d ++ [UInt8.ofNat (m % 128 + 128)], a', cap', by rw [← List.append_assoc, HLD.out, List.length_append]; rfl, by go_num, by omega, by rw [← List.append_assoc, HLD.out]; simpa using HO2, keep (by rw [List.append_assoc, List.singleton_append, ← sev_big m (by omega) (by omega)]; exact HD.out), HG2⟩
          case measure => simp [intOf]; omega
        · go_wp2_with ((at_builtin; go_must (refine wpList_append_own _ rfl _ _ 140 rfl w_.heap.size 5 i0 (.int .u8 0) 1 1 Tryz.underlying140 hi hz0 hz1 hz2 rfl (by decide) _ _ _ rfl (ho.alloc _) ⟨wr.heap.size, 0, none⟩ 1 1 [.int .u8 (m : Int)] rfl rfl (cell_one_new _ _ _) (ints_oneCell .u8 [(m : Int)]) (by unfold maxLen; omega) (by omega) (by simp; omega) ?_); intro v' w1 hown' hgrow _; obtain ⟨a', cap', rfl⟩ := own_form hown'))
          have hG2 := own_grown hsz HG1.out ho hgrow
          have hO2 := own_push hown' (sev_cell' m (by omega))
          have HO2 := keep hO2
          have HG2 := keep hG2
          clear hO2 hG2 hown' hgrow
          go_roundw
          case rel =>
            have e : sevs (ns.take (k + 1)) = M ++ [UInt8.ofNat m] := by
              rw [← HSt.out, ← HD.out, sev_small m (by omega), ← HLD.out, List.append_assoc]
            exact ⟨k + 1, M ++ [UInt8.ofNat m], a', cap', by omega, keep e.symm, by rw [List.length_append]; rfl, by go_num, by simpa using HO2, HG2⟩
          case measure => simp [intOf]; omega
    · have e : k = ns.length := by omega
      subst e
      have hcv := own_convert HO.out rfl
      go_wp2_with fail
      go_ret
      have e := HL.out
      rw [List.take_length] at e
      subst e
      exact ⟨rfl, HG.out⟩

end Go.Proofs.YtaninphcgeaepaaGreat
