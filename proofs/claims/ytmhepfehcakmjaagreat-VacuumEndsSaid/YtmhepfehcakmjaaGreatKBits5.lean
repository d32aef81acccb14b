import Derived.Test.YtmhepfehcakmjaaGreatProg
import Derived.Test.YtmhepfehcakmjaaGreatKInv1
import Derived.Lib.AppendStr
import Derived.Maps.AppendAt
import Derived.Laws.Closers25b
namespace Go.Proofs.YtmhepfehcakmjaaGreat
open Go.RowKit
def Wr (w : World) (b : Nat) (l : List UInt8) : Prop := ∃ v, Blk w b 161 [v] ∧ w.ownsRow (b + 1) 5 1 v l.length (bcells l)
theorem infoU8 : (Tryz.prog.info? 5).map (fun i => (i.zero, i.size, i.bytes)) = some (some (.int .u8 0), 1, 1) := by kernel_rfl
set_option maxHeartbeats 400000 in
theorem wrNew (w : World) : Calls Tryz.prog 68 #[] w fun e w' =>
  e = .returned (.pointer (some ⟨w.heap.size, 0, none⟩)) ∧ Wr w' w.heap.size [] ∧ Below w.heap.size w w' := by
 go_enter Tryz.func68, Tryz.ntmps68
 go_wp2
 go_ret
 exact ⟨rfl, ⟨_, Blk.new w _ [_], World.ownsRow_nil _ _ _ _⟩, (Below.refl _ _).alloc (Nat.le_refl _) _⟩
theorem Wr.own_ne {w : World} {b n : Nat} {xs : List Value} {v : Value} (h : w.ownsRow (b + 1) 5 1 v n xs) : v.ownBlock ≠ some b := by
 intro e
 have := h.lt b e
 omega
theorem wr_cell {w w' : World} {b : Nat} {v : Value} (hv : Blk w b 161 [v]) (o : Obj) (hg : (w.alloc o).grownBy w' v.ownBlock) (hne : v.ownBlock ≠ some b) : Blk w' b 161 [v] := by
 have h1 := hv.alloc o
 unfold Blk at h1 ⊢
 rw [hg.block b (lt_of_block h1) (fun e => hne e.symm)]
 exact h1
theorem wr_cell' {w w' : World} {b : Nat} {v : Value} (hv : Blk w b 161 [v]) (hg : w.grownBy w' v.ownBlock) (hne : v.ownBlock ≠ some b) : Blk w' b 161 [v] := by
 have h1 := hv
 unfold Blk at h1 ⊢
 rw [hg.block b (lt_of_block h1) (fun e => hne e.symm)]
 exact h1
theorem wr_store {w' : World} {b : Nat} {v v' : Value} {l : List UInt8} (h1 : Blk w' b 161 [v]) (ho : w'.ownsRow (b + 1) 5 1 v' l.length (bcells l)) : Wr (w'.setCell ⟨b, 0, none⟩ v') b l :=
 ⟨v', h1.set 0 v', ownsRow_setCell_below ho (a := ⟨b, 0, none⟩) (by simp) v'⟩
theorem wr_other {w w' : World} {b c t : Nat} {v : Value} {xs : List Value} {n : Nat} {blk : Array Value} {f : Nat × Nat} (ho : w.ownsRow (b + 1) 5 1 v n xs) (o : Obj) (hg : (w.alloc o).grownBy w' v.ownBlock)
  (hc : w.heap[c]? = some (.cells blk t f)) (ht : t ≠ 5) : w'.heap[c]? = some (.cells blk t f) := by
 have hlt := lt_of_block hc
 have e1 : (w.alloc o).heap[c]? = some (.cells blk t f) := by rw [Below.heap_alloc _ _ _ hlt]; exact hc
 rw [hg.block c (lt_of_block e1) ?_]
 ·exact e1
 ·intro e
  obtain ⟨_, h | ⟨g, cap, cur, hv, _, hh, _⟩⟩ := ho
  ·rw [h.1] at e; simp [Value.ownBlock] at e
  ·rw [hv] at e
   simp only [Value.ownBlock, Option.some.injEq] at e
   subst e
   rw [hh] at hc
   simp at hc
   exact ht hc.2.1.symm
theorem u8_more (m : Nat) : bits BinOp.or IntKind.u8 ((m : Int) % 256) 128 = (m : Int) % 128 + 128 := by
 have e1 : ((m : Int) % 256) = ((m % 256 : Nat) : Int) := by omega
 have e2 : (128 : Int) = ((128 : Nat) : Int) := rfl
 have e3 : (m : Int) % 128 + 128 = ((m % 128 + 128 : Nat) : Int) := by omega
 rw [e1, e3, e2, u8_or_nat _ _ (by omega) (by omega)]
 congr 1
 have h2 : m % 256 = 128 * (m % 256 / 128) + m % 128 := by omega
 have h3 : m % 256 / 128 = 0 ∨ m % 256 / 128 = 1 := by omega
 have h4 : ∀ x, x < 128 → x ||| 128 = x + 128 := by decide
 have h5 : ∀ x, x < 128 → (128 + x) ||| 128 = x + 128 := by decide
 rcases h3 with h | h
 ·rw [h2, h]; simpa using h4 (m % 128) (by omega)
 ·rw [h2, h]; simpa using h5 (m % 128) (by omega)
theorem sev_cell (m : Nat) : Value.int .u8 ((m : Int) % 128 + 128) = Value.int .u8 (UInt8.ofNat (m % 128 + 128)).toNat := by
 congr 1
 rw [UInt8.toNat_ofNat']
 omega
theorem sev_cell' (m : Nat) (h : m < 128) : Value.int .u8 (m : Int) = Value.int .u8 (UInt8.ofNat m).toNat := by
 congr 1
 rw [UInt8.toNat_ofNat']
 omega
theorem wr_push {w1 : World} {b : Nat} {v v' x : Value} {l : List UInt8} {c : UInt8} (h1 : Blk w1 b 161 [v]) (ho : w1.ownsRow (b + 1) 5 1 v' (l.length + 1) (bcells l ++ [x])) (hx : x = .int .u8 c.toNat) :
  Wr (w1.setCell ⟨b, 0, none⟩ v') b (l ++ [c]) := by
 subst hx
 refine wr_store h1 ?_
 simpa [bcells] using ho
theorem wr_round {w wr w1 : World} {b g t : Nat} {v v' x : Value} {l : List UInt8} {c : UInt8} {o : Obj} {blk : Array Value} {f : Nat × Nat} (hbi : Below b w wr) (hv : Blk wr b 161 [v])
  (ho : wr.ownsRow (b + 1) 5 1 v l.length (bcells l)) (hgrow : (wr.alloc o).grownBy w1 v.ownBlock) (hown' : w1.ownsRow (b + 1) 5 1 v' (l.length + 1) (bcells l ++ [x])) (hx : x = .int .u8 c.toNat)
  (hci : wr.heap[g]? = some (.cells blk t f)) (ht : t ≠ 5) (ht' : t ≠ 161) :
  Wr (w1.setCell ⟨b, 0, none⟩ v') b (l ++ [c]) ∧ Below b w (w1.setCell ⟨b, 0, none⟩ v') ∧ (w1.setCell ⟨b, 0, none⟩ v').heap[g]? = some (.cells blk t f) := by
 have hne := Wr.own_ne ho
 have hlt := hv.lt
 refine ⟨wr_push (wr_cell hv _ hgrow hne) hown' hx, ?_, ?_⟩
 ·refine ((hbi.alloc (by omega) o).grown hgrow (by simp; omega) ?_).setCell (Nat.le_refl _) _
  intro k e
  have := ho.lt k e
  omega
 ·rw [Below.heap_setCell _ _ _ _ ?_]
  ·exact wr_other ho _ hgrow hci ht
  ·intro e
   simp only at e
   subst e
   unfold Blk at hv
   rw [hv] at hci
   simp at hci
   exact ht' hci.2.1.symm
set_option maxRecDepth 100000 in
set_option maxHeartbeats 2000000 in
theorem wrNum_some (b : Nat) (l : List UInt8) (ns : List Int) (c off cap : Nat) (blk : Array Value) (f : Nat × Nat) (w : World) (h : Wr w b l) (hc : w.heap[c]? = some (.cells blk 3 f))
  (hcs : ∀ j, j < ns.length → blk[off + j]? = some (.int .i64 (ns.getD j 0))) (hb : ∀ j, j < ns.length → 0 ≤ ns.getD j 0 ∧ ns.getD j 0 ≤ 9223372036854775807) (hlen : (l.length : Int) + 10 * ns.length ≤ 70368744177664) :
  Calls Tryz.prog 69 #[.pointer (some ⟨b, 0, none⟩), .slice (some ⟨c, off, none⟩) ns.length cap] w fun e w' =>
  e = .returned (.tuple #[]) ∧ Wr w' b (l ++ sevs ns) ∧ Below b w w' := by
 go_enter Tryz.func69, Tryz.ntmps69
 go_wp2_with fail
 obtain ⟨i0, hi, hz0, hz1, hz2⟩ := info_parts infoU8
 go_loopw [10] (fun i wr => ∃ k : Nat, k ≤ ns.length ∧ i = .int .i64 k ∧ Wr wr b (l ++ sevs (ns.take k)) ∧ Below b w wr ∧ wr.heap[c]? = some (.cells blk 3 f)) (fun i _ => ns.length - (intOf i).toNat)
 case atStart => exact ⟨0, Nat.zero_le _, rfl, by simpa [sevs] using h, Below.refl _ _, hc⟩
 case round =>
  obtain ⟨k, hk, rfl, hw, hbl, hcr⟩ := hrel
  by_cases hlt : k < ns.length
  ·have hcell : wr.cell? ⟨c, off + k, none⟩ = some (.int .i64 (ns.getD k 0)) := by simp [World.cell?, hcr, hcs k hlt]
   obtain ⟨hN0, hN1⟩ := hb k hlt
   have hsl : ((l ++ sevs (ns.take k)).length : Int) + 10 ≤ 70368744177664 := by
    have := sevs_length (ns.take k)
    simp only [List.length_append, List.length_take] at *
    omega
   have hst : sevs (ns.take k) ++ sev (ns.getD k 0).toNat = sevs (ns.take (k + 1)) := by
    rw [List.take_succ_eq_append_getElem hlt, sevs, sevs, List.flatMap_append]
    simp [hlt]
   obtain ⟨N, hN⟩ := Int.eq_ofNat_of_zero_le hN0
   rw [hN] at hcell hst hN1
   rw [Int.toNat_natCast] at hst
   have HN := keep hst
   have HN1 := keep hN1
   clear hst hc hN hN0 hb hcs h hN1
   have hnl : (ns.length : Int) ≤ 70368744177664 := by omega
   clear hlen
   generalize hL : l ++ sevs (ns.take k) = L at *
   have HL := keep hL
   clear hL
   have hlen1 := sev_length N
   have Hsl := keep hsl
   clear hsl
   go_wp2_with fail
   obtain ⟨wo, rfl⟩ : ∃ wo : World, wo = wr := ⟨_, rfl⟩
   go_loopw [5] (fun x wi => ∃ (m : Nat) (d : List UInt8), x = .int .i64 m ∧ (m : Int) ≤ 9223372036854775807 ∧ Wr wi b (L ++ d) ∧ Kept (d ++ sev m = sev N) ∧ Below b w wi ∧ wi.heap[c]? = some (.cells blk 3 f)) (fun x _ => (intOf x).toNat)
   case atStart => exact ⟨N, [], rfl, by have := HN1.out; omega, by simpa using hw, keep (by simp), hbl, hcr⟩
   case round =>
    obtain ⟨m, d, rfl, hm, hwi, hd, hbi, hci⟩ := hrel
    have hdl : d.length ≤ 10 := by
     have := congrArg List.length hd.out
     have := sev_length N
     simp at *
     omega
    obtain ⟨v, hv, ho⟩ := hwi
    have hne := Wr.own_ne ho
    have hc0 := hv.cell 0 (by simp)
    have hX := u8_more m
    have hlt' := hv.lt
    have hLd : ((L ++ d).length : Int) ≤ 70368744177664 := by have := Hsl.out; simp; omega
    by_cases hbig : 127 < m
    ·go_wp2_with ((at_builtin; go_must (refine wpList_append_own _ rfl _ _ 122 rfl (b + 1) 5 i0 (.int .u8 0) 1 1 Tryz.underlying122 hi hz0 hz1 hz2 rfl (by decide) _ _ _ rfl (ho.alloc _) ⟨wr.heap.size, 0, none⟩ 1 1 [.int .u8 ((m : Int) % 128 + 128)] rfl rfl (cell_one_new _ _ _) (ints_oneCell .u8 [(m : Int) % 128 + 128]) (by unfold maxLen; omega) (by omega) (by simp; omega) ?_); intro v' w1 hown' hgrow _; obtain ⟨a', cap', rfl⟩ := own_form hown'; have hv1 := wr_cell hv _ hgrow hne; have hcc := hv1.cell 0 (by simp); have hff := hv1.free 0))
     have hR := wr_round hbi hv ho hgrow hown' (sev_cell m) hci (by decide) (by decide)
     rw [List.length_append] at hR
     go_roundw
     case rel =>
      refine ⟨m / 128, d ++ [UInt8.ofNat (m % 128 + 128)], by go_num, by omega, ?_, keep ?_, hR.2.1, hR.2.2⟩
      ·rw [← List.append_assoc]; exact hR.1
      ·rw [List.append_assoc, List.singleton_append, ← sev_big m (by omega) (by omega)]; exact hd.out
     case measure => simp [intOf]; omega
    ·go_wp2_with ((at_builtin; go_must (refine wpList_append_own _ rfl _ _ 122 rfl (b + 1) 5 i0 (.int .u8 0) 1 1 Tryz.underlying122 hi hz0 hz1 hz2 rfl (by decide) _ _ _ rfl (ho.alloc _) ⟨wr.heap.size, 0, none⟩ 1 1 [.int .u8 (m : Int)] rfl rfl (cell_one_new _ _ _) (ints_oneCell .u8 [(m : Int)]) (by unfold maxLen; omega) (by omega) (by simp; omega) ?_); intro v' w1 hown' hgrow _; obtain ⟨a', cap', rfl⟩ := own_form hown'; have hv1 := wr_cell hv _ hgrow hne; have hcc := hv1.cell 0 (by simp); have hff := hv1.free 0))
     have hR := wr_round hbi hv ho hgrow hown' (sev_cell' m (by omega)) hci (by decide) (by decide)
     rw [List.length_append] at hR
     go_roundw
     case rel =>
      refine ⟨k + 1, by omega, by go_num, ?_, hR.2.1, hR.2.2⟩
      have e : l ++ sevs (ns.take (k + 1)) = L ++ d ++ [UInt8.ofNat m] := by
       rw [← HN.out, ← List.append_assoc, HL.out, ← hd.out, sev_small m (by omega), List.append_assoc]
      rw [e]
      exact hR.1
     case measure => simp [intOf]; omega
  ·go_wp2_with fail
   have e : k = ns.length := by omega
   subst e
   go_end0
   exact ⟨rfl, by simpa using hw, hbl⟩
end Go.Proofs.YtmhepfehcakmjaaGreat
namespace Go.Proofs.YtmhepfehcakmjaaGreat
open Go.RowKit
theorem Wr.alloc {w : World} {b : Nat} {l : List UInt8} (h : Wr w b l) (o : Obj) : Wr (w.alloc o) b l := by
 obtain ⟨v, hv, ho⟩ := h
 exact ⟨v, hv.alloc o, ho.alloc o⟩
theorem Wr.lt {w : World} {b : Nat} {l : List UInt8} (h : Wr w b l) : b < w.heap.size := by
 obtain ⟨v, hv, ho⟩ := h
 exact hv.lt
theorem Wr.grow {w w' : World} {b : Nat} {l : List UInt8} (h : Wr w b l) (hb : Below w.heap.size w w') : Wr w' b l := by
 obtain ⟨v, hv, ho⟩ := h
 refine ⟨v, hv.fits hb, ho.1, ?_⟩
 rcases ho.2 with h | ⟨g, cap, cur, h1, h2, h3, h4⟩
 ·exact .inl h
 ·exact .inr ⟨g, cap, cur, h1, h2, by rw [hb.block g (lt_of_block h3)]; exact h3, h4⟩
set_option maxHeartbeats 400000 in
theorem wrNum_none (b cap : Nat) (a : Option Addr) (w : World) :
  Calls Tryz.prog 69 #[.pointer (some ⟨b, 0, none⟩), .slice a 0 cap] w fun e w' => e = .returned (.tuple #[]) ∧ w = w' := by
 go_enter Tryz.func69, Tryz.ntmps69
 go_wp2_with fail
 refine wp_loop_rounds 1 ?_
 rw [rounds_succ]
 go_wp2_with fail
 go_end0
 exact ⟨rfl, rfl⟩
def txt (l : List UInt8) : List UInt8 := sev l.length ++ l
theorem bcells_str (s : ByteArray) : Lib.strCells s = bcells s.data.toList := rfl
set_option maxRecDepth 100000 in
set_option maxHeartbeats 1000000 in
theorem wrText (b : Nat) (l : List UInt8) (s : ByteArray) (w : World) (h : Wr w b l) (hlen : (l.length : Int) + s.size + 10 ≤ 70368744177664) :
  Calls Tryz.prog 70 #[.pointer (some ⟨b, 0, none⟩), .string s] w fun e w' =>
  e = .returned (.tuple #[]) ∧ Wr w' b (l ++ txt s.data.toList) ∧ Below b w w' := by
 have hb := h.lt
 have hsz : s.data.toList.length = s.size := by simp
 have hs1 : (s.size : Int) ≤ 70368744177664 := by omega
 have H := wrNum_some b l [(s.size : Int)] w.heap.size 0 1 #[.int .i64 s.size] (0, 0) (w.alloc (.cells #[.int .i64 s.size] 3)) (h.alloc _) (by show (w.heap.push _)[_]? = _; simp)
  (by intro j hj; simp at hj; subst hj; rfl) (by intro j hj; simp at hj; subst hj; simp; omega) (by simp; omega)
 have e1 : sevs [(s.size : Int)] = sev s.data.toList.length := by rw [hsz]; simp [sevs]
 rw [e1] at H
 have H1 := keep H
 have Hl := keep hlen
 clear H e1 hsz hlen
 obtain ⟨i0, hi, hz0, hz1, hz2⟩ := info_parts infoU8
 go_enter Tryz.func70, Tryz.ntmps70
 go_wp2_with fail
 refine H1.out.mono ?_
 rintro e w2 ⟨rfl, ⟨v, hv, ho⟩, hbl⟩
 have hne := Wr.own_ne ho
 have hc0 := hv.cell 0 (by simp)
 have hl2 : ((l ++ sev s.data.toList.length).length : Int) + s.size ≤ 70368744177664 := by
  have := sev_length s.data.toList.length
  have := Hl.out
  simp only [List.length_append]; omega
 have Hl2 := keep hl2
 have hs2 := hbl.size
 clear hl2
 go_wp2_with ((at_builtin; go_must (refine Lib.wpList_append_own_string _ rfl _ _ 122 9 rfl (b + 1) 5 i0 Tryz.underlying122 Tryz.underlying9 hi hz0 hz1 hz2 _ _ _ rfl ho s rfl (by have := Hl2.out; unfold maxLen; omega) (by have := Hl2.out; omega) (by simp at hs2; omega) ?_); intro v' w1 hown' hgrow _; obtain ⟨a', cap', rfl⟩ := own_form hown'; have hv1 := wr_cell' hv hgrow hne; have hcc := hv1.cell 0 (by simp); have hff := hv1.free 0))
 go_end0
 refine ⟨rfl, ?_, ?_⟩
 ·have e2 : l ++ txt s.data.toList = (l ++ sev s.data.toList.length) ++ s.data.toList := by simp [txt]
  rw [e2]
  refine wr_store hv1 ?_
  rw [bcells_append, ← bcells_str, List.length_append, show s.data.toList.length = s.size from by simp]
  simpa using hown'
 ·refine ((((Below.refl _ _).alloc (by omega) _).trans hbl).grown hgrow (by simp at hs2; omega) ?_).setCell (Nat.le_refl _) _
  intro k e
  have := ho.lt k e
  omega
theorem strOfNums_bytes (l : List UInt8) : strOfNums (l.map fun c => (c.toNat : Int)) = str l := by
 unfold strOfNums str
 congr 2
 have e : ((fun n : Int => UInt8.ofNat n.toNat) ∘ fun c : UInt8 => (c.toNat : Int)) = id := by funext c; simp
 rw [List.map_map, e, List.map_id]
theorem own_convert {w : World} {base n : Nat} {v : Value} {l : List UInt8} (h : w.ownsRow base 5 1 v n (bcells l)) (hn : n = l.length) : (convert 122 9 v).run Tryz.prog w = .ok (.string (str l)) w := by
 subst hn
 have h0 := h
 obtain ⟨_, h | ⟨g, cap, cur, hv, _⟩⟩ := h
 ·have : l = [] := List.length_eq_zero_iff.1 h.2
  subst this
  rw [h.1]
  exact run_convert_bytes_nil w 122 5 Tryz.underlying122 Tryz.underlying5 _ _ 9 Tryz.underlying9
 ·subst hv
  rw [← strOfNums_bytes]
  refine run_convert_bytes_arg w 122 5 Tryz.underlying122 Tryz.underlying5 g 0 l.length cap _ (by simp) ?_ 9 Tryz.underlying9
  intro i hi
  rw [Nat.zero_add, h0.cellAt i (by omega)]
  simp [bcells, hi]
set_option maxHeartbeats 400000 in
theorem wrBytes (b : Nat) (l : List UInt8) (w : World) (h : Wr w b l) : Calls Tryz.prog 71 #[.pointer (some ⟨b, 0, none⟩)] w fun e w' =>
  e = .returned (.string (str l)) ∧ w = w' := by
 obtain ⟨v, hv, ho⟩ := h
 have hc0 := hv.cell 0 (by simp)
 have hcv := own_convert ho rfl
 go_enter Tryz.func71, Tryz.ntmps71
 go_wp2_with fail
 go_ret
 exact ⟨rfl, rfl⟩
end Go.Proofs.YtmhepfehcakmjaaGreat
namespace Go.Proofs.YtmhepfehcakmjaaGreat
open Go.RowKit
def bigS (n width : Nat) : List UInt8 := (List.range width).map fun i => UInt8.ofNat (n / 2 ^ (8 * (width - 1 - i)) % 256)
theorem bigS_length (n width : Nat) : (bigS n width).length = width := by simp [bigS]
theorem bigS_getElem (n width k : Nat) (hk : k < width) : (bigS n width)[k]? = some (UInt8.ofNat (n / 2 ^ (8 * (width - 1 - k)) % 256)) := by
 simp [bigS, hk]
theorem big_cell (n e : Nat) : Value.int .u8 ((n : Int) / 2 ^ e % 256) = Value.int .u8 (UInt8.ofNat (n / 2 ^ e % 256)).toNat := by
 congr 1
 rw [UInt8.toNat_ofNat']
 have e1 : ((n : Int) / 2 ^ e) = ((n / 2 ^ e : Nat) : Int) := by push_cast; rfl
 rw [e1]
 omega
theorem row_set (B : List UInt8) (width k : Nat) (z x : Value) (c : UInt8) (hk : k < width) (hB : B[k]? = some c) (hx : x = .int .u8 c.toNat) :
  (bcells (B.take k) ++ List.replicate (width - k) z).set k x = bcells (B.take (k + 1)) ++ List.replicate (width - (k + 1)) z := by
 subst hx
 have hl : (bcells (B.take k)).length = k := by
  have : k < B.length := by
   rcases Nat.lt_or_ge k B.length with h | h
   ·exact h
   ·rw [List.getElem?_eq_none h] at hB; cases hB
  simp; omega
 have hr : List.replicate (width - k) z = z :: List.replicate (width - (k + 1)) z := by
  rw [show width - k = (width - (k + 1)) + 1 from by omega, List.replicate_succ]
 rw [hr, List.set_append_right _ _ (by omega), hl, Nat.sub_self, List.set_cons_zero, List.take_add_one, hB, bcells_append]
 simp [bcells]
set_option maxRecDepth 100000 in
set_option maxHeartbeats 1000000 in
theorem big_ok (n width : Nat) (w : World) (h1 : 1 ≤ width) (h2 : width ≤ 8) (hn : (n : Int) ≤ 9223372036854775807) : Calls Tryz.prog 72 #[.int .i64 n, .int .i64 width] w fun e w' =>
  e = .returned (.string (str (bigS n width))) ∧ Below w.heap.size w w' := by
 obtain ⟨i0, hi, hz0, hz1, hz2⟩ := info_parts infoU8
 go_enter Tryz.func72, Tryz.ntmps72
 go_wp2_with ((at_make; go_must (refine wpList_make_full _ rfl _ _ 122 rfl w.heap.size 5 i0 (.int .u8 0) 1 Tryz.underlying122 hi hz0 hz1 .i64 .i64 _ _ width rfl rfl rfl rfl (by rw [hz2]; omega) (by unfold maxLen; omega) (Nat.le_refl _) ?_); intro w1 hown hgrow))
 obtain ⟨wo, rfl⟩ : ∃ wo : World, wo = w := ⟨_, rfl⟩
 go_loopw [21] (fun i wr => ∃ k : Nat, k ≤ width ∧ i = .int .i64 k ∧ wr.ownsRow wo.heap.size 5 1 (.slice (some ⟨wo.heap.size, 0, none⟩) width width) width (bcells ((bigS n width).take k) ++ List.replicate (width - k) (.int .u8 0)) ∧ Below wo.heap.size wo wr) (fun i _ => width - (intOf i).toNat)
 case atStart =>
  refine ⟨0, Nat.zero_le _, rfl, ?_, (Below.refl _ _).grown hgrow (Nat.le_refl _) (by simp)⟩
  have hz : (madeCells (Value.int IntKind.u8 0).cells (width * 1)).toList = List.replicate width (.int .u8 0) := by rw [Nat.mul_one]; exact toList_madeCells_one _ _
  rw [hz] at hown
  simpa [bcells] using hown
 case round =>
  obtain ⟨k, hk, rfl, hown, hbl⟩ := hrel
  by_cases hlt : k < width
  ·have hc : wr.cell? ⟨wo.heap.size, k, none⟩ = some (.int .u8 0) := by
    have hl : (bcells ((bigS n width).take k)).length = k := by simp [bigS_length]; omega
    rw [hown.cellAt k (by omega), List.getElem?_append_right (by omega), hl, Nat.sub_self]
    rw [List.getElem?_replicate, if_pos (by omega)]
   have hf := hown.frozenAt k
   have hst := hown.stored k (.int .u8 ((n : Int) / 2 ^ (8 * (width - 1 - k)) % 256))
   rw [row_set _ _ _ _ _ _ hlt (bigS_getElem n width k hlt) (big_cell n _)] at hst
   have Hst := keep hst
   clear hst hown
   go_wp2_with fail
   go_roundw
   case rel => exact ⟨k + 1, by omega, by go_num, Hst.out.1, hbl.setCell (Nat.le_refl _) _⟩
   case measure => simp [intOf]; omega
  ·have e : k = width := by omega
   have hfull : bcells ((bigS n width).take k) ++ List.replicate (width - k) (.int .u8 0) = bcells (bigS n width) := by
    rw [e, List.take_of_length_le (by simp [bigS_length]), Nat.sub_self]; simp
   rw [hfull] at hown
   have hcv := own_convert hown (bigS_length n width).symm
   clear e hfull
   go_wp2_with fail
   go_ret
   exact ⟨rfl, hbl⟩
theorem big_at (N W : Int) (n width : Nat) (w : World) (hN : N = n) (hW : W = width) (h1 : 1 ≤ width) (h2 : width ≤ 8) (hn : (n : Int) ≤ 9223372036854775807) : Calls Tryz.prog 72 #[.int .i64 N, .int .i64 W] w fun e w' =>
  e = .returned (.string (str (bigS n width))) ∧ Below w.heap.size w w' := by
 subst hN hW
 exact big_ok n width w h1 h2 hn
end Go.Proofs.YtmhepfehcakmjaaGreat
namespace Go.Proofs.YtmhepfehcakmjaaGreat
open Go.RowKit
end Go.Proofs.YtmhepfehcakmjaaGreat
namespace Go.Proofs.YtmhepfehcakmjaaGreat
open Go.RowKit
def ofGo : Nat → List UInt8 → Nat
 | n, [] => n
 | n, c :: l => ofGo ((n * 256 + c.toNat) % 2 ^ 64) l
def ofS (l : List UInt8) : Nat := ofGo 0 l % 2 ^ 63
theorem or_byte (m c : Nat) (hc : c < 256) : bits BinOp.or IntKind.u64 (IntKind.u64.wrap ((m : Int) * 256)) (IntKind.u64.wrap (c : Int)) = (((m * 256 + c) % 2 ^ 64 : Nat) : Int) := by
 have e1 : IntKind.u64.wrap ((m : Int) * 256) = ((m * 256 % 18446744073709551616 : Nat) : Int) := by rw [IntKind.wrap_u64]; omega
 have e2 : IntKind.u64.wrap (c : Int) = ((c : Nat) : Int) := by rw [IntKind.wrap_u64]; omega
 rw [e1, e2, u64_or_nat _ _ (by omega) (by omega)]
 congr 1
 have e3 : m * 256 % 18446744073709551616 = 2 ^ 8 * (m % 72057594037927936) := by omega
 rw [e3, ← Nat.two_pow_add_eq_or_of_lt (by omega)]
 omega
theorem and_low (m : Nat) (hm : m < 18446744073709551616) : wrap64 (bits BinOp.andNot IntKind.u64 (↑m) 9223372036854775808) = ((m % 2 ^ 63 : Nat) : Int) := by
 have e2 : (9223372036854775808 : Int) = ((9223372036854775808 : Nat) : Int) := rfl
 rw [e2, u64_andNot_nat _ _ hm (by omega)]
 have e3 : m &&& (18446744073709551615 - 9223372036854775808) = m % 2 ^ 63 := Nat.and_two_pow_sub_one_eq_mod m 63
 rw [e3]
 unfold wrap64
 omega
set_option maxRecDepth 100000 in
set_option maxHeartbeats 1000000 in
theorem of_ok (s : ByteArray) (w : World) (hs : (s.size : Int) ≤ 9223372036854775807) : Calls Tryz.prog 32 #[.string s] w fun e w' =>
  e = .returned (.int .i64 (ofS s.data.toList)) ∧ w = w' := by
 go_enter Tryz.func32, Tryz.ntmps32
 go_wp2_with fail
 go_loop [3, 7] (fun n i => ∃ k m : Nat, k ≤ s.size ∧ i = .int .i64 k ∧ n = .int .u64 m ∧ (m : Int) ≤ 18446744073709551615 ∧ Kept (ofGo m (s.data.toList.drop k) = ofGo 0 s.data.toList)) (fun _ i => s.size - (intOf i).toNat)
 case atStart => exact ⟨0, 0, Nat.zero_le _, rfl, rfl, by omega, keep rfl⟩
 case round =>
  obtain ⟨k, m, hk, rfl, rfl, hm, hrel⟩ := hrel
  by_cases hlt : k < s.size
  ·have hd : s.data.toList.drop k = s[k] :: s.data.toList.drop (k + 1) := by
    rw [List.drop_eq_getElem_cons (by simpa using hlt)]; rfl
   have Hd := keep hd
   have hor := or_byte m s[k].toNat s[k].toNat_lt
   have Hor := keep hor
   clear hd hor
   go_wp2_with fail
   go_round
   case rel =>
    refine ⟨k + 1, (m * 256 + s[k].toNat) % 2 ^ 64, by omega, by go_num, ?_, by omega, keep ?_⟩
    ·rw [Hor.out]
    ·rw [← hrel.out, Hd.out]; rfl
   case measure => simp [intOf]; omega
  ·have Hand := keep (and_low m (by omega))
   go_wp2_with fail
   go_ret
   have h0 := hrel.out
   rw [List.drop_eq_nil_of_le (by simp; omega)] at h0
   refine ⟨?_, rfl⟩
   show Ending.returned (Value.int IntKind.i64 (wrap64 (bits BinOp.andNot IntKind.u64 (↑m) 9223372036854775808))) = _
   rw [Hand.out, ofS, ← h0]
   rfl
end Go.Proofs.YtmhepfehcakmjaaGreat
