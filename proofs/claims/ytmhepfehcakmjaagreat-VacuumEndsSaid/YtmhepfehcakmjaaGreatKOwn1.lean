import Derived.Test.YtmhepfehcakmjaaGreatKRelk
import Derived.Test.YtmhepfehcakmjaaGreatKIns1
namespace Go.Proofs.YtmhepfehcakmjaaGreat
open Go.RowKit
theorem heap_setCells_at {b t : Nat} {f : Nat × Nat} : ∀ (vs : List Value) (o : Nat) (w : World) (cur : List Value), w.heap[b]? = some (.cells cur.toArray t f) → o + vs.length ≤ cur.length →
  (w.setCells b o vs).heap[b]? = some (.cells (cur.take o ++ vs ++ cur.drop (o + vs.length)).toArray t f)
 | [], o, w, cur, h, _ => by
  rw [World.setCells, List.append_nil, List.length_nil, Nat.add_zero, List.take_append_drop]; exact h
 | v :: r, o, w, cur, h, hl => by
  rw [List.length_cons] at hl
  have h1 : (w.setCell ⟨b, o, none⟩ v).heap[b]? = some (.cells (cur.set o v).toArray t f) := by
   simp only [World.setCell, Array.getElem?_modify, if_true, h]
   simp
  rw [World.setCells, heap_setCells_at r (o + 1) _ _ h1 (by rw [List.length_set]; omega)]
  have e1 : (cur.set o v).take (o + 1) = cur.take o ++ [v] := by
   rw [List.take_add_one, List.take_set_of_le (Nat.le_refl _), List.getElem?_set_self (by omega)]
   rfl
  have e2 : (cur.set o v).drop (o + 1 + r.length) = cur.drop (o + (r.length + 1)) := by
   rw [show o + 1 + r.length = o + (r.length + 1) by omega, List.drop_set_of_lt (by omega)]
  rw [e1, e2]
  simp
theorem keeps_setCells {B b : Nat} {u : World} (hb : B ≤ b) : ∀ (vs : List Value) (o : Nat) (w : World), Below B u w → Below B u (w.setCells b o vs)
 | [], _, _, h => h
 | v :: r, o, _w, h => keeps_setCells hb r (o + 1) _ (h.setCell hb v)
theorem owns_of {w : World} {B g t n cap : Nat} {cur : List Value} {xs : List Value} (hB : B ≤ g) (h : w.heap[g]? = some (.cells cur.toArray t (0, 0))) (hn : n ≤ cap) (hc : cap ≤ maxLen) (hs : cur.length = cap) (hx : cur.take n = xs) : w.ownsRow B t 1 (.slice (some ⟨g, 0, none⟩) n cap) n xs :=
 ⟨by rw [← hx, List.length_take]; omega, .inr ⟨g, cap, cur.toArray, rfl, hB, h, hn, hc, by simpa using hs, by simpa using hx⟩⟩
theorem zero_cells (n : Nat) : (Builtin.zeroCells (Value.string ⟨#[]⟩).cells n).toList = List.replicate n (.string ⟨#[]⟩) := by
 apply List.ext_getElem
 ·simp [Builtin.zeroCells, Value.cells]
 ·intro i h1 h2
  simp [Builtin.zeroCells, Value.cells, Nat.mod_one]
theorem sCells_append (a b : List (List UInt8)) : sCells (a ++ b) = sCells a ++ sCells b := by simp [sCells]
theorem sCells_take (a : List (List UInt8)) (n : Nat) : sCells (a.take n) = (sCells a).take n := by simp [sCells]
theorem sCells_drop (a : List (List UInt8)) (n : Nat) : sCells (a.drop n) = (sCells a).drop n := by simp [sCells]
theorem sCells_one {v : Value} {l : List (List UInt8)} (h : v ∈ sCells l) : v.oneCell' = true := by
 simp only [sCells, List.mem_map] at h
 obtain ⟨x, _, rfl⟩ := h
 rfl
theorem clone_any (iv : Value) (l : List (List UInt8)) (w : World) (h : Items w iv l) (hl : l.length ≤ 8796093021981) :
  Calls Tryz.prog 26 #[iv] w fun e w' => ∃ v', e = .returned v' ∧ w'.ownsRow w.heap.size 9 1 v' l.length (sCells l) ∧ Below w.heap.size w w' := by
 rcases h with ⟨h1, h2, a, cap, rfl⟩ | ⟨c, off, cap, rfl, h3⟩
 ·rw [h1, h2]
  cases a with
  | none =>
   refine (Tryz.slices_Clone_string_nil 0 cap w).mono ?_
   rintro e w' ⟨rfl, rfl⟩
   exact ⟨_, rfl, World.ownsRow_nil _ _ _ _, Below.refl _ _⟩
  | some a =>
   refine (Tryz.slices_Clone_string_zero a cap w).mono ?_
   rintro e w' ⟨v', rfl, h4, _, h5⟩
   exact ⟨_, rfl, h4, h5⟩
 ·refine (Tryz.slices_Clone_string c off l.length cap (l.map str) w (by simp) (by omega) (fun j hj => ?_)).mono ?_
  ·rw [List.length_map] at hj
   rw [h3 j (by simpa using hj)]
   simp [sCells, List.getD_eq_getElem?_getD, hj]
  ·rintro e w' ⟨v', rfl, h4, _, h5⟩
   refine ⟨_, rfl, ?_, h5⟩
   have e : ((l.map str).take l.length).map Value.string = sCells l := by
    rw [List.take_of_length_le (by simp)]
    simp [sCells]
   rw [← e]; exact h4
theorem insert_own (B i vb vc : Nat) (v : Value) (xs : List (List UInt8)) (x : List UInt8) (w : World) (h : w.ownsRow B 9 1 v xs.length (sCells xs)) (hi : i ≤ xs.length) (hv : Blk w vb 9 [.string (str x)])
  (hB : B ≤ w.heap.size) (hl : xs.length ≤ 8796093021981) :
  Calls Tryz.prog 104 #[v, .int .i64 i, .slice (some ⟨vb, 0, none⟩) 1 vc] w fun e w' => ∃ v', e = .returned v' ∧ w'.ownsRow B 9 1 v' (xs.length + 1) (sCells (xs.take i ++ x :: xs.drop i)) ∧ Below B w w' := by
 have hvs : ∀ j u, [Value.string (str x)][j]? = some u → w.cell? ⟨vb, 0 + j, none⟩ = some u := by
  intro j u hj
  match j, hj with
  | 0, hj => simp at hj; subst hj; exact hv.cell 0 (by simp)
 have h1v : ∀ u ∈ [Value.string (str x)], u.oneCell' = true := by intro u hu; simp at hu; subst hu; rfl
 have hne : sCells (xs.take i ++ x :: xs.drop i) = (sCells xs).take i ++ (.string (str x) :: (sCells xs).drop i) := by
  rw [sCells_append, sCells_take]
  congr 1
  rw [← sCells_drop]; rfl
 have hbig : (xs.length + 1) * 16 ≤ 140737488355328 := by omega
 have hml : (8796093021982 : Nat) ≤ maxLen := by unfold maxLen; omega
 rcases h.2 with ⟨rfl, h0⟩ | ⟨g, cap, cur, rfl, hg, hh, hn, hc, hs, ht⟩
 ·have hx : xs = [] := List.length_eq_zero_iff.1 h0
  subst hx
  have hi0 : i = 0 := by simpa using hi
  subst hi0
  refine (Any2.slices_Insert_string_end_grow Tryz.laysIns none 0 0 vb 0 1 vc [] [.string (str x)] w (by omega) (by omega) (by omega) (by omega) rfl rfl (fun _ => rfl) (fun a ha => by cases ha) hvs h1v).mono ?_
  rintro e w' ⟨rfl, rfl⟩
  have hG := grownCap_ge w (0 + 1) 0 (Tryz.laysIns_ren.t 9)
  have hG2 := grownCap_le_maxLen w (0 + 1) 0 (Tryz.laysIns_ren.t 9) (by unfold maxLen; omega)
  generalize grownCap w (0 + 1) 0 (Tryz.laysIns_ren.t 9) = G at *
  refine ⟨_, rfl, ?_, (Below.drew (Below.refl _ _)).alloc hB _⟩
  refine owns_of (cur := [.string (str x)] ++ List.replicate (G - (0 + 1)) (.string ⟨#[]⟩)) hB ?_ hG hG2 (by simp; omega) ?_
  ·show ((w.drew).heap.push _)[w.heap.size]? = _
   rw [show w.heap.size = w.drew.heap.size from rfl, Array.getElem?_push_size]
   simp only [Option.some.injEq, Obj.cells.injEq, and_true]
   refine ⟨?_, rfl⟩
   apply Array.ext'
   rw [Array.toList_append, zero_cells]
   simp
  ·simp [sCells]
 ·have hcl : (sCells xs).length = xs.length := sCells_length xs
  rw [Nat.mul_one] at hs ht
  have hh' : w.heap[g]? = some (.cells cur.toList.toArray 9 (0, 0)) := by simpa using hh
  have hlen : cur.toList.length = cap := by simpa using hs
  have hcs : ∀ j u, (sCells xs)[j]? = some u → w.cell? ⟨g, 0 + j, none⟩ = some u := by
   intro j u hj
   rw [← ht, List.getElem?_take] at hj
   split at hj
   ·rw [Nat.zero_add]; simp [World.cell?, hh]; simpa using hj
   ·simp at hj
  have hsp : ∀ j, j < cap → (w.cell? ⟨g, 0 + j, none⟩).isSome = true := by
   intro j hj
   rw [Nat.zero_add]
   simp [World.cell?, hh]
   omega
  have hfz : ∀ j, w.frozen? ⟨g, j, none⟩ = false := by
   intro j
   simp [World.frozen?, hh]
  by_cases hroom : xs.length + 1 ≤ cap
  ·by_cases hin : i < xs.length
   ·have hvg : vb ≠ g := by
     intro e
     subst e
     have h2 := hv
     unfold Blk at h2
     rw [hh] at h2
     simp at h2
     rw [h2] at hs
     simp at hs
     omega
    have hsa : w.shape? vb = some (9, 1) := by unfold Blk at hv; simp [World.shape?, hv]
    have hsb : w.shape? g = some (9, cap) := by simp [World.shape?, hh, hs]
    refine (Any2.slices_Insert_string_shift Tryz.laysIns g 0 xs.length cap i vb 0 1 vc (sCells xs) [.string (str x)] w hin (by omega) hroom (by unfold maxLen at hc; omega) hvg hcl rfl hcs (fun j hj => hsp j (by omega)) (fun j _ => hfz _) hvs (fun u hu => sCells_one hu) h1v
     _ _ _ _ hsa hsb (by omega) (hv.free 0) (hv.free 1)).mono ?_
    rintro e w' ⟨rfl, rfl⟩
    refine ⟨_, rfl, ?_, keeps_setCells hg _ _ _ (keeps_setCells hg _ _ _ (Below.drew (Below.refl _ _)))⟩
    have hA := heap_setCells_at ((sCells xs).drop i) (0 + (i + 1)) w.drew cur.toList hh' (by rw [List.length_drop, hcl, hlen]; omega)
    have hA2 := heap_setCells_at [.string (str x)] (0 + i) _ _ hA (by simp; omega)
    refine owns_of hg hA2 hroom hc (by simp; omega) ?_
    rw [hne, ← ht]
    apply List.ext_getElem?
    intro j
    simp only [Nat.zero_add, List.length_drop, List.length_take, hlen, List.length_cons, List.length_nil, List.getElem?_take, List.getElem?_append, List.getElem?_drop, List.length_append, List.getElem?_cons, List.getElem?_nil]
    by_cases j1 : j < i
    ·repeat (first | rw [if_pos (by omega)] | rw [if_neg (by omega)])
    ·by_cases j2 : j = i
     ·subst j2
      repeat (first | rw [if_pos (by omega)] | rw [if_neg (by omega)])
     ·by_cases j3 : j < xs.length + 1
      ·repeat (first | rw [if_pos (by omega)] | rw [if_neg (by omega)])
       congr 1
       omega
      ·repeat (first | rw [if_pos (by omega)] | rw [if_neg (by omega)])
   ·have e : i = xs.length := by omega
    subst e
    refine (Any2.slices_Insert_string_end_room Tryz.laysIns g 0 xs.length cap vb 0 1 vc [.string (str x)] w (by omega) hroom (by unfold maxLen at hc; omega) rfl (fun j hj => by rw [Nat.add_assoc]; exact hsp _ (by omega)) (fun j hj => hfz _) hvs h1v).mono ?_
    rintro e w' ⟨rfl, rfl⟩
    refine ⟨_, rfl, ?_, keeps_setCells hg _ _ _ (Below.refl _ _)⟩
    have hA := heap_setCells_at [.string (str x)] (0 + xs.length) w cur.toList hh' (by simp; omega)
    refine owns_of hg hA hroom hc (by simp; omega) ?_
    rw [hne, ← ht]
    apply List.ext_getElem?
    intro j
    simp only [Nat.zero_add, List.length_take, List.length_cons, List.length_nil, List.getElem?_take, List.getElem?_append, List.getElem?_drop, List.length_append, List.getElem?_cons, List.getElem?_nil, hlen]
    by_cases j1 : j < xs.length
    ·repeat (first | rw [if_pos (by omega)] | rw [if_neg (by omega)])
    ·by_cases j2 : j = xs.length
     ·subst j2
      repeat (first | rw [if_pos (by omega)] | rw [if_neg (by omega)])
     ·by_cases j3 : j < xs.length + 1
      ·omega
      ·repeat (first | rw [if_pos (by omega)] | rw [if_neg (by omega)])
  ·by_cases hin : i < xs.length
   ·refine (Any2.slices_Insert_string_grow Tryz.laysIns g 0 xs.length cap i vb 0 1 vc (sCells xs) [.string (str x)] w hin (by omega) hn (by omega) hbig hcl rfl hcs hvs (fun u hu => sCells_one hu) h1v).mono ?_
    rintro e w' ⟨rfl, rfl⟩
    have hG := grownCap_ge w (xs.length + 1) cap (Tryz.laysIns_ren.t 9)
    have hG2 := grownCap_le_maxLen w (xs.length + 1) cap (Tryz.laysIns_ren.t 9) (by unfold maxLen; omega)
    generalize grownCap w (xs.length + 1) cap (Tryz.laysIns_ren.t 9) = G at *
    refine ⟨_, rfl, ?_, keeps_setCells hB _ _ _ (Below.drew (keeps_setCells hB _ _ _ (Below.drew (Below.alloc (Below.refl _ _) hB _))))⟩
    have hrow : (w.alloc (.cells (((sCells xs).take i).toArray ++ Builtin.zeroCells (Value.string ⟨#[]⟩).cells (xs.length + 1 - i) ++ Builtin.zeroCells (Value.string ⟨#[]⟩).cells (G - (xs.length + 1))) (Tryz.laysIns_ren.t 9))).drew.heap[w.heap.size]? = some (.cells ((sCells xs).take i ++ List.replicate (xs.length + 1 - i) (Value.string ⟨#[]⟩) ++ List.replicate (G - (xs.length + 1)) (Value.string ⟨#[]⟩)).toArray 9 (0, 0)) := by
     show (w.heap.push _)[w.heap.size]? = _
     rw [Array.getElem?_push_size]
     simp only [Option.some.injEq, Obj.cells.injEq, and_true]
     refine ⟨?_, rfl⟩
     apply Array.ext'
     rw [Array.toList_append, Array.toList_append, zero_cells, zero_cells]
    have hA := heap_setCells_at [.string (str x)] i _ _ hrow (by simp; omega)
    have hA2 := heap_setCells_at ((sCells xs).drop i) (i + 1) ((w.alloc _).drew.setCells w.heap.size i [.string (str x)]).drew _ hA (by simp; omega)
    refine owns_of hB hA2 hG hG2 (by simp; omega) ?_
    rw [hne]
    apply List.ext_getElem?
    intro j
    simp only [Nat.zero_add, List.length_drop, List.length_take, List.length_cons, List.length_nil, List.length_replicate, List.getElem?_take, List.getElem?_append, List.getElem?_drop, List.length_append, List.getElem?_cons, List.getElem?_nil, List.getElem?_replicate, hcl]
    by_cases j1 : j < i
    ·repeat (first | rw [if_pos (by omega)] | rw [if_neg (by omega)])
    ·by_cases j2 : j = i
     ·subst j2
      repeat (first | rw [if_pos (by omega)] | rw [if_neg (by omega)])
     ·by_cases j3 : j < xs.length + 1
      ·repeat (first | rw [if_pos (by omega)] | rw [if_neg (by omega)])
       try (congr 1; omega)
      ·repeat (first | rw [if_pos (by omega)] | rw [if_neg (by omega)])
       rw [List.getElem?_eq_none (by rw [hcl]; omega)]
   ·have e : i = xs.length := by omega
    subst e
    refine (Any2.slices_Insert_string_end_grow Tryz.laysIns (some ⟨g, 0, none⟩) xs.length cap vb 0 1 vc (sCells xs) [.string (str x)] w (by omega) hn (by omega) hbig hcl rfl (fun h => by cases h) (fun a ha j u hj => by cases ha; rw [Addr.add_lit]; exact hcs j u hj) hvs h1v).mono ?_
    rintro e w' ⟨rfl, rfl⟩
    have hG := grownCap_ge w (xs.length + 1) cap (Tryz.laysIns_ren.t 9)
    have hG2 := grownCap_le_maxLen w (xs.length + 1) cap (Tryz.laysIns_ren.t 9) (by unfold maxLen; omega)
    generalize grownCap w (xs.length + 1) cap (Tryz.laysIns_ren.t 9) = G at *
    refine ⟨_, rfl, ?_, (Below.drew (Below.refl _ _)).alloc hB _⟩
    refine owns_of (cur := sCells xs ++ [.string (str x)] ++ List.replicate (G - (xs.length + 1)) (.string ⟨#[]⟩)) hB ?_ hG hG2 (by simp; omega) ?_
    ·show ((w.drew).heap.push _)[w.heap.size]? = _
     rw [show w.heap.size = w.drew.heap.size from rfl, Array.getElem?_push_size]
     simp only [Option.some.injEq, Obj.cells.injEq, and_true]
     refine ⟨?_, rfl⟩
     apply Array.ext'
     rw [Array.toList_append, zero_cells]
    ·rw [hne]
     apply List.ext_getElem?
     intro j
     simp only [Nat.zero_add, List.length_take, List.length_cons, List.length_nil, List.getElem?_take, List.getElem?_append, List.getElem?_drop, List.length_append, List.getElem?_cons, List.getElem?_nil, List.getElem?_replicate, hcl]
     by_cases j1 : j < xs.length
     ·repeat (first | rw [if_pos (by omega)] | rw [if_neg (by omega)])
     ·by_cases j2 : j = xs.length
      ·subst j2
       repeat (first | rw [if_pos (by omega)] | rw [if_neg (by omega)])
      ·by_cases j3 : j < xs.length + 1
       ·omega
       ·repeat (first | rw [if_pos (by omega)] | rw [if_neg (by omega)])
        rw [List.getElem?_eq_none (by rw [hcl]; omega)]
end Go.Proofs.YtmhepfehcakmjaaGreat
