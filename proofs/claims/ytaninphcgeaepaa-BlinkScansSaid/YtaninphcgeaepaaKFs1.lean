import Derived.Test.YtaninphcgeaepaaKFe2
import Derived.Test.YtaninphcgeaepaaKBl11
import Derived.Test.YtaninphcgeaepaaKLexr
import Derived.Laws.OwnMore
import Derived.Test.YtaninphcgeaepaaKAp1
import Derived.Deep.CutRange
import Derived.Test.YtaninphcgeaepaaKRd3
import Derived.Test.YtaninphcgeaepaaKBl1
import Derived.BigQuiet
namespace Go.Proofs.Ytaninphcgeaepaa
open Go.RowKit
variable {F : List Pg} {I : Int → Option Nv} {top : Int} {q : Nat} {v : Nv} {e : En} {lv r : Int} {ks : Ks} {h : Option En} {bs fr : Nat} {w w' : World} {D : Fr} {m : Nat} {iv : Value}
structure Fst (bs fr : Nat) (w : World) (D : Fr) (I : Int → Option Nv) (top : Int) (q : Nat) : Prop where
 tab : ForT bs w fr D
 fo : Fo (pgD D) I top q
 low : bs ≤ w.heap.size
theorem Fst.fits (H : Fst bs fr w D I top q) (g : Grow w w') : Fst bs fr w' D I top q := ⟨H.tab.fits g, H.fo, Nat.le_trans H.low g.size⟩
theorem Fst.but {c t : Nat} {cs : List Value} (H : Fst bs fr w D I top q) (hb : Blk w c t cs) (h1 : t ≠ 31) (h2 : t ≠ 27) (h3 : t ≠ 9) (k : But c w w') : Fst bs fr w' D I top q := ⟨H.tab.but hb h1 h2 h3 k, H.fo, Nat.le_trans H.low k.size⟩
structure At (D : Fr) (I : Int → Option Nv) (e : En) (m : Nat) (v : Nv) (iv : Value) : Prop where
 here : I (m : Int) = some v
 lv : v.lv = 0
 rng : inR v.lo v.hi e
 one : 1 ≤ m
 pg : ∃ hm : m < D.length, D[m] = (nodeP 0 v.ks v.nx v.hi, iv)
 ok : NodeOk 0 v.ks v.nx v.hi
 found : findF (pgD D) 0 e 10000 1 = (m : Int)
theorem Fst.at (H : Fst bs fr w D I top q) (he : enOk e = true) (hq : q ≤ 19000) : ∃ m v iv, At D I e m v iv := by
 obtain ⟨v, hv, hvl, hR⟩ := find_root H.fo ⟨Int.le_refl 0, H.fo.top_nn⟩ he hq
 obtain ⟨hn1, hn2, hn3, hok⟩ := H.fo.here _ _ hv
 obtain ⟨m, hm⟩ := Int.eq_ofNat_of_zero_le (show 0 ≤ findF (pgD D) 0 e 10000 1 by omega)
 rw [hm] at hv
 obtain ⟨h1, hmD, iv, hP⟩ := page_at H.fo hv
 rw [hvl] at hP hok
 exact ⟨m, v, iv, hv, hvl, hR, h1, ⟨hmD, hP⟩, hok, hm⟩
theorem At.lt (A : At D I e m v iv) : m < D.length := A.pg.1
theorem At.page (A : At D I e m v iv) : D[m]'A.lt = (nodeP 0 v.ks v.nx v.hi, iv) := A.pg.2
theorem Fst.mem (H : Fst bs fr w D I top q) (A : At D I e m v iv) (hx : Has I e) : e ∈ keysK v.ks := by
 obtain ⟨n, u, hu, h0, hk⟩ := hx
 have := H.fo.one hu A.here (by rw [h0, A.lv]) (H.fo.range hu h0 hk).2 A.rng
 subst this
 rw [A.here] at hu
 cases hu
 exact hk
theorem At.has (A : At D I e m v iv) (hx : e ∈ keysK v.ks) : Has I e := ⟨_, v, A.here, A.lv, hx⟩
theorem find_st (H : Fst bs fr w D I top q) (A : At D I e m v iv) : Calls Try.prog 9 #[.pointer (some ⟨fr, 0, none⟩), .int .i64 0, enV e] w fun x w' => x = .returned (.int .i64 (m : Int)) ∧ Below w.heap.size w w' := by
 have := finds_any bs fr D 0 e w H.tab
 rw [A.found] at this
 exact this
theorem At.comes (A : At D I e m v iv) (he : enOk e = true) : Comes 0 v.hi e 0 := comes_leaf he A.rng
theorem At.small (_A : At D I e m v iv) (he : enOk e = true) : ((enBytes e []).length : Int) ≤ 140737488355328 := by have := enBytes_31 he; omega
theorem leaveN_nd (H : NodeOk 0 ks r h) : leaveN (nodeP 0 ks r h) e = if e ∈ keysK ks then (some (enBytes e []), 0) else (none, 150) := by
 unfold leaveN entriesOk
 rw [nd_open H, nd_ens H]
 rfl
theorem leave_yes (H : Fst bs fr w D I top q) (A : At D I e m v iv) (hx : e ∈ keysK v.ks) : Calls Try.prog 13 #[pgV (nodeP 0 v.ks v.nx v.hi) iv, .int .i64 (m : Int), enV e] w fun x w' => x = .returned (.tuple #[recV 4 (m : Int) (str (enBytes e [])), .int .i64 0]) ∧ Below w.heap.size w w' := by
 have h1 := leave_any (nodeP 0 v.ks v.nx v.hi) iv (m : Int) e w (for_in H.tab A.lt A.page).1
 unfold LeavePost at h1
 rw [leaveN_nd A.ok, if_pos hx] at h1
 exact h1
theorem out_st (H : Fst bs fr w D I top q) (A : At D I e m v iv) (he : enOk e = true) (hx : e ∈ keysK v.ks) :
  Calls Try.prog 14 #[.pointer (some ⟨fr, 0, none⟩), recV 4 (m : Int) (str (enBytes e []))] w fun x w' => x = .returned (.bool true) ∧ (∃ D', Fst bs fr w' D' (updI I m { v with ks := outK v.ks e }) top q) ∧ Fel bs w w' := by
 refine (does_one bs fr D 4 m (enBytes e []) (nodeP 0 (outK v.ks e) v.nx v.hi) w H.tab H.low A.one A.lt (by decide) (pgFine_nd (out_ok A.ok)) fun u hu => ?_).mono ?_
 ·rw [A.page]
  have h2 := changed_out (nodeP 0 v.ks v.nx v.hi) iv (m : Int) (enBytes e []) e u (for_in (H.tab.fits hu) A.lt A.page).1 (A.small he) (decN_of he)
  rw [rem_nd A.ok hx] at h2
  exact h2
 ·rintro x w' ⟨hx, ⟨iv', hD⟩, hfe⟩
  refine ⟨hx, ⟨_, hD, ?_, Nat.le_trans H.low hfe.low.size⟩, hfe⟩
  have := Fo.out (e := e) H.fo A.here A.lv
  rw [Int.toNat_natCast, show nodeP v.lv (outK v.ks e) v.nx v.hi = nodeP 0 (outK v.ks e) v.nx v.hi by rw [A.lv]] at this
  rw [pgD_set]
  exact this
theorem enter_st (H : Fst bs fr w D I top q) (he : enOk e = true) (hq : q ≤ 500) (told : Bool) :
  Calls Try.prog 8 #[.pointer (some ⟨fr, 0, none⟩), .int .i64 0, enV e, .string (str (enBytes e [])), .bool told] w fun x w' => x = .returned (.bool true) ∧ (∃ D' I' top' q', Fst bs fr w' D' I' top' q' ∧ q' ≤ q + 1 ∧ ∀ x, Has I' x ↔ Has I x ∨ x = e) ∧ Fel bs w w' := by
 refine (enters_leaf bs fr D I top q e told w H.tab H.low H.fo hq he).mono ?_
 rintro x w' ⟨hx, ⟨D', hD, I', top', q', hI, hq', hh⟩, hfe⟩
 exact ⟨hx, ⟨D', I', top', q', ⟨hD, hI, Nat.le_trans H.low hfe.low.size⟩, hq', fun x => by rw [hh]; simp⟩, hfe⟩
def I0 : Int → Option Nv := fun m => if m = 1 then some v0 else none
theorem first_st (bs : Nat) (w w' : World) (hb : bs ≤ w.heap.size) (h : w' = (w.alloc (.cells #[.int .i64 0, .int .i64 0, .int .i64 0, .int .i64 0, .string ⟨#[]⟩, .slice none 0 0, .int .i64 0, .int .i64 3, .int .i64 0, .int .i64 0, .string (str []), .slice none 0 0] 27)).alloc (.cells #[.slice (some ⟨w.heap.size, 0, none⟩) 2 2] 31)) :
  Fst bs (w.heap.size + 1) w' [(zeroP, .slice none 0 0), (leafP, .slice none 0 0)] I0 0 0 ∧ Grow w w' := by
 have hg : Grow w w' := by subst h; exact ((Grow.refl w).alloc _).alloc _
 refine ⟨⟨⟨by omega, ⟨.slice (some ⟨w.heap.size, 0, none⟩) 2 2, ?_, ?_⟩, ?_⟩, fo_first, Nat.le_trans hb hg.size⟩, hg⟩
 ·have := Blk.new (w.alloc (.cells #[.int .i64 0, .int .i64 0, .int .i64 0, .int .i64 0, .string ⟨#[]⟩, .slice none 0 0, .int .i64 0, .int .i64 3, .int .i64 0, .int .i64 0, .string (str []), .slice none 0 0] 27)) 31 [.slice (some ⟨w.heap.size, 0, none⟩) 2 2]
  have e : (w.alloc (.cells #[.int .i64 0, .int .i64 0, .int .i64 0, .int .i64 0, .string ⟨#[]⟩, .slice none 0 0, .int .i64 0, .int .i64 3, .int .i64 0, .int .i64 0, .string (str []), .slice none 0 0] 27)).heap.size = w.heap.size + 1 := by simp
  rw [e] at this
  subst h; exact this
 ·have := World.ownsRow_lit (base := bs) (e := 27) (size := 6) w #[.int .i64 0, .int .i64 0, .int .i64 0, .int .i64 0, .string ⟨#[]⟩, .slice none 0 0, .int .i64 0, .int .i64 3, .int .i64 0, .int .i64 0, .string (str []), .slice none 0 0] 2 hb (by decide) rfl
  have h2 := owns_fits this ((Grow.refl _).alloc (.cells #[.slice (some ⟨w.heap.size, 0, none⟩) 2 2] 31))
  subst h
  exact h2
 ·intro p hp
  simp only [List.mem_cons, List.not_mem_nil, or_false] at hp
  rcases hp with rfl | rfl
  ·exact ⟨ItemsC.nil _, zero_fine⟩
  ·exact ⟨ItemsC.nil _, pgFine_nd empty_ok⟩
end Go.Proofs.Ytaninphcgeaepaa
namespace Go.Proofs.Ytaninphcgeaepaa
open Go.RowKit
variable {I : Int → Option Nv} {top : Int} {q : Nat} {v : Nv} {e : En} {lv r : Int} {ks : Ks} {h : Option En} {bs fr : Nat} {w w' : World} {D : Fr} {m : Nat} {iv : Value}
theorem erow_news {w : World} {v : Value} {l : List En} (h : Row w 36 v l.length (eCells l)) (hl : 0 < l.length) : ∃ ad c, v = .slice (some ad) l.length c ∧ ∀ j u, (eCells l)[j]? = some u → w.cell? (ad.add j) = some u := row_news h hl
theorem eapp_run (ty : TypeId) (B : Nat) (xs ys : List En) (v0 v : Value) (w : World) (h0 : OwnE B w v0 xs) (h : Row w 36 v ys.length (eCells ys)) (hb : xs.length + ys.length ≤ 4398046510976) (hB : B ≤ w.heap.size) :
  ∃ v' w', (Builtin.append_ #[22, 22] ty #[v0, v]).run Try.prog w = .ok v' w' ∧ OwnE B w' v' (xs ++ ys) ∧ w.grownBy w' v0.ownBlock := by
 obtain ⟨iE, hiE, hzE0, hzE1, hzE2⟩ := info_parts infoEntryO
 have some_case : ∀ (ad : Addr) (c : Nat), v = .slice (some ad) ys.length c → (∀ j u, (eCells ys)[j]? = some u → w.cell? (ad.add j) = some u) →
   ∃ v' w', (Builtin.append_ #[22, 22] ty #[v0, v]).run Try.prog w = .ok v' w' ∧ OwnE B w' v' (xs ++ ys) ∧ w.grownBy w' v0.ownBlock := by
  rintro ad c rfl hn
  obtain ⟨v', w', hr, h1, h2, _⟩ := run_append_own_at (P := Try.prog) w B 22 ty 36 iE _ 3 32 Try.underlying22 hiE hzE0 hzE1 hzE2 rfl (by decide) v0 xs.length (eCells xs) h0 ad ys.length c (eCells ys) (by rw [eCells_length, Nat.mul_comm]) hn (fun u hu => eC_one hu) (by unfold maxLen; omega) (by omega) hB
  refine ⟨v', w', hr, ?_, h2⟩
  unfold OwnE
  rw [eCells_append, List.length_append]
  exact h1
 by_cases hl : 0 < ys.length
 ·obtain ⟨ad, c, hv, hn⟩ := erow_news h hl
  exact some_case ad c hv hn
 ·have hy : ys = [] := List.eq_nil_of_length_eq_zero (by omega)
  subst hy
  obtain ⟨a, c, rfl⟩ := en_form h
  cases a with
  | some ad => exact some_case ad c rfl (by simp [eCells])
  | none =>
   refine ⟨v0, w, ?_, by rw [List.append_nil]; exact h0, ⟨rfl, rfl, rfl, Nat.le_refl _, fun _ _ _ => rfl⟩⟩
   rcases h0.2 with ⟨rfl, _⟩ | ⟨g, cap, cur, rfl, _, _, hnc, _⟩
   ·simp [Builtin.append_, run_underlying Try.underlying22, sizeOf, typeInfo, hiE, Builtin.lenOf, Builtin.firstCells]
   ·simp [Builtin.append_, run_underlying Try.underlying22, sizeOf, typeInfo, hiE, Builtin.lenOf, Builtin.firstCells, hnc, storeCells]
theorem wpList_eapp {ops : Array Oper} {rest : List Oper} {o : Oper} {a : Act} {Q : Exit → Act → World → Prop} {w : World} (hgd : o.guard = none) (s x : Operand)
  (ho : o.op = .call { callee := .builtin .append, args := #[s, x], argTypes := #[22, 22] }) (B : Nat) (xs ys : List En) (v0 v : Value) (hs : a.eval s = v0) (hx : a.eval x = v)
  (h0 : OwnE B w v0 xs) (h : Row w 36 v ys.length (eCells ys)) (hb : xs.length + ys.length ≤ 4398046510976) (hB : B ≤ w.heap.size)
  (hk : ∀ b c w', OwnE B w' (.slice b (xs ++ ys).length c) (xs ++ ys) → w.grownBy w' v0.ownBlock → wpList Try.prog ops Q rest (a.put o.dst (.slice b (xs ++ ys).length c)) w') : wpList Try.prog ops Q (o :: rest) a w := by
 obtain ⟨v', w', hr, h1, h2⟩ := eapp_run o.type B xs ys v0 v w h0 h hb hB
 obtain ⟨b, c, rfl⟩ := own_form h1
 exact wpList_upon_append hgd ho hs hx hr (hk b c w' h1 h2)
theorem ownE_nil (B : Nat) (w : World) : OwnE B w (.slice none 0 0) [] := ⟨rfl, .inl ⟨rfl, rfl⟩⟩
theorem Fst.grown {B : Nat} {v0 : Value} {xs : List En} (H : Fst bs fr w D I top q) (h0 : OwnE B w v0 xs) (hg : w.grownBy w' v0.ownBlock) : Fst bs fr w' D I top q := by
 rcases but_grown h0 hg with hb | ⟨g, cs, k, hB, _⟩
 ·exact H.fits hb
 ·exact H.but hB (by decide) (by decide) (by decide) k
theorem grown_below {B : Nat} {v0 : Value} {xs : List En} (h0 : OwnE B w v0 xs) (hg : w.grownBy w' v0.ownBlock) (hB : B ≤ w.heap.size) : Below B w w' := by
 rcases but_grown h0 hg with hb | ⟨g, cs, k, hb, h1⟩
 ·exact hb.mono hB
 ·exact But.below (Below.refl _ _) k h1 hB
theorem entL_nd (H : NodeOk 0 ks r h) : entL (nodeP 0 ks r h) = keysK ks ∧ entC (nodeP 0 ks r h) = 0 := by
 have he : entriesOk (nodeP 0 ks r h) = true := by
  unfold entriesOk
  rw [nd_open H]
  rfl
 unfold entL entC
 rw [he, nd_ens H]
 exact ⟨rfl, rfl⟩
end Go.Proofs.Ytaninphcgeaepaa
namespace Go.Proofs.Ytaninphcgeaepaa
open Go.RowKit
variable {I : Int → Option Nv} {top : Int} {q : Nat} {v : Nv} {e : En} {lv r : Int} {ks : Ks} {h : Option En} {bs fr : Nat} {w w' : World} {D : Fr} {m : Nat} {iv : Value} {A : List En} {x : En}
structure Just (I : Int → Option Nv) (A : List En) : Prop where
 up : Sorted A
 iff : ∀ x, Has I x ↔ x ∈ A
theorem just_first : Just I0 [] := by
 refine ⟨List.Pairwise.nil, fun x => ⟨?_, fun h => by simp at h⟩⟩
 rintro ⟨n, v, hv, _, hk⟩
 unfold I0 at hv
 split at hv
 ·cases hv
  simp [v0, keysK] at hk
 ·cases hv
theorem Just.same {I' : Int → Option Nv} (J : Just I A) (hx : x ∈ A) (h : ∀ y, Has I' y ↔ Has I y ∨ y = x) : Just I' A := by
 refine ⟨J.up, fun y => ?_⟩
 rw [h, J.iff]
 constructor
 ·rintro (h | rfl)
  ·exact h
  ·exact hx
 ·exact .inl
theorem Just.more {I' : Int → Option Nv} (J : Just I A) (hx : x ∉ A) (h : ∀ y, Has I' y ↔ Has I y ∨ y = x) : Just I' (insL A x) := by
 refine ⟨insL_sorted J.up hx, fun y => ?_⟩
 rw [h, J.iff, insL_mem]
 exact or_comm
theorem Just.less {I' : Int → Option Nv} (J : Just I A) {k : Nat} (hk : k < A.length) (h : ∀ y, Has I' y ↔ Has I y ∧ y ≠ A[k]) : Just I' (A.take k ++ A.drop (k + 1)) := by
 rw [← List.eraseIdx_eq_take_drop_succ]
 refine ⟨?_, fun y => ?_⟩
 ·have h1 := J.up
  unfold Sorted at *
  exact h1.sublist (List.eraseIdx_sublist _ _)
 ·rw [h, J.iff, List.mem_eraseIdx_iff_getElem]
  constructor
  ·rintro ⟨hy, hne⟩
   obtain ⟨i, hi, rfl⟩ := List.getElem_of_mem hy
   refine ⟨i, hi, ?_, rfl⟩
   rintro rfl
   exact hne rfl
  ·rintro ⟨i, hi, hne, rfl⟩
   exact ⟨List.getElem_mem hi, fun h3 => hne (sorted_inj J.up hi hk h3)⟩
theorem sorted_head {a : En} {l : List En} (h : Sorted (a :: l)) : (∀ y ∈ l, cmpE a y = -1) ∧ Sorted l := by
 unfold Sorted at *
 exact List.pairwise_cons.1 h
theorem sorted_same : ∀ {a b : List En}, Sorted a → Sorted b → (∀ x, x ∈ a ↔ x ∈ b) → a = b
 | [], [], _, _, _ => rfl
 | [], y :: b, _, _, h => by have := (h y).2 List.mem_cons_self; simp at this
 | x :: a, [], _, _, h => by have := (h x).1 List.mem_cons_self; simp at this
 | x :: a, y :: b, ha, hb, h => by
  obtain ⟨ha1, ha2⟩ := sorted_head ha
  obtain ⟨hb1, hb2⟩ := sorted_head hb
  have hxy : x = y := by
   rcases List.mem_cons.1 ((h x).1 List.mem_cons_self) with h1 | h1
   ·exact h1
   ·rcases List.mem_cons.1 ((h y).2 List.mem_cons_self) with h2 | h2
    ·exact h2.symm
    ·have h3 := hb1 x h1
     have h4 := ha1 y h2
     have := cmpE_neg x y
     omega
  subst hxy
  have hne : ∀ {c : List En}, (∀ y ∈ c, cmpE x y = -1) → x ∉ c := fun hc hx => by
   have := hc x hx
   rw [cmpE_self] at this
   omega
  rw [sorted_same ha2 hb2 fun z => ?_]
  have hz := h z
  rw [List.mem_cons, List.mem_cons] at hz
  constructor
  ·intro h1
   rcases hz.1 (.inr h1) with rfl | h2
   ·exact absurd h1 (hne ha1)
   ·exact h2
  ·intro h1
   rcases hz.2 (.inr h1) with rfl | h2
   ·exact absurd h1 (hne hb1)
   ·exact h2
theorem least_ok : enOk ([0], 0, 0) = true := by decide
theorem least_le {x : En} (hx : enOk x = true) : cmpE ([0], 0, 0) x ≤ 0 := by
 obtain ⟨k, p, s⟩ := x
 unfold enOk inB at hx
 simp at hx
 rcases Decidable.em (0 < cmpE ([0], 0, 0) (k, p, s)) with h | h
 ·exfalso
  have hne : sameE ([0], 0, 0) (k, p, s) = false := by
   unfold sameE
   refine decide_eq_false fun h2 => ?_
   rw [← h2, cmpE_self] at h
   omega
  rw [cmp_two hne] at h
  match k, hx, hne, h with
  | c :: t, hx, hne, h =>
   split at h
   ·omega
   ·rename_i hc
    apply hc
    dsimp only
    by_cases h0 : (0 : UInt8) < c
    ·exact .inl (by simp [Op.bytesLess, h0])
    ·have hc0 : c = 0 := by
      have h1 : ¬ (0 : UInt8).toNat < c.toNat := h0
      apply UInt8.toNat_inj.1
      have h2 : (0 : UInt8).toNat = 0 := rfl
      omega
     subst hc0
     cases t with
     | cons d t => exact .inl (by simp [Op.bytesLess])
     | nil =>
      refine .inr ⟨rfl, ?_⟩
      have hp : ¬ (p = 0 ∧ s = 0) := by
       rintro ⟨rfl, rfl⟩
       unfold sameE at hne
       simp at hne
      omega
 ·omega
theorem Just.scan (J : Just I A) (H : Fst bs fr w D I top q) (T : At D I ([0], 0, 0) m v iv) (hq : q ≤ 19000) : scanF (pgD D) 10000 (m : Int) = A := by
 have hr := H.fo.rkb _ _ T.here
 have hs := H.fo.size
 obtain ⟨h1, h2, h3⟩ := H.fo.scan 10000 (m : Int) v T.here T.lv (by omega)
 refine sorted_same h2 J.up fun x => ?_
 rw [← J.iff]
 refine ⟨fun hx => (h1 x hx).1, fun hx => h3 x hx fun l hl => ?_⟩
 obtain ⟨n, u, hu, hu0, hk⟩ := hx
 exact cmp_lt_le (T.rng.1 l hl) (least_le (H.fo.range hu hu0 hk).1)
theorem row_to {w : World} {a : Option Addr} {c n : Nat} {A : List En} (h : Row w 36 (.slice a n c) n (eCells A)) (hn : n = A.length) {k : Nat} (hk : k ≤ n) : Row w 36 (.slice a k c) (A.take k).length (eCells (A.take k)) := by
 have e : (A.take k).length = k := by rw [List.length_take]; omega
 rw [e]
 rcases h with ⟨h0, h1, _⟩ | ⟨b, off, cap, h1, h2⟩
 ·have hk0 : k = 0 := by omega
  subst hk0
  exact .inl ⟨rfl, by simp [eCells], a, c, rfl⟩
 ·simp only [Value.slice.injEq] at h1
  obtain ⟨rfl, -, rfl⟩ := h1
  refine .inr ⟨b, off, c, rfl, fun j hj => ?_⟩
  have hj2 : j < 3 * k := by rw [eCells_length, e] at hj; exact hj
  have hj3 : j < (eCells A).length := by rw [eCells_length]; omega
  rw [h2 j hj3]
  have h4 : eCells A = eCells (A.take k) ++ eCells (A.drop k) := by rw [← eCells_append, List.take_append_drop]
  congr 1
  simp only [h4]
  rw [List.getElem_append_left hj]
theorem row_from {w : World} {b off c n : Nat} {A : List En} (h : Row w 36 (.slice (some ⟨b, off, none⟩) n c) n (eCells A)) (hn : n = A.length) {k : Nat} (hk : k ≤ n) (c' : Nat) : Row w 36 (.slice (some ⟨b, off + k * 3, none⟩) (n - k) c') (A.drop k).length (eCells (A.drop k)) := by
 have e : (A.drop k).length = n - k := by rw [List.length_drop]; omega
 rw [e]
 refine .inr ⟨b, off + k * 3, c', rfl, fun j hj => ?_⟩
 rcases h with ⟨h0, h1, _⟩ | ⟨b', off', cap, h1, h2⟩
 ·rw [eCells_length, e] at hj
  omega
 ·simp only [Value.slice.injEq, Option.some.injEq, Addr.mk.injEq, and_true] at h1
  obtain ⟨⟨rfl, rfl⟩, -, rfl⟩ := h1
  have hj3 : k * 3 + j < (eCells A).length := by rw [eCells_length] at *; rw [e] at hj; omega
  rw [Nat.add_assoc, h2 _ hj3]
  have h4 : eCells A = eCells (A.take k) ++ eCells (A.drop k) := by rw [← eCells_append, List.take_append_drop]
  have h5 : (eCells (A.take k)).length = k * 3 := by rw [eCells_length, List.length_take]; omega
  congr 1
  simp only [h4]
  rw [List.getElem_append_right (by omega)]
  congr 1
  omega
end Go.Proofs.Ytaninphcgeaepaa
namespace Go.Proofs.Ytaninphcgeaepaa
open Go.RowKit
variable {I : Int → Option Nv} {top : Int} {q : Nat} {v : Nv} {e : En} {lv r : Int} {ks : Ks} {h : Option En} {bs fr : Nat} {w w' : World} {D : Fr} {m : Nat} {iv : Value} {A : List En} {x : En}
theorem bless_none (a : List UInt8) : Op.bytesLess a [] = false := by cases a <;> rfl
theorem hits_all (H : NodeOk 0 ks r h) : hitsL (nodeP 0 ks r h) [] [] = keysK ks ∧ hitsM (nodeP 0 ks r h) [] = !decide (r = 0) := by
 have h1 := entL_nd H
 constructor
 ·unfold hitsL
  rw [h1.1, List.filter_eq_self]
  intro a _
  unfold insideB belowB
  rw [bless_none]
  simp
 ·unfold hitsM belowB
  rw [h1.2]
  show (true && !decide (r = 0) && _) = _
  simp
theorem Fst.ok (H : Fst bs fr w D I top q) (hx : Has I x) : enOk x = true := by
 obtain ⟨n, u, hu, h0, hk⟩ := hx
 exact (H.fo.range hu h0 hk).1
theorem scan_end (F : List Pg) (j : Nat) (n : Int) (h : j = 0 ∨ n ≤ 0) : scanF F j n = [] := by
 cases j with
 | zero => rfl
 | succ j =>
  rw [scanF, if_pos]
  rcases h with h | h
  ·cases h
  ·exact h
theorem Fst.leaf (H : Fst bs fr w D I top q) (hv : I (m : Int) = some v) (h0 : v.lv = 0) : 1 ≤ m ∧ (∃ hm : m < D.length, ∃ iv, D[m] = (nodeP 0 v.ks v.nx v.hi, iv)) ∧ NodeOk 0 v.ks v.nx v.hi ∧ (v.nx = 0 ∨ ∃ u, I v.nx = some u ∧ u.lv = 0) ∧
  ∀ k, k < 10000 → scanF (pgD D) (10000 - k) (m : Int) = keysK v.ks ++ scanF (pgD D) (10000 - (k + 1)) v.nx := by
 obtain ⟨h1, hm, iv, hP⟩ := page_at H.fo hv
 have hok := (H.fo.here _ _ hv).2.2.2
 rw [h0] at hP hok
 refine ⟨h1, ⟨hm, iv, hP⟩, hok, ?_, fun k hk => ?_⟩
 ·cases hh : v.hi with
  | none => exact .inl (H.fo.last _ _ hv hh)
  | some b =>
   obtain ⟨u, h2, h3, _⟩ := H.fo.next _ _ hv b hh
   exact .inr ⟨u, h2, by omega⟩
 ·have hpg := H.fo.page hv
  rw [h0] at hpg
  rw [show 10000 - k = (10000 - (k + 1)) + 1 by omega, scanF, if_neg (by omega), hpg, nd_ens hok]
  rfl
theorem mod_at (o : Int) {n : Nat} (hn : 0 < n) : ∃ k : Nat, k < n ∧ ((o.tmod (n : Int) < 0 ∧ o.tmod (n : Int) + (n : Int) = (k : Int)) ∨ (¬ o.tmod (n : Int) < 0 ∧ o.tmod (n : Int) = (k : Int))) := by
 have h1 : o.tmod (n : Int) < (n : Int) := Int.tmod_lt_of_pos o (by omega)
 have h2 : -(n : Int) < o.tmod (n : Int) := by
  have h3 := Int.tmod_lt_of_pos (-o) (show (0 : Int) < (n : Int) by omega)
  rw [Int.neg_tmod] at h3
  omega
 rcases Decidable.em (o.tmod (n : Int) < 0) with h | h
 ·exact ⟨(o.tmod (n : Int) + (n : Int)).toNat, by omega, .inl ⟨h, by omega⟩⟩
 ·exact ⟨(o.tmod (n : Int)).toNat, by omega, .inr ⟨h, by omega⟩⟩
theorem ownE_cap {B n c : Nat} {w : World} {a : Option Addr} {A : List En} (h : OwnE B w (.slice a n c) A) : A.length ≤ c ∧ (a = none → A = [] ∧ c = 0) ∧ ∀ ad, a = some ad → ∃ g, ad = ⟨g, 0, none⟩ := by
 have hl := h.1
 rcases h.2 with ⟨h0, h1⟩ | ⟨g, cap, cur, h0, _, _, h2, _⟩
 ·simp only [Value.slice.injEq] at h0
  obtain ⟨rfl, rfl, rfl⟩ := h0
  exact ⟨by omega, fun _ => ⟨List.eq_nil_of_length_eq_zero h1, rfl⟩, fun ad h => by cases h⟩
 ·simp only [Value.slice.injEq] at h0
  obtain ⟨rfl, _, rfl⟩ := h0
  exact ⟨h2, fun h => (by cases h), fun ad h => by cases h; exact ⟨g, rfl⟩⟩
end Go.Proofs.Ytaninphcgeaepaa
namespace Go.Proofs.Ytaninphcgeaepaa
open Go.RowKit
attribute [local simp] eql_entry
attribute [local go_sem] guard_entry
attribute [local go_sem] givesF_none givesF_some evalF_tmp evalF_const evalF_global evalF_func lookL isB_bool isB_undef givesUpon_value givesUpon_skip givesUpon_enter
def ScInv (bs fr : Nat) (w_ : World) (qm : Nat) (va : Value) (wr : World) (D : Fr) (I : Int → Option Nv) (top : Int) (q : Nat) (A : List En) : Prop := Kept (Fst bs fr wr D I top q) ∧ Kept (q ≤ qm) ∧ Kept (OwnE bs wr va A) ∧ Kept (Just I A) ∧ Kept (A.length ≤ qm) ∧ Kept (Below bs w_ wr)
def S1Rel (bs fr n9 : Nat) (w_ : World) (va i : Value) (wr : World) : Prop := ∃ (n : Nat) (D : Fr) (I : Int → Option Nv) (top : Int) (q : Nat) (A : List En), n ≤ n9 ∧ n ≤ 200 ∧ i = .int .i64 n ∧ ScInv bs fr w_ n va wr D I top q A
def ScCut (bs fr : Nat) (w_ : World) (va : Value) (wr : World) : Prop := ∃ (D : Fr) (I : Int → Option Nv) (top : Int) (q : Nat) (A : List En), ScInv bs fr w_ 200 va wr D I top q A
def S3Rel (bs fr n9 : Nat) (w_ : World) (va i : Value) (wr : World) : Prop := ∃ (n : Nat) (D : Fr) (I : Int → Option Nv) (top : Int) (q : Nat) (A : List En), n ≤ n9 ∧ i = .int .i64 n ∧ ScInv bs fr w_ 200 va wr D I top q A
def CmRel (A : List En) (x : En) (w5 : World) (i : Value) (wr : World) : Prop := ∃ k : Nat, k ≤ posE A x ∧ i = .int .i64 k ∧ Kept (Grow w5 wr)
def S4Rel (D : Fr) (I : Int → Option Nv) (A : List En) (wC : World) (pv sv kv : Value) (wr : World) : Prop := ∃ (k : Nat) (p : Int) (S : List En), k ≤ 10000 ∧ kv = .int .i64 k ∧ pv = .int .i64 p ∧ Kept (OwnE wC.heap.size wr sv S) ∧ Kept (S ++ scanF (pgD D) (10000 - k) p = A) ∧ Kept (p = 0 ∨ ∃ u, I p = some u ∧ u.lv = 0) ∧ Kept (Grow wC wr)
theorem str_zero9 : str [0] = ⟨#[0]⟩ := rfl
theorem str_nil9 : str [] = ⟨#[]⟩ := rfl
theorem scInv_mono {bs fr qm qn : Nat} {w_ wr : World} {va : Value} {D : Fr} {I : Int → Option Nv} {top : Int} {q : Nat} {A : List En} (h : ScInv bs fr w_ qm va wr D I top q A) (hq : qm ≤ qn) : ScInv bs fr w_ qn va wr D I top q A :=
 ⟨h.1, keep (Nat.le_trans h.2.1.out hq), h.2.2.1, h.2.2.2.1, keep (Nat.le_trans h.2.2.2.2.1.out hq), h.2.2.2.2.2⟩
theorem scInv_grow {bs fr qm : Nat} {w_ wr w' : World} {va : Value} {D : Fr} {I : Int → Option Nv} {top : Int} {q : Nat} {A : List En} (h : ScInv bs fr w_ qm va wr D I top q A) (hg : Grow wr w') : ScInv bs fr w_ qm va w' D I top q A :=
 ⟨keep (h.1.out.fits hg), h.2.1, keep (owns_fits h.2.2.1.out hg), h.2.2.2.1, h.2.2.2.2.1, keep (h.2.2.2.2.2.out.trans (hg.mono h.1.out.low))⟩
theorem ownE_len {B n c : Nat} {w : World} {a : Option Addr} {L : List En} (h : OwnE B w (.slice a L.length c) L) (e : L.length = n) : OwnE B w (.slice a n c) L := by subst e; exact h
theorem encN_ok8 {e : En} (h : enOk e = true) : encN e = (enBytes e [], 0) := by unfold encN; rw [h]; rfl
theorem encN_no8 {e : En} (h : enOk e = false) : encN e = ([], 140) := by unfold encN; rw [h]; rfl
set_option maxRecDepth 100000 in
set_option maxHeartbeats 16000000 in
theorem scans_any (l : List En) (va : Value) (os : List Int) (vo : Value) (w_ : World) (hl : Row w_ 36 va l.length (eCells l)) (ho : Ints w_ vo os) (hol : (os.length : Int) ≤ 17592186043904) (how : ∀ x ∈ os, IntKind.i64.wrap x = x) :
  Calls Try.prog 4 #[va, vo] w_ fun x w' => x = .returned (.bool true) ∧ Below w_.heap.size w_ w' := by
 obtain ⟨la, lc, rfl⟩ := en_form hl
 obtain ⟨ta, tc, rfl⟩ := row_slice ho
 have HL := keep hl
 have HT := keep ho
 have HTl := keep hol
 have HTw := keep how
 clear hl ho hol how
 go_enter Try.func4, Try.ntmps4
 go_wp2_with fail
 refine (leaf_any w_).mono ?_
 rintro x w1 ⟨rfl, hb1⟩
 unfold pgV leafP
 go_upto_block 0 with fail
 obtain ⟨w2, hw2⟩ : ∃ w2, w2 = (w1.alloc (.cells #[.int .i64 0, .int .i64 0, .int .i64 0, .int .i64 0, .string ⟨#[]⟩, .slice none 0 0, .int .i64 0, .int .i64 3, .int .i64 0, .int .i64 0, .string (str []), .slice none 0 0] 27)).alloc (.cells #[.slice (some ⟨w1.heap.size, 0, none⟩) 2 2] 31) := ⟨_, rfl⟩
 rw [← hw2]
 obtain ⟨hS2, hg2⟩ := first_st w_.heap.size w1 w2 hb1.size hw2
 have HS2 := keep hS2
 have HG2 := keep (Grow.trans hb1 hg2)
 generalize w1.heap.size + 1 = fr at *
 clear hw2 hS2 hb1 hg2
 go_cut [6, 7, 8, 9, 10, 11] from 29 to 106 (fun s6 _ _ _ _ _ wx => ScCut w_.heap.size fr w_ s6 wx)
 case first =>
  go_wp2_with fail
  go_loopw [6, 7] (fun va i wr => S1Rel w_.heap.size fr l.length w_ va i wr) (fun _ i _ => l.length - (intOf i).toNat)
  case atStart => exact show S1Rel _ _ _ _ _ _ _ from ⟨0, _, _, _, _, [], Nat.zero_le _, by omega, rfl, HS2, keep (Nat.le_refl _), keep (ownE_nil _ _), keep just_first, keep (Nat.le_refl _), HG2⟩
  case round =>
   obtain ⟨n, D, I, top, q, A, hn1, hn2, rfl, HI⟩ := hrel
   have HIn := keep HI
   obtain ⟨HS, HQ, HO, HJ, HAl, HF⟩ := HI
   obtain ⟨ga, gc, rfl⟩ := own_form HO.out
   by_cases h1 : n < l.length
   ·by_cases h2 : n < 200
    ·obtain ⟨c1, off1, cap1, e1, hc1⟩ := en_at HL.out h1
     simp only [Value.slice.injEq] at e1
     obtain ⟨rfl, -, rfl⟩ := e1
     have hgr : Grow w_ wr := HF.out
     have henc := encode_any l[n] wr
     have hent := fun (u : World) (hu : Grow wr u) (he : enOk l[n] = true) => enter_st (HS.out.fits hu) he (by have := HQ.out; omega) true
     have hcmp := fun (k : Nat) (hk : k < A.length) (u : World) => rcompare_any A[k] l[n] u
     generalize l[n] = x at *
     obtain ⟨xk, xp, xq⟩ := x
     dsimp only at hc1
     have HC0 := keep hc1
     have HC := keep (fun (u : World) (hu : Grow wr u) => hc1 u (Grow.trans hgr hu))
     obtain ⟨a0, a1, a2⟩ := HC.out wr (Grow.refl _)
     unfold enV at henc hent hcmp
     dsimp only at henc hent hcmp
     cases hok : enOk (xk, xp, xq) with
     | true =>
      rw [encN_ok8 hok] at henc
      have HEnc := keep henc
      have HOk := keep hok
      have HEnt := keep (fun (u : World) (hu : Grow wr u) => hent u hu hok)
      have HCmp := keep hcmp
      clear hc1 hgr henc hent hok hcmp
      go_wp2_with fail
      refine HEnc.out.mono ?_
      rintro x w3 ⟨rfl, hb3⟩
      clear a0 a1 a2
      obtain ⟨a0, a1, a2⟩ := HC.out w3 hb3
      have HG3 := keep hb3
      clear hb3 HEnc
      go_wp2_with fail
      refine (HEnt.out w3 HG3.out).mono ?_
      rintro x w5 ⟨rfl, ⟨D', I', top', q', hS', hq', hh⟩, hfe⟩
      have HS5 := keep hS'
      have HQ5 := keep (show q' ≤ n + 1 by have := HQ.out; omega)
      have HF5 := keep ((HF.out.trans (HG3.out.mono HS.out.low)).trans hfe.low)
      have HO5 := keep (owns_fel (owns_fits HO.out HG3.out) hfe (by decide) (by decide))
      have HH5 := keep hh
      clear hS' hq' hh hfe HEnt a0 a1 a2 HC
      go_wp2_with fail
      go_loopw [10] (fun i wr => CmRel A (xk, xp, xq) w5 i wr) (fun i _ => A.length - (intOf i).toNat)
      case atStart => exact show CmRel _ _ _ _ _ from ⟨0, Nat.zero_le _, rfl, keep (Grow.refl _)⟩
      case round =>
       obtain ⟨k, hk, rfl, HG6⟩ := hrel
       have hAl := HAl.out
       have hple := posE_le A (xk, xp, xq)
       obtain ⟨a0, a1, a2⟩ := HC0.out wr (HF5.out.trans (HG6.out.mono HS5.out.low))
       by_cases hlt : k < A.length
       ·obtain ⟨c4, off4, cap4, e4, hc4⟩ := en_at (OwnE.ens HO5.out).weak hlt
        simp only [Value.slice.injEq] at e4
        obtain ⟨rfl, -, rfl⟩ := e4
        have hcm := fun (u : World) => HCmp.out k hlt u
        have hpi := pos_iff (t := (xk, xp, xq)) HJ.out.up k hlt
        have hmem := mem_pos (t := (xk, xp, xq)) HJ.out.up
        have hAk : ∃ y, A[k] = y := ⟨_, rfl⟩
        obtain ⟨y, hy⟩ := hAk
        rw [hy] at hcm hpi hc4
        have hye : k = posE A (xk, xp, xq) → ((xk, xp, xq) ∈ A ↔ y = (xk, xp, xq)) := by
         intro hkp
         subst hkp
         rw [hmem]
         constructor
         ·rintro ⟨h3, h4⟩
          exact hy.symm.trans h4
         ·intro h3
          exact ⟨hlt, hy.trans h3⟩
        have HCm := keep hcm
        have HYe := keep hye
        clear hcm hmem hye hy
        obtain ⟨yk, yp, yq⟩ := y
        dsimp only at hc4
        have HC4 := keep (fun (u : World) (hu : Grow wr u) => hc4 u (Grow.trans HG6.out hu))
        clear hc4
        have hcm2 := HCm.out
        unfold enV at hcm2
        dsimp only at hcm2
        have HCm2 := keep (fun (u : World) (hu : Grow wr u) => hcm2 u)
        clear hcm2 HCm
        have HPi := keep hpi
        clear hpi
        go_upto_region 11 with fail
        have heL : decide (k < A.length) = true := decide_eq_true hlt
        refine wp_region_grow_named (by kernel_rfl) 13 (by kernel_rfl) [(57, 0), (58, 1), (59, 2), (60, 3), (61, 4), (62, 5), (63, 6), (64, 7), (65, 8), (66, 9), (67, 10), (68, 11), (69, 12)] (by kernel_rfl) [(0, true), (1, true), (2, true), (3, true), (4, true), (5, true), (6, true), (7, true), (8, true), (9, true), (10, true), (11, true), (12, true)] (by kernel_rfl) rfl rfl ?_
        intro a0 ha0
        have hsz : a0.tmps.size = 229 := (size_at ha0).trans rfl
        have s0 := slot_at ha0 0 rfl
        have s6 := slot_at ha0 6 rfl
        have s7 := slot_at ha0 7 rfl
        have s10 := slot_at ha0 10 rfl
        have HA0 := keep ha0
        clear ha0
        apply lq hsz [] [(58, 1), (59, 2), (61, 4), (62, 5), (63, 6), (64, 7), (65, 8), (66, 9), (67, 10), (68, 11), (69, 12), (70, 13), (71, 14), (72, 15)] none (by kernel_rfl) rfl
        ·intro xs w hw hp K hK
         go_simp
         exact hK _ (Grow.refl _)
        apply lq hsz [] [(57, 0), (60, 3), (61, 4), (62, 5), (63, 6), (64, 7), (65, 8), (66, 9), (67, 10), (68, 11), (69, 12), (70, 13), (71, 14), (72, 15)] none (by kernel_rfl) rfl
        ·intro xs w hw hp K hK
         go_simp
         exact hK _ (Grow.refl _)
        apply lq hsz [(1, true)] [(57, 0), (58, 1), (61, 4), (62, 5), (63, 6), (64, 7), (65, 8), (66, 9), (67, 10), (68, 11), (69, 12), (70, 13), (71, 14), (72, 15)] none (by kernel_rfl) rfl
        ·intro xs w hw hp K hK
         simp only [holdsL, List.nil_append, List.cons_append, List.getD_cons_succ, List.getD_cons_zero, if_true, and_true] at hp
         go_simp
         exact hK _ (Grow.refl _)
        apply lq hsz [(0, true), (2, true)] [(57, 0), (58, 1), (59, 2), (62, 5), (63, 6), (64, 7), (65, 8), (66, 9), (67, 10), (68, 11), (69, 12), (70, 13), (71, 14), (72, 15)] none (by kernel_rfl) rfl
        ·intro xs w hw hp K hK
         simp only [holdsL, List.nil_append, List.cons_append, List.getD_cons_succ, List.getD_cons_zero, if_true, and_true] at hp
         go_simp
         exact hK _ (Grow.refl _)
        apply lq hsz [(3, true)] [(57, 0), (58, 1), (59, 2), (60, 3)] none (by kernel_rfl) rfl
        ·intro xs w hw hp K hK
         simp only [holdsL, List.nil_append, List.cons_append, List.getD_cons_succ, List.getD_cons_zero, if_true, and_true] at hp
         go_simp
         exact hK _ (Grow.refl _)
        apply lq hsz [(4, true)] [(57, 0), (58, 1), (59, 2), (60, 3), (61, 4), (63, 6), (65, 8), (66, 9), (67, 10), (68, 11), (69, 12), (70, 13), (71, 14), (72, 15)] (some (61, true)) (by kernel_rfl) rfl
        ·intro xs w hw hp K hK
         simp only [holdsL, List.nil_append, List.cons_append, List.getD_cons_succ, List.getD_cons_zero, if_true, and_true] at hp
         go_simp
         exact hK _ (Grow.refl _)
        apply lq hsz [(4, true)] [(57, 0), (58, 1), (59, 2), (60, 3), (61, 4), (62, 5), (65, 8), (66, 9), (67, 10), (68, 11), (69, 12), (70, 13), (71, 14), (72, 15)] (some (61, true)) (by kernel_rfl) rfl
        ·intro xs w hw hp K hK
         simp only [holdsL, List.nil_append, List.cons_append, List.getD_cons_succ, List.getD_cons_zero, if_true, and_true] at hp
         go_simp
         exact hK _ (Grow.refl _)
        apply lq hsz [(4, true), (5, true), (6, true)] [(57, 0), (58, 1), (59, 2), (60, 3), (61, 4), (62, 5), (63, 6), (66, 9), (67, 10), (68, 11), (69, 12), (70, 13), (71, 14), (72, 15)] (some (61, true)) (by kernel_rfl) rfl
        ·intro xs w hw hp K hK
         simp only [holdsL, List.nil_append, List.cons_append, List.getD_cons_succ, List.getD_cons_zero, if_true, and_true] at hp
         go_simp
         exact hK _ (Grow.refl _)
        apply lq hsz [(4, true), (7, true)] [(57, 0), (58, 1), (59, 2), (60, 3), (61, 4), (62, 5), (63, 6), (64, 7), (66, 9), (67, 10), (68, 11), (69, 12), (71, 14), (72, 15)] (some (61, true)) (by kernel_rfl) rfl
        ·intro xs w hw hp K hK
         simp only [holdsL, List.nil_append, List.cons_append, List.getD_cons_succ, List.getD_cons_zero, if_true, and_true] at hp
         obtain ⟨b0, b1, b2⟩ := HC4.out w (Grow.undrew hw)
         go_simp
         exact hK _ (Grow.refl _)
        apply lq hsz [(4, true)] [(57, 0), (58, 1), (59, 2), (60, 3), (61, 4), (62, 5), (63, 6), (64, 7), (65, 8), (67, 10), (69, 12), (70, 13), (71, 14), (72, 15)] (some (61, true)) (by kernel_rfl) rfl
        ·intro xs w hw hp K hK
         simp only [holdsL, List.nil_append, List.cons_append, List.getD_cons_succ, List.getD_cons_zero, if_true, and_true] at hp
         go_simp
         exact hK _ (Grow.refl _)
        apply lq hsz [(4, true)] [(57, 0), (58, 1), (59, 2), (60, 3), (61, 4), (62, 5), (63, 6), (64, 7), (65, 8), (66, 9), (69, 12), (70, 13), (71, 14), (72, 15)] (some (61, true)) (by kernel_rfl) rfl
        ·intro xs w hw hp K hK
         simp only [holdsL, List.nil_append, List.cons_append, List.getD_cons_succ, List.getD_cons_zero, if_true, and_true] at hp
         go_simp
         exact hK _ (Grow.refl _)
        apply lq hsz [(4, true), (9, true), (10, true)] [(57, 0), (58, 1), (59, 2), (60, 3), (61, 4), (62, 5), (63, 6), (64, 7), (65, 8), (66, 9), (67, 10), (70, 13), (71, 14), (72, 15)] (some (61, true)) (by kernel_rfl) rfl
        ·intro xs w hw hp K hK
         simp only [holdsL, List.nil_append, List.cons_append, List.getD_cons_succ, List.getD_cons_zero, if_true, and_true] at hp
         go_simp
         exact hK _ (Grow.refl _)
        apply lq hsz [(4, true), (11, true)] [(57, 0), (58, 1), (59, 2), (60, 3), (61, 4), (62, 5), (63, 6), (64, 7), (65, 8), (66, 9), (67, 10), (68, 11), (71, 14), (72, 15)] (some (61, true)) (by kernel_rfl) rfl
        ·intro xs w hw hp K hK
         simp only [holdsL, List.nil_append, List.cons_append, List.getD_cons_succ, List.getD_cons_zero, if_true, and_true] at hp
         obtain ⟨a0, a1, a2⟩ := HC0.out w (HF5.out.trans ((Grow.trans HG6.out (Grow.undrew hw)).mono HS5.out.low))
         go_simp
         exact hK _ (Grow.refl _)
        intro xs w hw hp
        have ha0 := HA0.out
        clear HA0 hsz s0 s6 s7 s10
        simp only [holdsL, List.nil_append, List.cons_append, List.getD_cons_succ, List.getD_cons_zero, if_true, and_true] at hp
        have h61 := hp.2.2.2.2.1
        have h65 := hp.2.2.2.2.2.2.2.2.1
        have h69 := hp.2.2.2.2.2.2.2.2.2.2.2.2
        clear hp
        subst ha0
        simp only [putAll, h61, h65, h69]
        have hg8 := hw.undrew
        clear hw h61 h65 h69 a0 a1 a2 heL
        go_frame
        go_wp2_with fail
        refine (HCm2.out w hg8).mono ?_
        rintro x w7 ⟨rfl, hb7⟩
        have hg := Grow.trans hg8 hb7
        have HG7 := keep (Grow.trans HG6.out hg)
        have HG67 := keep hg
        clear hg8 hb7 hg
        by_cases hneg : cmpE (yk, yp, yq) (xk, xp, xq) < 0
        ·have eN : decide (cmpE (yk, yp, yq) (xk, xp, xq) < 0) = true := decide_eq_true hneg
         have hk2 : k < posE A (xk, xp, xq) := HPi.out.1 hneg
         have HK2 := keep hk2
         clear hneg hk2
         go_wp2_with fail
         go_roundw
         case rel => exact show CmRel _ _ _ _ _ from ⟨k + 1, HK2.out, by go_num, HG7⟩
         case measure => simp [intOf]; omega
        ·have eN : decide (cmpE (yk, yp, yq) (xk, xp, xq) < 0) = false := decide_eq_false hneg
         have hk2 : k = posE A (xk, xp, xq) := by
          have : ¬ k < posE A (xk, xp, xq) := fun h => hneg (HPi.out.2 h)
          omega
         have HK2 := keep hk2
         clear hneg hk2 hk
         obtain ⟨a0, a1, a2⟩ := HC0.out w7 (HF5.out.trans (HG7.out.mono HS5.out.low))
         obtain ⟨b0, b1, b2⟩ := HC4.out w7 HG67.out
         go_upto_region 13 with fail
         go_quiet (fail)
         have HG8 := keep (below_drewN HG7.out nq)
         generalize World.drewN w7 nq = w8 at *
         clear a0 a1 a2 b0 b1 b2 eN
         cases hsm : sameE (yk, yp, yq) (xk, xp, xq) with
         | true =>
          have hin : (xk, xp, xq) ∈ A := (HYe.out HK2.out).2 (of_decide_eq_true hsm)
          have HJ9 := keep (HJ.out.same hin HH5.out)
          clear hin hsm
          go_wp2_with fail
          go_roundw
          case rel => exact show S1Rel _ _ _ _ _ _ _ from ⟨n + 1, _, _, _, _, A, h1, by omega, by go_num, keep (HS5.out.fits HG8.out), HQ5, keep (owns_fits HO5.out HG8.out), HJ9, keep (by have := HAl.out; omega), keep (HF5.out.trans (HG8.out.mono HS5.out.low))⟩
          case measure => simp [intOf]; omega
         | false =>
          have hnin : (xk, xp, xq) ∉ A := fun hin => by
           have := (HYe.out HK2.out).1 hin
           unfold sameE at hsm
           exact absurd this (of_decide_eq_false hsm)
          have HNin := keep hnin
          have HKl := keep (Nat.le_of_lt hlt)
          clear hnin hsm hlt hple
          obtain ⟨hgc, hnil, hsome⟩ := ownE_cap HO5.out
          obtain ⟨T1, hT1⟩ : ∃ T, T = A.take k := ⟨_, rfl⟩
          obtain ⟨T2, hT2⟩ : ∃ T, T = A.drop k := ⟨_, rfl⟩
          have hr1 : Row w8 36 (.slice (some ⟨c4, off4, none⟩) k gc) T1.length (eCells T1) := by rw [hT1]; exact row_to ((OwnE.ens HO5.out).weak.fits HG8.out) rfl HKl.out
          have hl12 : T1.length + T2.length = A.length := by rw [hT1, hT2, List.length_take, List.length_drop]; have := HKl.out; omega
          have hkc : k ≤ gc := Nat.le_trans HKl.out hgc
          have hkA := HKl.out
          have HR1 := keep hr1
          have HT12 := keep hl12
          have HIns := keep (show T1 ++ [(xk, xp, xq)] ++ T2 = insL A (xk, xp, xq) by rw [hT1, hT2, HK2.out]; unfold insL; simp)
          have HS8 := keep (HS5.out.fits HG8.out)
          have HT2 := keep hT2
          have HGc := keep hgc
          have HNl := keep hnil
          have HSm := keep hsome
          clear hT1 hT2 hr1 hl12 hgc hnil hsome hAl
          go_upto_region 16 with (at_builtin; go_must (refine wpList_eapp rfl _ _ rfl w8.heap.size [] T1 _ _ rfl rfl (ownE_nil _ _) HR1.out (by have := HT12.out; have := HAl.out; simp; omega) (Nat.le_refl _) ?_); intro oa oc wa ho hg; have HOa := keep (show OwnE w8.heap.size wa (.slice oa T1.length oc) T1 from ho); have HSa := keep (HS8.out.grown (ownE_nil w8.heap.size w8) hg); have HBa := keep (grown_below (ownE_nil w8.heap.size w8) hg (Nat.le_refl _)); clear ho hg)
          obtain ⟨a0, a1, a2⟩ := HC0.out wa (HF5.out.trans ((Grow.trans HG8.out HBa.out).mono HS5.out.low))
          go_upto_region 17 with (at_builtin; go_must (refine wpList_eapp rfl _ _ rfl w8.heap.size T1 [(xk, xp, xq)] _ _ rfl rfl (owns_fits HOa.out ((Grow.refl _).alloc _)) (en_mark _ xk xp xq) (by have := HT12.out; have := HAl.out; simp; omega) (by have := HBa.out.size; simp; omega) ?_); intro ob oc2 wb ho hg; have HOb := keep (show OwnE w8.heap.size wb (.slice ob (T1.length + 1) oc2) (T1 ++ [(xk, xp, xq)]) by have h := ho; rw [List.length_append] at h; exact h); have HSb := keep ((HSa.out.fits ((Grow.refl _).alloc _)).grown (owns_fits HOa.out ((Grow.refl _).alloc (.cells #[.string (str xk), .int .i64 xp, .int .i64 xq] 36))) hg); have HBb := keep ((((Grow.refl wa).alloc (.cells #[.string (str xk), .int .i64 xp, .int .i64 xq] 36)).mono HBa.out.size |> HBa.out.trans).trans (grown_below (owns_fits HOa.out ((Grow.refl _).alloc (.cells #[.string (str xk), .int .i64 xp, .int .i64 xq] 36))) hg (by have := HBa.out.size; simp; omega))); clear ho hg)
          clear a0 a1 a2
          by_cases hcap : gc = k
          ·subst hcap
           have hr2 : ∀ c', Row wb 36 (.slice (some ⟨c4, off4, none⟩) (A.length - gc) c') T2.length (eCells T2) := by
            intro c'
            rw [show T2 = [] by rw [HT2.out]; exact List.drop_eq_nil_of_le HGc.out, show A.length - gc = 0 by have := HGc.out; omega]
            exact Row.nil _ _ _ _
           have HR2 := keep hr2
           clear hr2
           go_wp2_with (at_builtin; go_must (refine wpList_eapp rfl _ _ rfl w8.heap.size (T1 ++ [(xk, xp, xq)]) T2 _ _ rfl rfl HOb.out (HR2.out _) (by have := HT12.out; have := HAl.out; simp; omega) HBb.out.size ?_); intro oe oc3 wc ho hg; have HOc := keep ho; have HSc := keep (HSb.out.grown HOb.out hg); have HBc := keep (HBb.out.trans (grown_below HOb.out hg HBb.out.size)); clear ho hg)
           go_wp2_with fail
           go_roundw
           case rel => exact show S1Rel _ _ _ _ _ _ _ from ⟨n + 1, _, _, _, _, insL A (xk, xp, xq), h1, by omega, by go_num, HSc, HQ5, keep (ownE_len (by have h : OwnE w_.heap.size wc _ _ := owns_low HOc.out (Nat.le_trans HS5.out.low HG8.out.size); rw [HIns.out] at h; exact h) (by rw [insL_length]; have := HT12.out; omega)), keep (HJ.out.more HNin.out HH5.out), keep (by rw [insL_length]; have := HAl.out; omega), keep (HF5.out.trans ((Grow.trans HG8.out HBc.out).mono HS5.out.low))⟩
           case measure => simp [intOf]; omega
          ·skip
           have hr2 : ∀ c', Row wb 36 (.slice (some ⟨c4, off4 + k * 3, none⟩) (A.length - k) c') T2.length (eCells T2) := by
            intro c'
            rw [HT2.out]
            have h := row_from (((OwnE.ens HO5.out).weak.fits HG8.out).fits HBb.out) rfl HKl.out c'
            exact h
           have HR2 := keep hr2
           have hcap2 : (gc = k) = False := eq_false hcap
           clear hr2 hcap
           go_wp2_with (at_builtin; go_must (refine wpList_eapp rfl _ _ rfl w8.heap.size (T1 ++ [(xk, xp, xq)]) T2 _ _ rfl rfl HOb.out (HR2.out _) (by have := HT12.out; have := HAl.out; simp; omega) HBb.out.size ?_); intro oe oc3 wc ho hg; have HOc := keep ho; have HSc := keep (HSb.out.grown HOb.out hg); have HBc := keep (HBb.out.trans (grown_below HOb.out hg HBb.out.size)); clear ho hg)
           go_wp2_with fail
           go_roundw
           case rel => exact show S1Rel _ _ _ _ _ _ _ from ⟨n + 1, _, _, _, _, insL A (xk, xp, xq), h1, by omega, by go_num, HSc, HQ5, keep (ownE_len (by have h : OwnE w_.heap.size wc _ _ := owns_low HOc.out (Nat.le_trans HS5.out.low HG8.out.size); rw [HIns.out] at h; exact h) (by rw [insL_length]; have := HT12.out; omega)), keep (HJ.out.more HNin.out HH5.out), keep (by rw [insL_length]; have := HAl.out; omega), keep (HF5.out.trans ((Grow.trans HG8.out HBc.out).mono HS5.out.low))⟩
           case measure => simp [intOf]; omega
       ·have hk2 : k = posE A (xk, xp, xq) := by omega
        have hnin : (xk, xp, xq) ∉ A := fun hin => by
         obtain ⟨h3, _⟩ := (mem_pos (t := (xk, xp, xq)) HJ.out.up).1 hin
         omega
        have hkA : k ≤ A.length := by omega
        have HNin := keep hnin
        have HK2 := keep hk2
        have HKl := keep hkA
        have heL : decide (k < A.length) = false := decide_eq_false hlt
        clear hnin hk2 hkA hk hple hlt
        go_upto_region 11 with fail
        go_quiet (fail)
        have HG7 := keep (below_drewN HG6.out nq)
        generalize World.drewN wr nq = w7 at *
        go_upto_region 13 with fail
        go_quiet (fail)
        have HG8 := keep (below_drewN HG7.out nq)
        generalize World.drewN w7 nq = w8 at *
        clear a0 a1 a2 heL
        obtain ⟨hgc, hnil, hsome⟩ := ownE_cap HO5.out
        obtain ⟨T1, hT1⟩ : ∃ T, T = A.take k := ⟨_, rfl⟩
        obtain ⟨T2, hT2⟩ : ∃ T, T = A.drop k := ⟨_, rfl⟩
        have hr1 : Row w8 36 (.slice ga k gc) T1.length (eCells T1) := by rw [hT1]; exact row_to ((OwnE.ens HO5.out).weak.fits HG8.out) rfl HKl.out
        have hl12 : T1.length + T2.length = A.length := by rw [hT1, hT2, List.length_take, List.length_drop]; have := HKl.out; omega
        have hkc : k ≤ gc := Nat.le_trans HKl.out hgc
        have hkA := HKl.out
        have HR1 := keep hr1
        have HT12 := keep hl12
        have HIns := keep (show T1 ++ [(xk, xp, xq)] ++ T2 = insL A (xk, xp, xq) by rw [hT1, hT2, HK2.out]; unfold insL; simp)
        have HS8 := keep (HS5.out.fits HG8.out)
        have HT2 := keep hT2
        have HGc := keep hgc
        have HNl := keep hnil
        have HSm := keep hsome
        clear hT1 hT2 hr1 hl12 hgc hnil hsome hAl
        go_upto_region 16 with (at_builtin; go_must (refine wpList_eapp rfl _ _ rfl w8.heap.size [] T1 _ _ rfl rfl (ownE_nil _ _) HR1.out (by have := HT12.out; have := HAl.out; simp; omega) (Nat.le_refl _) ?_); intro oa oc wa ho hg; have HOa := keep (show OwnE w8.heap.size wa (.slice oa T1.length oc) T1 from ho); have HSa := keep (HS8.out.grown (ownE_nil w8.heap.size w8) hg); have HBa := keep (grown_below (ownE_nil w8.heap.size w8) hg (Nat.le_refl _)); clear ho hg)
        obtain ⟨a0, a1, a2⟩ := HC0.out wa (HF5.out.trans ((Grow.trans HG8.out HBa.out).mono HS5.out.low))
        go_upto_region 17 with (at_builtin; go_must (refine wpList_eapp rfl _ _ rfl w8.heap.size T1 [(xk, xp, xq)] _ _ rfl rfl (owns_fits HOa.out ((Grow.refl _).alloc _)) (en_mark _ xk xp xq) (by have := HT12.out; have := HAl.out; simp; omega) (by have := HBa.out.size; simp; omega) ?_); intro ob oc2 wb ho hg; have HOb := keep (show OwnE w8.heap.size wb (.slice ob (T1.length + 1) oc2) (T1 ++ [(xk, xp, xq)]) by have h := ho; rw [List.length_append] at h; exact h); have HSb := keep ((HSa.out.fits ((Grow.refl _).alloc _)).grown (owns_fits HOa.out ((Grow.refl _).alloc (.cells #[.string (str xk), .int .i64 xp, .int .i64 xq] 36))) hg); have HBb := keep ((((Grow.refl wa).alloc (.cells #[.string (str xk), .int .i64 xp, .int .i64 xq] 36)).mono HBa.out.size |> HBa.out.trans).trans (grown_below (owns_fits HOa.out ((Grow.refl _).alloc (.cells #[.string (str xk), .int .i64 xp, .int .i64 xq] 36))) hg (by have := HBa.out.size; simp; omega))); clear ho hg)
        clear a0 a1 a2
        by_cases hcap : gc = k
        ·subst hcap
         have hr2 : ∀ c', Row wb 36 (.slice ga (A.length - gc) c') T2.length (eCells T2) := by
          intro c'
          rw [show T2 = [] by rw [HT2.out]; exact List.drop_eq_nil_of_le HGc.out, show A.length - gc = 0 by have := HGc.out; omega]
          exact Row.nil _ _ _ _
         have HR2 := keep hr2
         clear hr2
         go_wp2_with (at_builtin; go_must (refine wpList_eapp rfl _ _ rfl w8.heap.size (T1 ++ [(xk, xp, xq)]) T2 _ _ rfl rfl HOb.out (HR2.out _) (by have := HT12.out; have := HAl.out; simp; omega) HBb.out.size ?_); intro oe oc3 wc ho hg; have HOc := keep ho; have HSc := keep (HSb.out.grown HOb.out hg); have HBc := keep (HBb.out.trans (grown_below HOb.out hg HBb.out.size)); clear ho hg)
         go_wp2_with fail
         go_roundw
         case rel => exact show S1Rel _ _ _ _ _ _ _ from ⟨n + 1, _, _, _, _, insL A (xk, xp, xq), h1, by omega, by go_num, HSc, HQ5, keep (ownE_len (by have h : OwnE w_.heap.size wc _ _ := owns_low HOc.out (Nat.le_trans HS5.out.low HG8.out.size); rw [HIns.out] at h; exact h) (by rw [insL_length]; have := HT12.out; omega)), keep (HJ.out.more HNin.out HH5.out), keep (by rw [insL_length]; have := HAl.out; omega), keep (HF5.out.trans ((Grow.trans HG8.out HBc.out).mono HS5.out.low))⟩
         case measure => simp [intOf]; omega
        ·cases ga with
         | none =>
          obtain ⟨h3, h4⟩ := HNl.out rfl
          subst h3
          exact absurd (by have := HKl.out; simp at this; omega) hcap
         | some ad =>
          obtain ⟨g9, rfl⟩ := HSm.out ad rfl
          have hr2 : ∀ c', Row wb 36 (.slice (some ⟨g9, k * 3, none⟩) (A.length - k) c') T2.length (eCells T2) := by
           intro c'
           rw [HT2.out]
           have h := row_from (((OwnE.ens HO5.out).weak.fits HG8.out).fits HBb.out) rfl HKl.out c'
           rw [Nat.zero_add] at h
           exact h
          have HR2 := keep hr2
          have hcap2 : (gc = k) = False := eq_false hcap
          clear hr2 hcap
          go_wp2_with (at_builtin; go_must (refine wpList_eapp rfl _ _ rfl w8.heap.size (T1 ++ [(xk, xp, xq)]) T2 _ _ rfl rfl HOb.out (HR2.out _) (by have := HT12.out; have := HAl.out; simp; omega) HBb.out.size ?_); intro oe oc3 wc ho hg; have HOc := keep ho; have HSc := keep (HSb.out.grown HOb.out hg); have HBc := keep (HBb.out.trans (grown_below HOb.out hg HBb.out.size)); clear ho hg)
          go_wp2_with fail
          go_roundw
          case rel => exact show S1Rel _ _ _ _ _ _ _ from ⟨n + 1, _, _, _, _, insL A (xk, xp, xq), h1, by omega, by go_num, HSc, HQ5, keep (ownE_len (by have h : OwnE w_.heap.size wc _ _ := owns_low HOc.out (Nat.le_trans HS5.out.low HG8.out.size); rw [HIns.out] at h; exact h) (by rw [insL_length]; have := HT12.out; omega)), keep (HJ.out.more HNin.out HH5.out), keep (by rw [insL_length]; have := HAl.out; omega), keep (HF5.out.trans ((Grow.trans HG8.out HBc.out).mono HS5.out.low))⟩
          case measure => simp [intOf]; omega
     | false =>
      rw [encN_no8 hok] at henc
      have HEnc := keep henc
      clear hc1 hgr henc hent hok hcmp
      go_wp2_with fail
      refine HEnc.out.mono ?_
      rintro x w3 ⟨rfl, hb3⟩
      have HG3 := keep hb3
      clear a0 a1 a2 hb3 HEnc
      go_wp2_with fail
      go_roundw
      case rel => exact show S1Rel _ _ _ _ _ _ _ from ⟨n + 1, _, _, _, _, A, h1, by omega, by go_num, scInv_mono (scInv_grow HIn.out HG3.out) (by omega)⟩
      case measure => simp [intOf]; omega
    ·go_wp2_with fail
     go_meet
     case rel => exact show ScCut _ _ _ _ _ from ⟨_, _, _, _, A, scInv_mono HIn.out hn2⟩
   ·go_wp2_with fail
    go_meet
    case rel => exact show ScCut _ _ _ _ _ from ⟨_, _, _, _, A, scInv_mono HIn.out hn2⟩
 case rest =>
 obtain ⟨D, I, top, q, A, HI⟩ := (show ScCut _ _ _ _ _ from hcut)
 have HI0 := keep HI
 obtain ⟨-, -, HO, -⟩ := HI
 generalize wc = wA at *
 obtain ⟨ga, gc, rfl⟩ := own_form HO.out
 clear HS2 HG2 HL HO
 go_upto_block 4 with fail
 go_cut [6, 12, 13, 14, 15, 16, 17] from 107 to 173 (fun s6 _ _ _ _ _ _ wx => ScCut w_.heap.size fr w_ s6 wx)
 case first =>
  go_wp2_with fail
  go_loopw [6, 12] (fun va i wr => S3Rel w_.heap.size fr os.length w_ va i wr) (fun _ i _ => os.length - (intOf i).toNat)
  case atStart => exact show S3Rel _ _ _ _ _ _ _ from ⟨0, D, I, top, q, A, Nat.zero_le _, rfl, HI0.out⟩
  case round =>
   clear HI0
   obtain ⟨n, D, I, top, q, A, hn, rfl, HI⟩ := hrel
   have HIn := keep HI
   obtain ⟨HS, HQ, HO, HJ, HAl, HF⟩ := HI
   obtain ⟨ga, gc, rfl⟩ := own_form HO.out
   have hTl := HTl.out
   by_cases h1 : n < os.length
   ·by_cases h2 : 0 < A.length
    ·obtain ⟨c1, off1, cap1, e1, hc1⟩ := ints_at HT.out h1
     simp only [Value.slice.injEq] at e1
     obtain ⟨rfl, -, rfl⟩ := e1
     have o0 := hc1 wr HF.out
     have hwo := HTw.out os[n] (List.getElem_mem h1)
     generalize os[n] = o at *
     obtain ⟨k, hk, hcase⟩ := mod_at o h2
     obtain ⟨bb, hbb⟩ : ∃ b : Bool, decide (o.tmod (A.length : Int) < 0) = b := ⟨_, rfl⟩
     go_upto_if 126 with fail
     have HBB := keep hbb
     clear hbb
     go_cut [13] from 107 to 173 (fun s wx => s = .int .i64 k ∧ Kept (wr = wx))
     case first =>
      have hAl := HAl.out
      cases bb with
      | true =>
       have hlt := of_decide_eq_true HBB.out
       have he : o.tmod (A.length : Int) + (A.length : Int) = (k : Int) := by
        rcases hcase with ⟨_, he⟩ | ⟨hge, _⟩
        ·exact he
        ·exact absurd hlt hge
       have eW : IntKind.i64.wrap (o.tmod (A.length : Int) + (A.length : Int)) = (k : Int) := by rw [he, IntKind.wrap_i64]; omega
       clear hlt he hcase
       go_wp2_with fail
       go_meet
       case rel => exact ⟨rfl, keep rfl⟩
      | false =>
       have hge := of_decide_eq_false HBB.out
       have he : o.tmod (A.length : Int) = (k : Int) := by
        rcases hcase with ⟨hlt, _⟩ | ⟨_, he⟩
        ·exact absurd hlt hge
        ·exact he
       have HE := keep he
       clear hge he hcase
       go_wp2_with fail
       go_meet
       case rel => exact ⟨by rw [HE.out], keep rfl⟩
     case rest =>
     obtain ⟨rfl, hwc⟩ := hcut
     have hwc := hwc.out
     subst hwc
     clear hcase o0 hwo hc1
     obtain ⟨c4, off4, cap4, e4, hc4⟩ := en_at (OwnE.ens HO.out).weak hk
     simp only [Value.slice.injEq] at e4
     obtain ⟨rfl, -, rfl⟩ := e4
     have hhas := (HJ.out.iff A[k]).2 (List.getElem_mem hk)
     have hJl := fun (I' : Int → Option Nv) (h : ∀ y, Has I' y ↔ Has I y ∧ y ≠ A[k]) => HJ.out.less hk h
     generalize A[k] = y at *
     obtain ⟨yk, yp, yq⟩ := y
     have hok := HS.out.ok hhas
     obtain ⟨m, v, iv, hA⟩ := HS.out.at hok (by have := HQ.out; omega)
     have hin := HS.out.mem hA hhas
     have hho := fun (y : En) => has_out HS.out.fo hA.here hA.lv hin y
     have hfi := find_st HS.out hA
     obtain ⟨g, cap, hx⟩ := for_cells HS.out.tab hA.lt hA.page
     have hly := fun (u : World) (hu : Grow wr u) => leave_yes (HS.out.fits hu) hA hin
     have hou := fun (u : World) (hu : Grow wr u) => out_st (HS.out.fits hu) hA hok hin
     have h1m := hA.one
     have hmD := hA.lt
     generalize nodeP 0 v.ks v.nx v.hi = P at *
     unfold enV at hfi
     unfold pgV enV recV at hly
     unfold recV at hou
     dsimp only at hfi hly hc4
     have eA : decide ((m : Int) < 1) = false := decide_eq_false (by omega)
     have HX := keep hx
     have HY := keep hc4
     have HFi := keep hfi
     have HLy := keep hly
     have HOu := keep hou
     have HJl := keep hJl
     have HHo := keep hho
     have HHk := keep hk
     obtain ⟨a0, a1, a2⟩ := hc4 wr (Grow.refl _)
     clear hx hc4 hfi hly hou hJl hho h1m hA hin hok hhas hTl
     go_wp2_with fail
     refine HFi.out.mono ?_
     rintro x wB ⟨rfl, hbB⟩
     have HGB := keep (show Grow wr wB from hbB)
     clear a0 a1 a2 hbB HFi
     go_upto_region 27 with fail
     refine wp_region_link_named (by kernel_rfl) 18 lk17 (Fill wB.heap.size 50 (IsC [.int .i64 0, .int .i64 0, .int .i64 0, .int .u8 4, .int .i64 0, .int .i64 (m : Int), .int .i64 0, .int .i64 0, .int .i64 0, .int .i64 0, .string (str (enBytes (yk, yp, yq) [])), .slice none 0 0, .slice none 0 0, .slice none 0 0, .slice none 0 0, .slice none 0 0])) (Fill.refl _) (fun _ _ _ => Fill.trans (isC_lasts _ _)) (by kernel_rfl) (by kernel_rfl) [(140, 0), (141, 1), (142, 2), (143, 3), (144, 4), (145, 5), (146, 6), (147, 7), (148, 8), (149, 9), (150, 10), (151, 11), (152, 12), (139, 13), (153, 14), (154, 15), (15, 16)] (by kernel_rfl) [(0, true), (1, true), (2, true), (3, true), (4, true), (5, true), (6, true), (7, true), (8, true), (9, true), (10, true), (11, true), (12, true), (13, true), (14, true), (15, true), (16, true), (17, true)] (by kernel_rfl) rfl rfl ?_
     intro a0 ha0
     have hsz : a0.tmps.size = 229 := (size_at ha0).trans rfl
     have s5 := slot_at ha0 5 rfl
     have s6 := slot_at ha0 6 rfl
     have s13 := slot_at ha0 13 rfl
     have s14 := slot_at ha0 14 rfl
     have HA0 := keep ha0
     clear ha0
     apply lexkf_eq hsz [] [(142, 2), (143, 3), (144, 4), (145, 5), (146, 6), (147, 7), (148, 8), (149, 9), (150, 10), (151, 11), (152, 12), (139, 13), (153, 14), (154, 15), (15, 16)] none (by kernel_rfl) (by kernel_rfl) (by kernel_rfl) (by kernel_rfl) rfl rfl
     ·intro xs w hw hp K hK
      go_simp
      exact hK _ (Fill.refl _)
     apply lexkf_eq hsz [(0, true)] [(140, 0), (143, 3), (144, 4), (145, 5), (146, 6), (147, 7), (148, 8), (149, 9), (150, 10), (151, 11), (152, 12), (139, 13), (153, 14), (154, 15), (15, 16)] none (by kernel_rfl) (by kernel_rfl) (by kernel_rfl) (by kernel_rfl) rfl rfl
     ·intro xs w hw hp K hK
      simp only [holdsK, lk17, reduceIte, Nat.reduceEqDiff, List.nil_append, List.getD_cons_zero, if_true, and_true] at hp
      go_simp
      exact hK _ (Fill.refl _)
     apply lexkf_eq hsz [(1, true)] [(140, 0), (141, 1), (144, 4), (145, 5), (146, 6), (147, 7), (148, 8), (149, 9), (150, 10), (151, 11), (152, 12), (139, 13), (153, 14), (154, 15), (15, 16)] none (by kernel_rfl) (by kernel_rfl) (by kernel_rfl) (by kernel_rfl) rfl rfl
     ·intro xs w hw hp K hK
      simp only [holdsK, lk17, reduceIte, Nat.reduceEqDiff, List.nil_append, List.cons_append, List.getD_cons_succ, List.getD_cons_zero, if_true, and_true] at hp
      go_simp
      exact hK _ (Fill.refl _)
     apply lexkf_eq hsz [(2, true)] [(140, 0), (141, 1), (142, 2), (144, 4), (146, 6), (147, 7), (148, 8), (149, 9), (150, 10), (151, 11), (152, 12), (139, 13), (153, 14), (154, 15), (15, 16)] none (by kernel_rfl) (by kernel_rfl) (by kernel_rfl) (by kernel_rfl) rfl rfl
     ·intro xs w hw hp K hK
      simp only [holdsK, lk17, reduceIte, Nat.reduceEqDiff, List.nil_append, List.cons_append, List.getD_cons_succ, List.getD_cons_zero, if_true, and_true] at hp
      obtain ⟨f0, -⟩ := HX.out w (Grow.trans HGB.out (Grow.undrew hw.below))
      go_simp
      exact hK _ (Fill.refl _)
     apply lexkf_eq hsz [] [(140, 0), (141, 1), (142, 2), (143, 3), (146, 6), (147, 7), (148, 8), (149, 9), (150, 10), (151, 11), (152, 12), (139, 13), (153, 14), (154, 15), (15, 16)] none (by kernel_rfl) (by kernel_rfl) (by kernel_rfl) (by kernel_rfl) rfl rfl
     ·intro xs w hw hp K hK
      go_simp
      exact hK _ (Fill.refl _)
     apply lexkf_eq hsz [(3, true), (4, true)] [(140, 0), (141, 1), (142, 2), (143, 3), (144, 4), (147, 7), (148, 8), (149, 9), (150, 10), (151, 11), (152, 12), (139, 13), (153, 14), (154, 15), (15, 16)] none (by kernel_rfl) (by kernel_rfl) (by kernel_rfl) (by kernel_rfl) rfl rfl
     ·intro xs w hw hp K hK
      simp only [holdsK, lk17, reduceIte, Nat.reduceEqDiff, List.nil_append, List.cons_append, List.getD_cons_succ, List.getD_cons_zero, if_true, and_true] at hp
      go_simp
      exact hK _ (Fill.refl _)
     apply lexkf_eq hsz [(5, true)] [(140, 0), (141, 1), (142, 2), (143, 3), (144, 4), (145, 5), (147, 7), (148, 8), (149, 9), (150, 10), (151, 11), (139, 13), (153, 14), (154, 15), (15, 16)] none (by kernel_rfl) (by kernel_rfl) (by kernel_rfl) (by kernel_rfl) rfl rfl
     ·intro xs w hw hp K hK
      simp only [holdsK, lk17, reduceIte, Nat.reduceEqDiff, List.nil_append, List.cons_append, List.getD_cons_succ, List.getD_cons_zero, if_true, and_true] at hp
      obtain ⟨-, p0, p1, p2, p3, p4, p5⟩ := HX.out w (Grow.trans HGB.out (Grow.undrew hw.below))
      go_simp
      exact hK _ (Fill.refl _)
     apply lexkf_eq hsz [] [(140, 0), (141, 1), (142, 2), (143, 3), (144, 4), (145, 5), (146, 6), (148, 8), (149, 9), (150, 10), (151, 11), (139, 13), (153, 14), (154, 15), (15, 16)] none (by kernel_rfl) (by kernel_rfl) (by kernel_rfl) (by kernel_rfl) rfl rfl
     ·intro xs w hw hp K hK
      go_simp
      exact hK _ (Fill.refl _)
     apply lexkf_eq hsz [] [(140, 0), (141, 1), (142, 2), (143, 3), (144, 4), (145, 5), (146, 6), (147, 7), (149, 9), (151, 11), (152, 12), (139, 13), (153, 14), (154, 15), (15, 16)] none (by kernel_rfl) (by kernel_rfl) (by kernel_rfl) (by kernel_rfl) rfl rfl
     ·intro xs w hw hp K hK
      go_simp
      exact hK _ (Fill.refl _)
     apply lexkf_eq hsz [] [(140, 0), (141, 1), (142, 2), (143, 3), (144, 4), (145, 5), (146, 6), (147, 7), (148, 8), (151, 11), (152, 12), (139, 13), (153, 14), (154, 15), (15, 16)] none (by kernel_rfl) (by kernel_rfl) (by kernel_rfl) (by kernel_rfl) rfl rfl
     ·intro xs w hw hp K hK
      go_simp
      exact hK _ (Fill.refl _)
     apply lexkf_eq hsz [(8, true), (9, true)] [(140, 0), (141, 1), (142, 2), (143, 3), (144, 4), (145, 5), (146, 6), (147, 7), (148, 8), (149, 9), (152, 12), (139, 13), (153, 14), (154, 15), (15, 16)] none (by kernel_rfl) (by kernel_rfl) (by kernel_rfl) (by kernel_rfl) rfl rfl
     ·intro xs w hw hp K hK
      simp only [holdsK, lk17, reduceIte, Nat.reduceEqDiff, List.nil_append, List.cons_append, List.getD_cons_succ, List.getD_cons_zero, if_true, and_true] at hp
      go_simp
      exact hK _ (Fill.refl _)
     apply lexkf_eq hsz [(10, true)] [(140, 0), (141, 1), (142, 2), (143, 3), (144, 4), (145, 5), (146, 6), (147, 7), (148, 8), (149, 9), (150, 10), (139, 13), (153, 14), (154, 15), (15, 16)] none (by kernel_rfl) (by kernel_rfl) (by kernel_rfl) (by kernel_rfl) rfl rfl
     ·intro xs w hw hp K hK
      simp only [holdsK, lk17, reduceIte, Nat.reduceEqDiff, List.nil_append, List.cons_append, List.getD_cons_succ, List.getD_cons_zero, if_true, and_true] at hp
      obtain ⟨a0, a1, a2⟩ := HY.out w (Grow.trans HGB.out (Grow.undrew hw.below))
      go_simp
      exact hK _ (Fill.refl _)
     apply lexkf_eq hsz [(6, true), (7, true), (11, true)] [(140, 0), (141, 1), (142, 2), (143, 3), (144, 4), (145, 5), (146, 6), (147, 7), (148, 8), (149, 9), (150, 10), (151, 11), (153, 14), (154, 15), (15, 16)] none (by kernel_rfl) (by kernel_rfl) (by kernel_rfl) (by kernel_rfl) rfl rfl
     ·intro xs w hw hp K hK
      simp only [holdsK, lk17, reduceIte, Nat.reduceEqDiff, List.nil_append, List.cons_append, List.getD_cons_succ, List.getD_cons_zero, if_true, and_true] at hp
      go_simp
      exact (HLy.out w (Grow.trans HGB.out (Grow.undrew hw.below))).mono fun e w' ⟨h1, h2⟩ => ⟨_, h1, hK _ (Fill.of_grow h2 hw.below.size)⟩
     apply lexkf_eq hsz [(12, true)] [(140, 0), (141, 1), (142, 2), (143, 3), (144, 4), (145, 5), (146, 6), (147, 7), (148, 8), (149, 9), (150, 10), (151, 11), (152, 12), (15, 16)] none (by kernel_rfl) (by kernel_rfl) (by kernel_rfl) (by kernel_rfl) rfl rfl
     ·intro xs w hw hp K hK
      simp only [holdsK, lk17, reduceIte, Nat.reduceEqDiff, List.nil_append, List.cons_append, List.getD_cons_succ, List.getD_cons_zero, if_true, and_true] at hp
      go_simp
      exact hK _ (Fill.refl _)
     apply lexkf_eq hsz [(13, true)] [(140, 0), (141, 1), (142, 2), (143, 3), (144, 4), (145, 5), (146, 6), (147, 7), (148, 8), (149, 9), (150, 10), (151, 11), (152, 12), (139, 13), (154, 15), (15, 16)] none (by kernel_rfl) (by kernel_rfl) (by kernel_rfl) (by kernel_rfl) rfl rfl
     ·intro xs w hw hp K hK
      simp only [holdsK, lk17, reduceIte, Nat.reduceEqDiff, List.nil_append, List.cons_append, List.getD_cons_succ, List.getD_cons_zero, if_true, and_true] at hp
      go_simp
      exact hK _ (Fill.refl _)
     apply lexkf_eq hsz [(13, true)] [(140, 0), (141, 1), (142, 2), (143, 3), (144, 4), (145, 5), (146, 6), (147, 7), (148, 8), (149, 9), (150, 10), (151, 11), (152, 12), (139, 13), (153, 14), (15, 16)] none (by kernel_rfl) (by kernel_rfl) (by kernel_rfl) (by kernel_rfl) rfl rfl
     ·intro xs w hw hp K hK
      simp only [holdsK, lk17, reduceIte, Nat.reduceEqDiff, List.nil_append, List.cons_append, List.getD_cons_succ, List.getD_cons_zero, if_true, and_true] at hp
      go_simp
      exact hK _ (Fill.refl _)
     refine lexkf_says hsz (fun v u => ∃ b, v = .pointer (some ⟨b, 0, none⟩) ∧ wB.heap.size ≤ b ∧ ∃ cs : List Value, cs.length = 16 ∧ Blk u b 50 cs) (fun _ _ _ g ⟨b, h1, h2, h3⟩ => ⟨b, h1, h2, fill_sixteen g h3⟩) [] [(140, 0), (141, 1), (142, 2), (143, 3), (144, 4), (145, 5), (146, 6), (147, 7), (148, 8), (149, 9), (150, 10), (151, 11), (152, 12), (139, 13), (153, 14), (154, 15)] none (by kernel_rfl) (by kernel_rfl) (by kernel_rfl) (by kernel_rfl) rfl rfl ?_ ?_
     ·intro xs w hw hp K hK
      go_simp
      exact hK _ _ ⟨_, rfl, hw.below.size, _, rfl, Blk.new w _ [.int .i64 0, .int .i64 0, .int .i64 0, .int .u8 0, .int .i64 0, .int .i64 0, .int .i64 0, .int .i64 0, .int .i64 0, .int .i64 0, .string ⟨#[]⟩, .slice none 0 0, .slice none 0 0, .slice none 0 0, .slice none 0 0, .slice none 0 0]⟩ (Fill.of_grow ((Grow.refl w).alloc _) hw.below.size)
     refine lexkf_link hsz (fun v u => ∃ b, v = .pointer (some ⟨b, 0, none⟩) ∧ wB.heap.size ≤ b ∧ Blk u b 50 [.int .i64 0, .int .i64 0, .int .i64 0, .int .u8 4, .int .i64 0, .int .i64 (m : Int), .int .i64 0, .int .i64 0, .int .i64 0, .int .i64 0, .string (str (enBytes (yk, yp, yq) [])), .slice none 0 0, .slice none 0 0, .slice none 0 0, .slice none 0 0, .slice none 0 0]) (fun _ _ _ hg ⟨b, h1, h2, h3⟩ => ⟨b, h1, h2, isC_stays hg h3⟩) [(14, true), (16, true)] [(140, 0), (141, 1), (142, 2), (143, 3), (144, 4), (145, 5), (146, 6), (147, 7), (148, 8), (149, 9), (150, 10), (151, 11), (152, 12), (139, 13), (153, 14), (154, 15), (15, 16)] none (by kernel_rfl) (by kernel_rfl) (by kernel_rfl) (by kernel_rfl) rfl (by decide) ?_ ?_
     ·intro xs w hw hp K hK
      simp only [holdsK, lk17, reduceIte, Nat.reduceEqDiff, List.nil_append, List.cons_append, List.getD_cons_succ, List.getD_cons_zero, if_true, and_true] at hp
      obtain ⟨h17, b, h19, hbN, cs, hl, hB⟩ := hp
      obtain ⟨a0_, a1_, a2_, a3_, a4_, a5_, a6_, a7_, a8_, a9_, a10_, a11_, a12_, a13_, a14_, a15_, rfl⟩ := len16 hl
      obtain ⟨⟨r0_, r1_, r2_, r3_, r4_, r5_, r6_, r7_, r8_, r9_, r10_, r11_, r12_, r13_, r14_, r15_⟩, hz_⟩ := recres hB
      have z0_ := hz_ 0
      have z1_ := hz_ 1
      have z2_ := hz_ 2
      have z3_ := hz_ 3
      have z4_ := hz_ 4
      have z5_ := hz_ 5
      have z6_ := hz_ 6
      have z7_ := hz_ 7
      have z8_ := hz_ 8
      have z9_ := hz_ 9
      have z10_ := hz_ 10
      have z11_ := hz_ 11
      have z12_ := hz_ 12
      have z13_ := hz_ 13
      have z14_ := hz_ 14
      have z15_ := hz_ 15
      have Hset := keep (recset hB (.int .i64 0) (.int .i64 0) (.int .i64 0) (.int .u8 4) (.int .i64 0) (.int .i64 (m : Int)) (.int .i64 0) (.int .i64 0) (.int .i64 0) (.int .i64 0) (.string (str (enBytes (yk, yp, yq) []))) (.slice none 0 0) (.slice none 0 0) (.slice none 0 0) (.slice none 0 0) (.slice none 0 0))
      have Hbut := keep (recbut w b (.int .i64 0) (.int .i64 0) (.int .i64 0) (.int .u8 4) (.int .i64 0) (.int .i64 (m : Int)) (.int .i64 0) (.int .i64 0) (.int .i64 0) (.int .i64 0) (.string (str (enBytes (yk, yp, yq) []))) (.slice none 0 0) (.slice none 0 0) (.slice none 0 0) (.slice none 0 0) (.slice none 0 0))
      have HB := keep hB
      clear hB hl hz_
      go_simp
      exact hK _ _ ⟨b, h19, hbN, Hset.out⟩ (Fill.but (cs' := [.int .i64 0, .int .i64 0, .int .i64 0, .int .u8 4, .int .i64 0, .int .i64 (m : Int), .int .i64 0, .int .i64 0, .int .i64 0, .int .i64 0, .string (str (enBytes (yk, yp, yq) [])), .slice none 0 0, .slice none 0 0, .slice none 0 0, .slice none 0 0, .slice none 0 0]) Hbut.out hbN hw.below.size HB.out rfl Hset.out rfl)
     intro xs w hw hp
     have ha0 := HA0.out
     clear HA0 hsz s5 s6 s13 s14
     simp only [holdsK, lk17, reduceIte, Nat.reduceEqDiff, List.nil_append, List.cons_append, List.getD_cons_succ, List.getD_cons_zero, if_true, and_true] at hp
     have hM := hp.2.2.2.2.2.2.2.2.2.2.2.2.2.2.2.1
     obtain ⟨b, h19, hbN, hQ⟩ := hp.2.2.2.2.2.2.2.2.2.2.2.2.2.2.2.2.2
     clear hp
     subst ha0
     simp only [putAll, hM, h19]
     have hg := Grow.trans HGB.out (Grow.undrew hw.below)
     generalize w = wE at *
     have HGE := keep hg
     have HRec := keep hQ
     have hdo := HOu.out wE hg
     have HDo := keep hdo
     clear hw hg hM hQ h19 HLy HX hdo HOu
     go_frame
     go_wp2_with (refine wpList_load_rec_g rfl _ rfl b rfl HRec.out rfl ?_)
     refine HDo.out.mono ?_
     rintro x w8 ⟨rfl, ⟨D', hS'⟩, hfe⟩
     have HS8 := keep hS'
     have HO8 := keep (owns_fel (owns_fits HO.out HGE.out) hfe (by decide) (by decide) : OwnE _ _ _ _)
     have HF8 := keep ((HF.out.trans (HGE.out.mono HS.out.low)).trans hfe.low)
     have HJ8 := keep (HJl.out _ HHo.out)
     clear hS' hfe HDo HRec HJl HHo HY
     obtain ⟨hgc, -, -⟩ := ownE_cap HO8.out
     obtain ⟨T1, hT1⟩ : ∃ T, T = A.take k := ⟨_, rfl⟩
     obtain ⟨T2, hT2⟩ : ∃ T, T = A.drop (k + 1) := ⟨_, rfl⟩
     rw [← hT1, ← hT2] at HJ8
     have hr1 : Row w8 36 (.slice (some ⟨c4, off4, none⟩) k gc) T1.length (eCells T1) := by rw [hT1]; exact row_to (OwnE.ens HO8.out).weak rfl (Nat.le_of_lt HHk.out)
     have hl12 : T1.length + T2.length + 1 = A.length := by rw [hT1, hT2, List.length_take, List.length_drop]; have := HHk.out; omega
     have hkc : k ≤ gc := Nat.le_trans (Nat.le_of_lt HHk.out) hgc
     have hkc1 : k + 1 ≤ gc := Nat.le_trans HHk.out hgc
     have hkA := Nat.le_of_lt HHk.out
     have hk1w : IntKind.i64.wrap ((k : Int) + 1) = ((k + 1 : Nat) : Int) := by rw [IntKind.wrap_i64]; have := HAl.out; omega
     have HR1 := keep hr1
     have HT12 := keep hl12
     have HT2 := keep hT2
     have HGc := keep hgc
     clear hT1 hT2 hr1 hl12 hgc
     go_upto_region 32 with (at_builtin; go_must (refine wpList_eapp rfl _ _ rfl w8.heap.size [] T1 _ _ rfl rfl (ownE_nil _ _) HR1.out (by have := HT12.out; have := HAl.out; simp; omega) (Nat.le_refl _) ?_); intro oa oc wa ho hg; have HOa := keep (show OwnE w8.heap.size wa (.slice oa T1.length oc) T1 from ho); have HSa := keep (HS8.out.grown (ownE_nil w8.heap.size w8) hg); have HBa := keep (grown_below (ownE_nil w8.heap.size w8) hg (Nat.le_refl _)); clear ho hg)
     by_cases hcap : gc = k + 1
     ·subst hcap
      have hr2 : ∀ c', Row wa 36 (.slice (some ⟨c4, off4, none⟩) (A.length - (k + 1)) c') T2.length (eCells T2) := by
       intro c'
       rw [show T2 = [] by rw [HT2.out]; exact List.drop_eq_nil_of_le HGc.out, show A.length - (k + 1) = 0 by have := HGc.out; omega]
       exact Row.nil _ _ _ _
      have HR2 := keep hr2
      clear hr2
      go_wp2_with (at_builtin; go_must (refine wpList_eapp rfl _ _ rfl w8.heap.size T1 T2 _ _ rfl rfl HOa.out (HR2.out _) (by have := HT12.out; have := HAl.out; omega) HBa.out.size ?_); intro oe oc3 wd ho hg; have HOc := keep ho; have HSc := keep (HSa.out.grown HOa.out hg); have HBc := keep (HBa.out.trans (grown_below HOa.out hg HBa.out.size)); clear ho hg)
      have hTl := HTl.out
      have HW64 := keep (show wrap64 ((n : Int) + 1) = ((n + 1 : Nat) : Int) by unfold wrap64; omega)
      clear hTl
      go_wp2_with fail
      rw [HW64.out]
      go_roundw
      case rel => exact (show S3Rel _ _ _ _ _ _ _ from ⟨n + 1, _, _, _, _, T1 ++ T2, h1, rfl, HSc, HQ, keep (ownE_len (owns_low HOc.out HS8.out.low) (by rw [List.length_append])), HJ8, keep (by rw [List.length_append]; have := HT12.out; have := HAl.out; omega), keep (HF8.out.trans (HBc.out.mono HS8.out.low))⟩)
      case measure => simp [intOf]; omega
     ·have hr2 : ∀ c', Row wa 36 (.slice (some ⟨c4, off4 + (k + 1) * 3, none⟩) (A.length - (k + 1)) c') T2.length (eCells T2) := by
       intro c'
       rw [HT2.out]
       exact row_from ((OwnE.ens HO8.out).weak.fits HBa.out) rfl HHk.out c'
      have HR2 := keep hr2
      have hcap2 : (gc = k + 1) = False := eq_false hcap
      clear hr2 hcap
      go_wp2_with (at_builtin; go_must (refine wpList_eapp rfl _ _ rfl w8.heap.size T1 T2 _ _ rfl rfl HOa.out (HR2.out _) (by have := HT12.out; have := HAl.out; omega) HBa.out.size ?_); intro oe oc3 wd ho hg; have HOc := keep ho; have HSc := keep (HSa.out.grown HOa.out hg); have HBc := keep (HBa.out.trans (grown_below HOa.out hg HBa.out.size)); clear ho hg)
      have hTl := HTl.out
      have HW64 := keep (show wrap64 ((n : Int) + 1) = ((n + 1 : Nat) : Int) by unfold wrap64; omega)
      clear hTl
      go_wp2_with fail
      rw [HW64.out]
      go_roundw
      case rel => exact (show S3Rel _ _ _ _ _ _ _ from ⟨n + 1, _, _, _, _, T1 ++ T2, h1, rfl, HSc, HQ, keep (ownE_len (owns_low HOc.out HS8.out.low) (by rw [List.length_append])), HJ8, keep (by rw [List.length_append]; have := HT12.out; have := HAl.out; omega), keep (HF8.out.trans (HBc.out.mono HS8.out.low))⟩)
      case measure => simp [intOf]; omega
    ·go_wp2_with fail
     go_meet
     case rel => exact show ScCut _ _ _ _ _ from ⟨_, _, _, _, A, HIn.out⟩
   ·go_wp2_with fail
    go_meet
    case rel => exact show ScCut _ _ _ _ _ from ⟨_, _, _, _, A, HIn.out⟩
 case rest =>
 clear HI0 HT HTl HTw
 obtain ⟨D, I, top, q, A, HS, HQ, HO, HJ, HAl, HF⟩ := (show ScCut _ _ _ _ _ from hcut)
 generalize wc = wB at *
 obtain ⟨ga, gc, rfl⟩ := own_form HO.out
 obtain ⟨m, v, iv, hA⟩ := HS.out.at least_ok (by have := HQ.out; omega)
 have hfi := find_st HS.out hA
 unfold enV at hfi
 dsimp only at hfi
 rw [str_zero9] at hfi
 have hsc := HJ.out.scan HS.out hA (by have := HQ.out; omega)
 have hst := hA.here
 have hsl := hA.lv
 have HFi := keep hfi
 have HSn := keep hsc
 have HSt := keep (show (m : Int) = 0 ∨ ∃ u, I (m : Int) = some u ∧ u.lv = 0 from .inr ⟨v, hst, hsl⟩)
 clear hfi hsc hst hsl hA HJ hcut
 go_wp2_with fail
 refine HFi.out.mono ?_
 rintro x wC ⟨rfl, hbC⟩
 have HGC := keep (show Grow wB wC from hbC)
 have HSC := keep (HS.out.fits hbC)
 clear hbC HFi
 go_upto_block 6 with fail
 go_cut [18, 19, 20, 21, 22, 23] from 177 to 222 (fun _ s19 _ _ _ _ wx => ∃ (sa : Option Addr) (sc : Nat), s19 = .slice sa A.length sc ∧ Kept (OwnE wC.heap.size wx (.slice sa A.length sc) A) ∧ Kept (Grow wC wx))
 case first =>
  go_wp2_with fail
  go_loopw [18, 19, 20] (fun pv sv kv wr => S4Rel D I A wC pv sv kv wr) (fun _ _ kv _ => 10000 - (intOf kv).toNat)
  case atStart => exact show S4Rel _ _ _ _ _ _ _ _ from ⟨0, (m : Int), [], by omega, rfl, rfl, keep (ownE_nil _ _), keep (by rw [List.nil_append]; exact HSn.out), HSt, keep (Grow.refl _)⟩
  case round =>
   obtain ⟨k, p, S, hk, rfl, rfl, HOs, HScn, HPg, HG⟩ := hrel
   obtain ⟨sa, sc, rfl⟩ := own_form HOs.out
   by_cases hlt : k < 10000
   ·by_cases hp : 0 < p
    ·obtain ⟨u, hu, hu0⟩ : ∃ u, I p = some u ∧ u.lv = 0 := by
      rcases HPg.out with h | h
      ·omega
      ·exact h
     obtain ⟨pm, rfl⟩ := Int.eq_ofNat_of_zero_le (show 0 ≤ p by omega)
     obtain ⟨h1m, ⟨hmD, pv, hP⟩, hok, hnx, hstp⟩ := HSC.out.leaf hu hu0
     have hstp : scanF (pgD D) (10000 - k) (pm : Int) = keysK u.ks ++ scanF (pgD D) (10000 - (k + 1)) (nodeP 0 u.ks u.nx u.hi).right := hstp k hlt
     have hnx : (nodeP 0 u.ks u.nx u.hi).right = 0 ∨ ∃ u', I (nodeP 0 u.ks u.nx u.hi).right = some u' ∧ u'.lv = 0 := hnx
     obtain ⟨hl9, hm9⟩ := hits_all hok
     have hm9 : hitsM (nodeP 0 u.ks u.nx u.hi) [] = !decide ((nodeP 0 u.ks u.nx u.hi).right = 0) := hm9
     have hec := (entL_nd hok).2
     obtain ⟨g, cap, hx⟩ := for_cells HSC.out.tab hmD hP
     have hht := fun (u' : World) (hu' : Grow wC u') => hits_any (nodeP 0 u.ks u.nx u.hi) pv [] [] u' (for_in (HSC.out.tab.fits hu') hmD hP).1
     simp only [str_nil9] at hht
     unfold HitsPost at hht
     simp only [hl9, hm9, hec] at hht
     have hll : (keysK u.ks).length ≤ 255 := by
      have := ((fit_iff 0 u.ks u.nx u.hi).1 hok.fit).1
      simpa [keysK] using this
     have hsum : S.length + (keysK u.ks).length ≤ A.length := by
      have h9 := congrArg List.length HScn.out
      rw [hstp] at h9
      simp only [List.length_append] at h9
      omega
     have hstp2 : (S ++ keysK u.ks) ++ scanF (pgD D) (10000 - (k + 1)) (nodeP 0 u.ks u.nx u.hi).right = A := by rw [List.append_assoc, ← hstp]; exact HScn.out
     generalize nodeP 0 u.ks u.nx u.hi = P at *
     generalize keysK u.ks = L at *
     unfold pgV at hht
     have HX := keep hx
     have HHt := keep hht
     have HNx := keep hnx
     have HSum := keep hsum
     have HStp := keep hstp2
     have HHM := keep hmD
     obtain ⟨f0, p0, p1, p2, p3, p4, p5⟩ := hx wr HG.out
     clear hx hht hnx hstp hl9 hm9 hec hsum hstp2 hu hu0 hok hP h1m HScn
     go_wp2_with fail
     refine (HHt.out wr HG.out).mono ?_
     rintro x wD ⟨xa, xc, rfl, hes, hbD⟩
     have HES := keep (RowS.weak hes)
     have HGD := keep (Grow.trans HG.out hbD)
     have HOd := keep (owns_fits HOs.out hbD : OwnE _ _ _ _)
     clear f0 p0 p1 p2 p3 p4 p5 hes hbD HHt
     obtain ⟨f0, p0, p1, p2, p3, p4, p5⟩ := HX.out wD HGD.out
     have hAl := HAl.out
     by_cases hz : P.right = 0
     ·have eZ : decide (P.right = 0) = true := decide_eq_true hz
      have eR : (P.right != 0) = false := by simp [hz]
      have HZ := keep hz
      clear hz
      go_upto_region 42 with (at_builtin; go_must (refine wpList_eapp rfl _ _ rfl wC.heap.size S L _ _ rfl rfl HOd.out HES.out (by have := HSum.out; omega) HGD.out.size ?_); intro oe oc3 wd ho hg; have HOc := keep ho; have HGc := keep (Below.trans HGD.out (grown_below HOd.out hg HGD.out.size) : Grow wC wd); clear ho hg)
      clear f0 p0 p1 p2 p3 p4 p5
      obtain ⟨f0, p0, p1, p2, p3, p4, p5⟩ := HX.out wd HGc.out
      go_wp2_with fail
      go_roundw
      case rel => exact show S4Rel _ _ _ _ _ _ _ _ from ⟨k + 1, P.right, S ++ L, hlt, by go_num, rfl, keep (ownE_len HOc.out (by rw [List.length_append])), HStp, HNx, HGc⟩
      case measure => simp [intOf]; omega
     ·have eZ : decide (P.right = 0) = false := decide_eq_false hz
      have eR : (P.right != 0) = true := by simp [hz]
      have HZ := keep hz
      clear hz
      go_upto_region 42 with (at_builtin; go_must (refine wpList_eapp rfl _ _ rfl wC.heap.size S L _ _ rfl rfl HOd.out HES.out (by have := HSum.out; omega) HGD.out.size ?_); intro oe oc3 wd ho hg; have HOc := keep ho; have HGc := keep (Below.trans HGD.out (grown_below HOd.out hg HGD.out.size) : Grow wC wd); clear ho hg)
      clear f0 p0 p1 p2 p3 p4 p5
      obtain ⟨f0, p0, p1, p2, p3, p4, p5⟩ := HX.out wd HGc.out
      go_wp2_with fail
      go_roundw
      case rel => exact show S4Rel _ _ _ _ _ _ _ _ from ⟨k + 1, P.right, S ++ L, hlt, by go_num, rfl, keep (ownE_len HOc.out (by rw [List.length_append])), HStp, HNx, HGc⟩
      case measure => simp [intOf]; omega
    ·have hS : S = A := by
      have := HScn.out
      rw [scan_end _ _ _ (.inr (by omega)), List.append_nil] at this
      exact this
     have HS9 := keep hS
     clear hS
     go_wp2_with fail
     go_meet
     case rel => exact ⟨sa, sc, by rw [HS9.out], keep (by rw [← HS9.out]; exact HOs.out), HG⟩
   ·have hS : S = A := by
     have := HScn.out
     rw [scan_end _ _ _ (.inl (by omega)), List.append_nil] at this
     exact this
    have HS9 := keep hS
    clear hS
    go_wp2_with fail
    go_meet
    case rel => exact ⟨sa, sc, by rw [HS9.out], keep (by rw [← HS9.out]; exact HOs.out), HG⟩
 case rest =>
 obtain ⟨sa, sc, rfl, HOs, HG⟩ := hcut
 generalize wc = wE at *
 have HH := keep (hits_same A _ _ wE (OwnE.ens HOs.out).weak (((OwnE.ens HO.out).weak.fits HGC.out).fits HG.out) (by have := HAl.out; omega))
 go_wp2_with fail
 refine HH.out.mono ?_
 rintro x wF ⟨rfl, hbF⟩
 have HGF := keep (Grow.trans (Grow.trans HGC.out HG.out) hbF)
 clear hbF HH
 go_wp2_with fail
 refine (awake15_any wF).mono ?_
 rintro x wG ⟨rfl, hbG⟩
 go_wp2_with fail
 go_ret
 exact ⟨rfl, HF.out.trans (Below.mono (Grow.trans HGF.out hbG) HS.out.low)⟩
end Go.Proofs.Ytaninphcgeaepaa
