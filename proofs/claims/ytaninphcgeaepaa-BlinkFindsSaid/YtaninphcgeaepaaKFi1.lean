import Derived.Test.YtaninphcgeaepaaKFe2
import Derived.Test.YtaninphcgeaepaaKBl11
import Derived.Test.YtaninphcgeaepaaKLexr
import Derived.Laws.OwnMore
import Derived.Test.YtaninphcgeaepaaKAp1
import Derived.Deep.CutRange
import Derived.BigQuiet
namespace Go.Proofs.Ytaninphcgeaepaa
open Go.RowKit
variable {F : List Pg} {I : Int → Option Nv} {top : Int} {q : Nat} {v : Nv} {e : En} {lv r : Int} {ks : Ks} {h : Option En} {bs fr : Nat} {w w' : World} {D : Fr} {m : Nat} {iv : Value}
structure Fst (bs fr : Nat) (w : World) (D : Fr) (I : Int → Option Nv) (top : Int) (q : Nat) : Prop where
 tab : ForT bs w fr D
 fo : Fo (pgD D) I top q
 low : bs ≤ w.heap.size
theorem Fst.fits (H : Fst bs fr w D I top q) (g : Grow w w') : Fst bs fr w' D I top q := ⟨H.tab.fits g, H.fo, Nat.le_trans H.low g.size⟩
theorem Fst.but {c t : Nat} {cs : List Value} (H : Fst bs fr w D I top q) (hb : Blk w c t cs) (h1 : t ≠ 31) (h2 : t ≠ 27) (h3 : t ≠ 9) (k : But c w w') : Fst bs fr w' D I top q := ⟨H.tab.but hb h1 h2 h3 k, H.fo, Nat.le_trans H.low k.size⟩
structure At (D : Fr) (I : Int → Option Nv) (e : En) (m : Nat) (v : Nv) (iv : Value) : Prop where
 here : I (m : Int) = some v
 lv : v.lv = 0
 rng : inR v.lo v.hi e
 one : 1 ≤ m
 pg : ∃ hm : m < D.length, D[m] = (nodeP 0 v.ks v.nx v.hi, iv)
 ok : NodeOk 0 v.ks v.nx v.hi
 found : findF (pgD D) 0 e 10000 1 = (m : Int)
theorem Fst.at (H : Fst bs fr w D I top q) (he : enOk e = true) (hq : q ≤ 19000) : ∃ m v iv, At D I e m v iv := by
 obtain ⟨v, hv, hvl, hR⟩ := find_root H.fo ⟨Int.le_refl 0, H.fo.top_nn⟩ he hq
 obtain ⟨hn1, hn2, hn3, hok⟩ := H.fo.here _ _ hv
 obtain ⟨m, hm⟩ := Int.eq_ofNat_of_zero_le (show 0 ≤ findF (pgD D) 0 e 10000 1 by omega)
 rw [hm] at hv
 obtain ⟨h1, hmD, iv, hP⟩ := page_at H.fo hv
 rw [hvl] at hP hok
 exact ⟨m, v, iv, hv, hvl, hR, h1, ⟨hmD, hP⟩, hok, hm⟩
theorem At.lt (A : At D I e m v iv) : m < D.length := A.pg.1
theorem At.page (A : At D I e m v iv) : D[m]'A.lt = (nodeP 0 v.ks v.nx v.hi, iv) := A.pg.2
theorem Fst.mem (H : Fst bs fr w D I top q) (A : At D I e m v iv) (hx : Has I e) : e ∈ keysK v.ks := by
 obtain ⟨n, u, hu, h0, hk⟩ := hx
 have := H.fo.one hu A.here (by rw [h0, A.lv]) (H.fo.range hu h0 hk).2 A.rng
 subst this
 rw [A.here] at hu
 cases hu
 exact hk
theorem At.has (A : At D I e m v iv) (hx : e ∈ keysK v.ks) : Has I e := ⟨_, v, A.here, A.lv, hx⟩
theorem find_st (H : Fst bs fr w D I top q) (A : At D I e m v iv) : Calls Try.prog 9 #[.pointer (some ⟨fr, 0, none⟩), .int .i64 0, enV e] w fun x w' => x = .returned (.int .i64 (m : Int)) ∧ Below w.heap.size w w' := by
 have := finds_any bs fr D 0 e w H.tab
 rw [A.found] at this
 exact this
theorem At.comes (A : At D I e m v iv) (he : enOk e = true) : Comes 0 v.hi e 0 := comes_leaf he A.rng
theorem At.small (_A : At D I e m v iv) (he : enOk e = true) : ((enBytes e []).length : Int) ≤ 140737488355328 := by have := enBytes_31 he; omega
theorem enter_st (H : Fst bs fr w D I top q) (he : enOk e = true) (hq : q ≤ 500) (told : Bool) :
  Calls Try.prog 8 #[.pointer (some ⟨fr, 0, none⟩), .int .i64 0, enV e, .string (str (enBytes e [])), .bool told] w fun x w' => x = .returned (.bool true) ∧ (∃ D' I' top' q', Fst bs fr w' D' I' top' q' ∧ q' ≤ q + 1 ∧ ∀ x, Has I' x ↔ Has I x ∨ x = e) ∧ Fel bs w w' := by
 refine (enters_leaf bs fr D I top q e told w H.tab H.low H.fo hq he).mono ?_
 rintro x w' ⟨hx, ⟨D', hD, I', top', q', hI, hq', hh⟩, hfe⟩
 exact ⟨hx, ⟨D', I', top', q', ⟨hD, hI, Nat.le_trans H.low hfe.low.size⟩, hq', fun x => by rw [hh]; simp⟩, hfe⟩
def I0 : Int → Option Nv := fun m => if m = 1 then some v0 else none
theorem first_st (bs : Nat) (w w' : World) (hb : bs ≤ w.heap.size) (h : w' = (w.alloc (.cells #[.int .i64 0, .int .i64 0, .int .i64 0, .int .i64 0, .string ⟨#[]⟩, .slice none 0 0, .int .i64 0, .int .i64 3, .int .i64 0, .int .i64 0, .string (str []), .slice none 0 0] 27)).alloc (.cells #[.slice (some ⟨w.heap.size, 0, none⟩) 2 2] 31)) :
  Fst bs (w.heap.size + 1) w' [(zeroP, .slice none 0 0), (leafP, .slice none 0 0)] I0 0 0 ∧ Grow w w' := by
 have hg : Grow w w' := by subst h; exact ((Grow.refl w).alloc _).alloc _
 refine ⟨⟨⟨by omega, ⟨.slice (some ⟨w.heap.size, 0, none⟩) 2 2, ?_, ?_⟩, ?_⟩, fo_first, Nat.le_trans hb hg.size⟩, hg⟩
 ·have := Blk.new (w.alloc (.cells #[.int .i64 0, .int .i64 0, .int .i64 0, .int .i64 0, .string ⟨#[]⟩, .slice none 0 0, .int .i64 0, .int .i64 3, .int .i64 0, .int .i64 0, .string (str []), .slice none 0 0] 27)) 31 [.slice (some ⟨w.heap.size, 0, none⟩) 2 2]
  have e : (w.alloc (.cells #[.int .i64 0, .int .i64 0, .int .i64 0, .int .i64 0, .string ⟨#[]⟩, .slice none 0 0, .int .i64 0, .int .i64 3, .int .i64 0, .int .i64 0, .string (str []), .slice none 0 0] 27)).heap.size = w.heap.size + 1 := by simp
  rw [e] at this
  subst h; exact this
 ·have := World.ownsRow_lit (base := bs) (e := 27) (size := 6) w #[.int .i64 0, .int .i64 0, .int .i64 0, .int .i64 0, .string ⟨#[]⟩, .slice none 0 0, .int .i64 0, .int .i64 3, .int .i64 0, .int .i64 0, .string (str []), .slice none 0 0] 2 hb (by decide) rfl
  have h2 := owns_fits this ((Grow.refl _).alloc (.cells #[.slice (some ⟨w.heap.size, 0, none⟩) 2 2] 31))
  subst h
  exact h2
 ·intro p hp
  simp only [List.mem_cons, List.not_mem_nil, or_false] at hp
  rcases hp with rfl | rfl
  ·exact ⟨ItemsC.nil _, zero_fine⟩
  ·exact ⟨ItemsC.nil _, pgFine_nd empty_ok⟩
end Go.Proofs.Ytaninphcgeaepaa
namespace Go.Proofs.Ytaninphcgeaepaa
open Go.RowKit
variable {I : Int → Option Nv} {top : Int} {q : Nat} {v : Nv} {e : En} {lv r : Int} {ks : Ks} {h : Option En} {bs fr : Nat} {w w' : World} {D : Fr} {m : Nat} {iv : Value}
theorem erow_news {w : World} {v : Value} {l : List En} (h : Row w 36 v l.length (eCells l)) (hl : 0 < l.length) : ∃ ad c, v = .slice (some ad) l.length c ∧ ∀ j u, (eCells l)[j]? = some u → w.cell? (ad.add j) = some u := row_news h hl
theorem eapp_run (ty : TypeId) (B : Nat) (xs ys : List En) (v0 v : Value) (w : World) (h0 : OwnE B w v0 xs) (h : Row w 36 v ys.length (eCells ys)) (hb : xs.length + ys.length ≤ 4398046510976) (hB : B ≤ w.heap.size) :
  ∃ v' w', (Builtin.append_ #[22, 22] ty #[v0, v]).run Try.prog w = .ok v' w' ∧ OwnE B w' v' (xs ++ ys) ∧ w.grownBy w' v0.ownBlock := by
 obtain ⟨iE, hiE, hzE0, hzE1, hzE2⟩ := info_parts infoEntryO
 have some_case : ∀ (ad : Addr) (c : Nat), v = .slice (some ad) ys.length c → (∀ j u, (eCells ys)[j]? = some u → w.cell? (ad.add j) = some u) →
   ∃ v' w', (Builtin.append_ #[22, 22] ty #[v0, v]).run Try.prog w = .ok v' w' ∧ OwnE B w' v' (xs ++ ys) ∧ w.grownBy w' v0.ownBlock := by
  rintro ad c rfl hn
  obtain ⟨v', w', hr, h1, h2, _⟩ := run_append_own_at (P := Try.prog) w B 22 ty 36 iE _ 3 32 Try.underlying22 hiE hzE0 hzE1 hzE2 rfl (by decide) v0 xs.length (eCells xs) h0 ad ys.length c (eCells ys) (by rw [eCells_length, Nat.mul_comm]) hn (fun u hu => eC_one hu) (by unfold maxLen; omega) (by omega) hB
  refine ⟨v', w', hr, ?_, h2⟩
  unfold OwnE
  rw [eCells_append, List.length_append]
  exact h1
 by_cases hl : 0 < ys.length
 ·obtain ⟨ad, c, hv, hn⟩ := erow_news h hl
  exact some_case ad c hv hn
 ·have hy : ys = [] := List.eq_nil_of_length_eq_zero (by omega)
  subst hy
  obtain ⟨a, c, rfl⟩ := en_form h
  cases a with
  | some ad => exact some_case ad c rfl (by simp [eCells])
  | none =>
   refine ⟨v0, w, ?_, by rw [List.append_nil]; exact h0, ⟨rfl, rfl, rfl, Nat.le_refl _, fun _ _ _ => rfl⟩⟩
   rcases h0.2 with ⟨rfl, _⟩ | ⟨g, cap, cur, rfl, _, _, hnc, _⟩
   ·simp [Builtin.append_, run_underlying Try.underlying22, sizeOf, typeInfo, hiE, Builtin.lenOf, Builtin.firstCells]
   ·simp [Builtin.append_, run_underlying Try.underlying22, sizeOf, typeInfo, hiE, Builtin.lenOf, Builtin.firstCells, hnc, storeCells]
theorem wpList_eapp {ops : Array Oper} {rest : List Oper} {o : Oper} {a : Act} {Q : Exit → Act → World → Prop} {w : World} (hgd : o.guard = none) (s x : Operand)
  (ho : o.op = .call { callee := .builtin .append, args := #[s, x], argTypes := #[22, 22] }) (B : Nat) (xs ys : List En) (v0 v : Value) (hs : a.eval s = v0) (hx : a.eval x = v)
  (h0 : OwnE B w v0 xs) (h : Row w 36 v ys.length (eCells ys)) (hb : xs.length + ys.length ≤ 4398046510976) (hB : B ≤ w.heap.size)
  (hk : ∀ b c w', OwnE B w' (.slice b (xs ++ ys).length c) (xs ++ ys) → w.grownBy w' v0.ownBlock → wpList Try.prog ops Q rest (a.put o.dst (.slice b (xs ++ ys).length c)) w') : wpList Try.prog ops Q (o :: rest) a w := by
 obtain ⟨v', w', hr, h1, h2⟩ := eapp_run o.type B xs ys v0 v w h0 h hb hB
 obtain ⟨b, c, rfl⟩ := own_form h1
 exact wpList_upon_append hgd ho hs hx hr (hk b c w' h1 h2)
theorem ownE_nil (B : Nat) (w : World) : OwnE B w (.slice none 0 0) [] := ⟨rfl, .inl ⟨rfl, rfl⟩⟩
theorem Fst.grown {B : Nat} {v0 : Value} {xs : List En} (H : Fst bs fr w D I top q) (h0 : OwnE B w v0 xs) (hg : w.grownBy w' v0.ownBlock) : Fst bs fr w' D I top q := by
 rcases but_grown h0 hg with hb | ⟨g, cs, k, hB, _⟩
 ·exact H.fits hb
 ·exact H.but hB (by decide) (by decide) (by decide) k
theorem grown_below {B : Nat} {v0 : Value} {xs : List En} (h0 : OwnE B w v0 xs) (hg : w.grownBy w' v0.ownBlock) (hB : B ≤ w.heap.size) : Below B w w' := by
 rcases but_grown h0 hg with hb | ⟨g, cs, k, hb, h1⟩
 ·exact hb.mono hB
 ·exact But.below (Below.refl _ _) k h1 hB
theorem entL_nd (H : NodeOk 0 ks r h) : entL (nodeP 0 ks r h) = keysK ks ∧ entC (nodeP 0 ks r h) = 0 := by
 have he : entriesOk (nodeP 0 ks r h) = true := by
  unfold entriesOk
  rw [nd_open H]
  rfl
 unfold entL entC
 rw [he, nd_ens H]
 exact ⟨rfl, rfl⟩
theorem bless_self : ∀ a : List UInt8, Op.bytesLess a a = false
 | [] => rfl
 | x :: a => by simp [Op.bytesLess, bless_self a]
theorem bless_more : ∀ a : List UInt8, Op.bytesLess a (a ++ [0]) = true
 | [] => rfl
 | x :: a => by simp [Op.bytesLess, bless_more a]
theorem hits_key (H : NodeOk 0 ks r h) (he : e ∈ keysK ks) : e ∈ hitsL (nodeP 0 ks r h) e.1 (e.1 ++ [0]) := by
 unfold hitsL
 rw [(entL_nd H).1, List.mem_filter]
 refine ⟨he, ?_⟩
 unfold insideB belowB
 rw [bless_self, bless_more]
 simp
theorem hitsM_right {P : Pg} {tt : List UInt8} (h : hitsM P tt = true) : P.right ≠ 0 := by
 unfold hitsM at h
 simp only [Bool.and_eq_true, Bool.not_eq_true', decide_eq_false_iff_not] at h
 exact h.1.2
theorem str_more (k : List UInt8) : str k ++ ⟨#[0]⟩ = str (k ++ [0]) := by
 rw [show (⟨#[0]⟩ : ByteArray) = str [0] from rfl, str_app]
theorem hits_st (H : Fst bs fr w D I top q) (A : At D I e m v iv) (a b : List UInt8) : Calls Try.prog 10 #[pgV (nodeP 0 v.ks v.nx v.hi) iv, .string (str a), .string (str b)] w (HitsPost (nodeP 0 v.ks v.nx v.hi) a b w) :=
 hits_any _ iv a b w (for_in H.tab A.lt A.page).1
end Go.Proofs.Ytaninphcgeaepaa
namespace Go.Proofs.Ytaninphcgeaepaa
open Go.RowKit
attribute [local simp] eql_entry
attribute [local go_sem] guard_entry
attribute [local go_sem] givesF_none givesF_some evalF_tmp evalF_const evalF_global evalF_func lookL isB_bool isB_undef givesUpon_value givesUpon_skip givesUpon_enter
def bCells (l : List Bool) : List Value := l.map fun b => Value.bool b
theorem bools_at {w : World} {v : Value} {l : List Bool} (h : Row w 4 v l.length (bCells l)) {k : Nat} (hk : k < l.length) : ∃ c off cap, v = .slice (some ⟨c, off, none⟩) l.length cap ∧ ∀ u, Grow w u → u.cell? ⟨c, off + k, none⟩ = some (.bool l[k]) := by
 rcases h with ⟨h1, _⟩ | ⟨c, off, cap, h1, h2⟩
 ·omega
 ·refine ⟨c, off, cap, h1, fun u hu => ?_⟩
  have h3 := h2 k (by simpa [bCells] using hk)
  rw [Below.cell hu (World.block_lt_of_cell? w _ h3), h3]
  simp [bCells]
def FiRel (bs fr n9 : Nat) (w_ : World) (va i : Value) (wr : World) : Prop := ∃ (n : Nat) (D : Fr) (I : Int → Option Nv) (top : Int) (q : Nat) (A : List En), n ≤ n9 ∧ n ≤ 300 ∧ i = .int .i64 n ∧ Kept (Fst bs fr wr D I top q) ∧ Kept (q ≤ n) ∧ Kept (OwnE bs wr va A) ∧ Kept (∀ x ∈ A, enOk x = true ∧ Has I x) ∧ Kept (A.length ≤ n) ∧ Kept (Below bs w_ wr)
def FiCut (bs fr : Nat) (w_ : World) (va : Value) (wr : World) : Prop := ∃ (D : Fr) (I : Int → Option Nv) (top : Int) (q : Nat) (A : List En), Kept (Fst bs fr wr D I top q) ∧ Kept (q ≤ 300) ∧ Kept (OwnE bs wr va A) ∧ Kept (∀ x ∈ A, enOk x = true ∧ Has I x) ∧ Kept (A.length ≤ 300) ∧ Kept (Below bs w_ wr)
def FaRel (n9 : Nat) (wA : World) (i : Value) (wr : World) : Prop := ∃ n : Nat, n ≤ n9 ∧ i = .int .i64 n ∧ Kept (Grow wA wr)
def HasRel (L : List En) (x : En) (wB : World) (has i : Value) (wr : World) : Prop := ∃ k : Nat, k ≤ L.length ∧ has = .bool (decide (x ∈ L.take k)) ∧ i = .int .i64 k ∧ Kept (Grow wB wr)
theorem encN_ok9 {e : En} (h : enOk e = true) : encN e = (enBytes e [], 0) := by unfold encN; rw [h]; rfl
theorem encN_no9 {e : En} (h : enOk e = false) : encN e = ([], 140) := by unfold encN; rw [h]; rfl
theorem key_24 {e : En} (h : enOk e = true) : (e.1.length : Int) ≤ 24 := by
 unfold enOk inB at h
 simp at h
 omega
theorem has_step {L : List En} {x : En} {k : Nat} (h : k < L.length) : decide (x ∈ L.take (k + 1)) = (decide (x ∈ L.take k) || sameE L[k] x) := by
 rw [List.take_succ_eq_append_getElem h]
 unfold sameE
 have : (x ∈ L.take k ++ [L[k]]) ↔ (x ∈ L.take k ∨ L[k] = x) := by
  rw [List.mem_append, List.mem_singleton]
  exact or_congr Iff.rfl ⟨Eq.symm, Eq.symm⟩
 rw [decide_eq_decide.2 this, Bool.decide_or]
set_option maxRecDepth 100000 in
set_option maxHeartbeats 8000000 in
theorem finds_law (l : List En) (va : Value) (b : List Bool) (vb : Value) (w_ : World) (hl : Row w_ 36 va l.length (eCells l)) (hb : Row w_ 4 vb b.length (bCells b)) (hbl : (b.length : Int) ≤ 140737488355328) :
  Calls Try.prog 3 #[va, vb] w_ fun x w' => x = .returned (.bool true) ∧ Below w_.heap.size w_ w' := by
 obtain ⟨la, lc, rfl⟩ := en_form hl
 obtain ⟨ta, tc, rfl⟩ := row_slice hb
 have HL := keep hl
 have HT := keep hb
 have HTl := keep hbl
 clear hl hb hbl
 go_enter Try.func3, Try.ntmps3
 go_wp2_with fail
 refine (leaf_any w_).mono ?_
 rintro x w1 ⟨rfl, hb1⟩
 unfold pgV leafP
 go_upto_block 0 with fail
 obtain ⟨w2, hw2⟩ : ∃ w2, w2 = (w1.alloc (.cells #[.int .i64 0, .int .i64 0, .int .i64 0, .int .i64 0, .string ⟨#[]⟩, .slice none 0 0, .int .i64 0, .int .i64 3, .int .i64 0, .int .i64 0, .string (str []), .slice none 0 0] 27)).alloc (.cells #[.slice (some ⟨w1.heap.size, 0, none⟩) 2 2] 31) := ⟨_, rfl⟩
 rw [← hw2]
 obtain ⟨hS2, hg2⟩ := first_st w_.heap.size w1 w2 hb1.size hw2
 have HS2 := keep hS2
 have HG2 := keep (Grow.trans hb1 hg2)
 generalize w1.heap.size + 1 = fr at *
 clear hw2 hS2 hb1 hg2
 go_cut [6] from 6 to 68 (fun s6 wx => FiCut w_.heap.size fr w_ s6 wx)
 case first =>
  go_wp2_with fail
  go_loopw [6, 7] (fun va i wr => FiRel w_.heap.size fr l.length w_ va i wr) (fun _ i _ => l.length - (intOf i).toNat)
  case atStart => exact show FiRel _ _ _ _ _ _ _ from ⟨0, _, _, _, _, [], Nat.zero_le _, by omega, rfl, HS2, keep (Nat.le_refl _), keep (ownE_nil _ _), keep (by simp), keep (by simp), HG2⟩
  case round =>
   obtain ⟨n, D, I, top, q, A, hn1, hn2, rfl, HS, HQ, HO, HA, HAl, HF⟩ := hrel
   obtain ⟨ga, gc, rfl⟩ := own_form HO.out
   by_cases h1 : n < l.length
   ·by_cases h2 : n < 300
    ·obtain ⟨c1, off1, cap1, e1, hc1⟩ := en_at HL.out h1
     simp only [Value.slice.injEq] at e1
     obtain ⟨rfl, -, rfl⟩ := e1
     have hgr : Grow w_ wr := HF.out
     have henc := encode_any l[n] wr
     have hent := fun (u : World) (hu : Grow wr u) (he : enOk l[n] = true) (told : Bool) => enter_st (HS.out.fits hu) he (by have := HQ.out; omega) told
     generalize l[n] = x at *
     obtain ⟨xk, xp, xq⟩ := x
     dsimp only at hc1
     have HC0 := keep hc1
     have HC := keep (fun (u : World) (hu : Grow wr u) => hc1 u (Grow.trans hgr hu))
     obtain ⟨a0, a1, a2⟩ := HC.out wr (Grow.refl _)
     unfold enV at henc hent
     dsimp only at henc hent
     cases hok : enOk (xk, xp, xq) with
     | true =>
      rw [encN_ok9 hok] at henc
      have HEnc := keep henc
      have HOk := keep hok
      have HEnt := keep (fun (u : World) (hu : Grow wr u) (told : Bool) => hent u hu hok told)
      clear hc1 hgr henc hent hok
      go_wp2_with fail
      refine HEnc.out.mono ?_
      rintro x w3 ⟨rfl, hb3⟩
      clear a0 a1 a2
      have HG3 := keep hb3
      clear hb3 HEnc
      go_upto_region 8 with fail
      by_cases hT0 : b.length = 0
      ·have hT1 : ((b.length : Int) == 0) = true := by simp [hT0]
       clear hT0
       refine wp_region_grow_named (by kernel_rfl) 18 (by kernel_rfl) [(42, 0), (43, 1), (44, 2), (45, 3), (46, 4), (47, 5), (48, 6), (49, 7), (50, 8), (51, 9), (52, 10), (53, 11), (54, 12), (55, 13), (56, 14), (57, 15), (58, 16), (59, 17)] (by kernel_rfl) [(0, true), (1, true), (2, true), (3, true), (4, true), (5, true), (6, true), (7, true), (8, true), (9, true), (10, true), (11, true), (12, true), (13, true), (14, true), (15, true), (16, true), (17, true)] (by kernel_rfl) rfl rfl ?_
       intro a0 ha0
       have hsz : a0.tmps.size = 145 := (size_at ha0).trans rfl
       have s0 := slot_at ha0 0 rfl
       have s1 := slot_at ha0 1 rfl
       have s5 := slot_at ha0 5 rfl
       have s7 := slot_at ha0 7 rfl
       have s8 := slot_at ha0 8 rfl
       have HA0 := keep ha0
       clear ha0
       apply lq hsz [] [(43, 1), (44, 2), (45, 3), (46, 4), (47, 5), (48, 6), (49, 7), (50, 8), (51, 9), (52, 10), (53, 11), (54, 12), (55, 13), (56, 14), (57, 15), (58, 16), (59, 17), (61, 19)] none (by kernel_rfl) rfl
       ·intro xs w hw hp K hK
        go_simp
        exact hK _ (Grow.refl _)
       apply lq hsz [] [(42, 0), (44, 2), (46, 4), (47, 5), (48, 6), (49, 7), (50, 8), (51, 9), (52, 10), (53, 11), (54, 12), (55, 13), (56, 14), (57, 15), (58, 16), (59, 17), (60, 18), (61, 19)] none (by kernel_rfl) rfl
       ·intro xs w hw hp K hK
        go_simp
        exact hK _ (Grow.refl _)
       apply lq hsz [] [(42, 0), (43, 1), (46, 4), (47, 5), (48, 6), (49, 7), (50, 8), (51, 9), (52, 10), (53, 11), (54, 12), (55, 13), (56, 14), (57, 15), (58, 16), (59, 17), (60, 18), (61, 19)] none (by kernel_rfl) rfl
       ·intro xs w hw hp K hK
        go_simp
        exact hK _ (Grow.refl _)
       apply lq hsz [(1, true), (2, true)] [(42, 0), (43, 1), (44, 2), (47, 5), (48, 6), (49, 7), (50, 8), (51, 9), (52, 10), (53, 11), (54, 12), (55, 13), (56, 14), (57, 15), (58, 16), (59, 17), (60, 18), (61, 19)] none (by kernel_rfl) rfl
       ·intro xs w hw hp K hK
        simp only [holdsL, List.nil_append, List.cons_append, List.getD_cons_succ, List.getD_cons_zero, if_true, and_true] at hp
        go_simp
        exact hK _ (Grow.refl _)
       apply lq hsz [(3, true)] [(42, 0), (43, 1), (44, 2), (45, 3), (47, 5), (48, 6), (49, 7), (50, 8), (51, 9), (52, 10), (53, 11), (54, 12), (55, 13), (56, 14), (57, 15), (58, 16), (59, 17), (61, 19)] none (by kernel_rfl) rfl
       ·intro xs w hw hp K hK
        simp only [holdsL, List.nil_append, List.cons_append, List.getD_cons_succ, List.getD_cons_zero, if_true, and_true] at hp
        obtain ⟨a0, a1, a2⟩ := HC.out w (Grow.trans HG3.out (Grow.undrew hw))
        go_simp
        exact hK _ (Grow.refl _)
       apply lq hsz [] [(42, 0), (43, 1), (44, 2), (45, 3), (46, 4), (48, 6), (49, 7), (50, 8), (51, 9), (52, 10), (53, 11), (54, 12), (55, 13), (56, 14), (57, 15), (58, 16), (59, 17), (61, 19)] none (by kernel_rfl) rfl
       ·intro xs w hw hp K hK
        go_simp
        exact hK _ (Grow.refl _)
       apply lq hsz [] [(42, 0), (43, 1), (44, 2), (45, 3), (46, 4), (47, 5), (50, 8), (51, 9), (52, 10), (53, 11), (54, 12), (55, 13), (56, 14), (57, 15), (58, 16), (59, 17), (60, 18), (61, 19)] none (by kernel_rfl) rfl
       ·intro xs w hw hp K hK
        go_simp
        exact hK _ (Grow.refl _)
       apply lq hsz [(6, true)] [(42, 0), (43, 1), (44, 2), (45, 3), (46, 4), (47, 5), (48, 6), (51, 9), (52, 10), (53, 11), (54, 12), (55, 13), (56, 14), (57, 15), (58, 16), (59, 17), (60, 18), (61, 19)] none (by kernel_rfl) rfl
       ·intro xs w hw hp K hK
        simp only [holdsL, List.nil_append, List.cons_append, List.getD_cons_succ, List.getD_cons_zero, if_true, and_true] at hp
        go_simp
        exact hK _ (Grow.refl _)
       apply lq hsz [(7, true)] [(42, 0), (43, 1), (44, 2), (45, 3), (46, 4), (47, 5), (48, 6), (49, 7), (52, 10), (53, 11), (54, 12), (55, 13), (56, 14), (57, 15), (58, 16), (59, 17), (60, 18), (61, 19)] none (by kernel_rfl) rfl
       ·intro xs w hw hp K hK
        simp only [holdsL, List.nil_append, List.cons_append, List.getD_cons_succ, List.getD_cons_zero, if_true, and_true] at hp
        go_simp
        exact hK _ (Grow.refl _)
       apply lq hsz [(8, true)] [(42, 0), (43, 1), (44, 2), (45, 3), (46, 4), (47, 5), (48, 6), (49, 7), (50, 8), (61, 19)] none (by kernel_rfl) rfl
       ·intro xs w hw hp K hK
        simp only [holdsL, List.nil_append, List.cons_append, List.getD_cons_succ, List.getD_cons_zero, if_true, and_true] at hp
        go_simp
        exact hK _ (Grow.refl _)
       apply lq hsz [(9, true)] [(42, 0), (43, 1), (44, 2), (45, 3), (46, 4), (47, 5), (48, 6), (49, 7), (50, 8), (51, 9), (53, 11), (54, 12), (55, 13), (56, 14), (58, 16), (59, 17), (60, 18), (61, 19)] (some (51, false)) (by kernel_rfl) rfl
       ·intro xs w hw hp K hK
        simp only [holdsL, List.nil_append, List.cons_append, List.getD_cons_succ, List.getD_cons_zero, if_true, and_true] at hp
        go_simp
        exact hK _ (Grow.refl _)
       apply lq hsz [(9, true)] [(42, 0), (43, 1), (44, 2), (45, 3), (46, 4), (47, 5), (48, 6), (49, 7), (50, 8), (51, 9), (52, 10), (54, 12), (55, 13), (57, 15), (58, 16), (59, 17), (60, 18), (61, 19)] (some (51, false)) (by kernel_rfl) rfl
       ·intro xs w hw hp K hK
        simp only [holdsL, List.nil_append, List.cons_append, List.getD_cons_succ, List.getD_cons_zero, if_true, and_true] at hp
        go_simp
        exact hK _ (Grow.refl _)
       apply lq hsz [(9, true)] [(42, 0), (43, 1), (44, 2), (45, 3), (46, 4), (47, 5), (48, 6), (49, 7), (50, 8), (51, 9), (52, 10), (53, 11), (56, 14), (57, 15), (58, 16), (59, 17), (60, 18), (61, 19)] (some (51, false)) (by kernel_rfl) rfl
       ·intro xs w hw hp K hK
        simp only [holdsL, List.nil_append, List.cons_append, List.getD_cons_succ, List.getD_cons_zero, if_true, and_true] at hp
        go_simp
        exact hK _ (Grow.refl _)
       apply lq hsz [(9, true), (12, true)] [(42, 0), (43, 1), (44, 2), (45, 3), (46, 4), (47, 5), (48, 6), (49, 7), (50, 8), (51, 9), (52, 10), (53, 11), (54, 12), (57, 15), (58, 16), (59, 17), (60, 18), (61, 19)] (some (51, false)) (by kernel_rfl) rfl
       ·intro xs w hw hp K hK
        simp only [holdsL, List.nil_append, List.cons_append, List.getD_cons_succ, List.getD_cons_zero, if_true, and_true] at hp
        go_simp
        exact hK _ (Grow.refl _)
       apply lq hsz [(9, true), (11, true), (13, true)] [(42, 0), (43, 1), (44, 2), (45, 3), (46, 4), (47, 5), (48, 6), (49, 7), (50, 8), (51, 9), (52, 10), (53, 11), (54, 12), (55, 13), (58, 16), (59, 17), (60, 18), (61, 19)] (some (51, false)) (by kernel_rfl) rfl
       ·intro xs w hw hp K hK
        simp only [holdsL, List.nil_append, List.cons_append, List.getD_cons_succ, List.getD_cons_zero, if_true, and_true] at hp
        go_simp
        exact hK _ (Grow.refl _)
       apply lq hsz [(9, true), (10, true), (14, true)] [(42, 0), (43, 1), (44, 2), (45, 3), (46, 4), (47, 5), (48, 6), (49, 7), (50, 8), (51, 9), (52, 10), (53, 11), (54, 12), (55, 13), (56, 14), (59, 17), (60, 18), (61, 19)] (some (51, false)) (by kernel_rfl) rfl
       ·intro xs w hw hp K hK
        simp only [holdsL, List.nil_append, List.cons_append, List.getD_cons_succ, List.getD_cons_zero, if_true, and_true] at hp
        go_simp
        exact hK _ (Grow.refl _)
       apply lq hsz [(9, true), (15, true)] [(42, 0), (43, 1), (44, 2), (45, 3), (46, 4), (47, 5), (48, 6), (49, 7), (50, 8), (51, 9), (52, 10), (53, 11), (54, 12), (55, 13), (56, 14), (57, 15), (60, 18), (61, 19)] (some (51, false)) (by kernel_rfl) rfl
       ·intro xs w hw hp K hK
        simp only [holdsL, List.nil_append, List.cons_append, List.getD_cons_succ, List.getD_cons_zero, if_true, and_true] at hp
        go_simp
        exact hK _ (Grow.refl _)
       apply lq hsz [(9, true), (16, true)] [(42, 0), (43, 1), (44, 2), (45, 3), (46, 4), (47, 5), (48, 6), (49, 7), (50, 8), (51, 9), (52, 10), (53, 11), (54, 12), (55, 13), (56, 14), (57, 15), (58, 16), (61, 19)] none (by kernel_rfl) rfl
       ·intro xs w hw hp K hK
        simp only [holdsL, List.nil_append, List.cons_append, List.getD_cons_succ, List.getD_cons_zero, if_true, and_true] at hp
        go_simp
        exact hK _ (Grow.refl _)
       intro xs w hw hp
       have ha0 := HA0.out
       clear HA0 hsz s0 s1 s5 s7 s8
       simp only [holdsL, List.nil_append, List.cons_append, List.getD_cons_succ, List.getD_cons_zero, if_true, and_true] at hp
       have h42 := hp.1
       have h46 := hp.2.2.2.2.1
       have h47 := hp.2.2.2.2.2.1
       have h59 := hp.2.2.2.2.2.2.2.2.2.2.2.2.2.2.2.2.2
       clear hp
       subst ha0
       simp only [putAll, h42, h46, h47, h59]
       have hg := hw.undrew
       generalize w = w4 at *
       have HG4 := keep (Grow.trans HG3.out hg)
       clear hw hg h42 h46 h47 h59
       go_frame
       go_wp2_with fail
       refine (HEnt.out w4 HG4.out true).mono ?_
       rintro x w5 ⟨rfl, ⟨D', I', top', q', hS', hq', hh⟩, hfe⟩
       have HS5 := keep hS'
       have HQ5 := keep (show q' ≤ n + 1 by have := HQ.out; omega)
       have HF5 := keep ((HF.out.trans (HG4.out.mono HS.out.low)).trans hfe.low)
       have HO5 := keep (owns_fel (owns_fits HO.out HG4.out) hfe (by decide) (by decide))
       have HH5 := keep hh
       obtain ⟨a0, a1, a2⟩ := HC0.out w5 HF5.out
       have HB5 := keep hS'.low
       clear hS' hq' hh hfe HEnt
       go_wp2_with (at_builtin; go_must (refine wpList_eapp rfl _ _ rfl w_.heap.size A [(xk, xp, xq)] _ _ rfl rfl (owns_fits HO5.out ((Grow.refl _).alloc _)) (en_mark _ xk xp xq) (by have := HAl.out; simp; omega) (by have := HB5.out; simp; omega) ?_); intro oa oc w6 ho6 hg6; have HS6 := keep ((HS5.out.fits ((Grow.refl _).alloc _)).grown (owns_fits HO5.out ((Grow.refl _).alloc (.cells #[.string (str xk), .int .i64 xp, .int .i64 xq] 36))) hg6); have HF6 := keep (HF5.out.trans (((Grow.refl w5).alloc (.cells #[.string (str xk), .int .i64 xp, .int .i64 xq] 36)).mono HB5.out |>.trans (grown_below (owns_fits HO5.out ((Grow.refl _).alloc _)) hg6 (by have := HB5.out; simp; omega)))); have HO6 := keep ho6; clear ho6 hg6)
       clear a0 a1 a2
       go_wp2_with fail
       go_roundw
       case rel => exact show FiRel _ _ _ _ _ _ _ from ⟨n + 1, _, _, _, _, A ++ [(xk, xp, xq)], h1, by omega, by go_num, HS6, HQ5, keep (by have h := HO6.out; rw [List.length_append] at h; exact h), keep (fun y hy => by
        rcases List.mem_append.1 hy with hy | hy
        ·exact ⟨(HA.out y hy).1, (HH5.out y).2 (.inl (HA.out y hy).2)⟩
        ·have e9 : y = (xk, xp, xq) := by simpa using hy
         subst e9
         exact ⟨HOk.out, (HH5.out _).2 (.inr rfl)⟩), keep (by have := HAl.out; simp; omega), HF6⟩
       case measure => simp [intOf]; omega
      ·have hT1 : ((b.length : Int) == 0) = false := by simpa using hT0
       obtain ⟨c2, off2, cap2, e2, hc2⟩ := bools_at HT.out (show n % b.length < b.length from Nat.mod_lt _ (by omega))
       simp only [Value.slice.injEq] at e2
       obtain ⟨rfl, -, rfl⟩ := e2
       have hrem : (n : Int).tmod (b.length : Int) = ((n % b.length : Nat) : Int) := by rw [Int.ofNat_tmod]
       have hml : n % b.length < b.length := Nat.mod_lt _ (by omega)
       generalize b[n % b.length] = tb at *
       generalize n % b.length = rm at *
       have HC2 := keep (fun (u : World) (hu : Grow wr u) => hc2 u (Grow.trans HF.out hu))
       clear hc2
       refine wp_region_grow_named (by kernel_rfl) 18 (by kernel_rfl) [(42, 0), (43, 1), (44, 2), (45, 3), (46, 4), (47, 5), (48, 6), (49, 7), (50, 8), (51, 9), (52, 10), (53, 11), (54, 12), (55, 13), (56, 14), (57, 15), (58, 16), (59, 17)] (by kernel_rfl) [(0, true), (1, true), (2, true), (3, true), (4, true), (5, true), (6, true), (7, true), (8, true), (9, true), (10, true), (11, true), (12, true), (13, true), (14, true), (15, true), (16, true), (17, true)] (by kernel_rfl) rfl rfl ?_
       intro a0 ha0
       have hsz : a0.tmps.size = 145 := (size_at ha0).trans rfl
       have s0 := slot_at ha0 0 rfl
       have s1 := slot_at ha0 1 rfl
       have s5 := slot_at ha0 5 rfl
       have s7 := slot_at ha0 7 rfl
       have s8 := slot_at ha0 8 rfl
       have HA0 := keep ha0
       clear ha0
       apply lq hsz [] [(43, 1), (44, 2), (45, 3), (46, 4), (47, 5), (48, 6), (49, 7), (50, 8), (51, 9), (52, 10), (53, 11), (54, 12), (55, 13), (56, 14), (57, 15), (58, 16), (59, 17), (61, 19)] none (by kernel_rfl) rfl
       ·intro xs w hw hp K hK
        go_simp
        exact hK _ (Grow.refl _)
       apply lq hsz [] [(42, 0), (44, 2), (46, 4), (47, 5), (48, 6), (49, 7), (50, 8), (51, 9), (52, 10), (53, 11), (54, 12), (55, 13), (56, 14), (57, 15), (58, 16), (59, 17), (60, 18), (61, 19)] none (by kernel_rfl) rfl
       ·intro xs w hw hp K hK
        go_simp
        exact hK _ (Grow.refl _)
       apply lq hsz [] [(42, 0), (43, 1), (46, 4), (47, 5), (48, 6), (49, 7), (50, 8), (51, 9), (52, 10), (53, 11), (54, 12), (55, 13), (56, 14), (57, 15), (58, 16), (59, 17), (60, 18), (61, 19)] none (by kernel_rfl) rfl
       ·intro xs w hw hp K hK
        go_simp
        exact hK _ (Grow.refl _)
       apply lq hsz [(1, true), (2, true)] [(42, 0), (43, 1), (44, 2), (47, 5), (48, 6), (49, 7), (50, 8), (51, 9), (52, 10), (53, 11), (54, 12), (55, 13), (56, 14), (57, 15), (58, 16), (59, 17), (60, 18), (61, 19)] none (by kernel_rfl) rfl
       ·intro xs w hw hp K hK
        simp only [holdsL, List.nil_append, List.cons_append, List.getD_cons_succ, List.getD_cons_zero, if_true, and_true] at hp
        go_simp
        exact hK _ (Grow.refl _)
       apply lq hsz [(3, true)] [(42, 0), (43, 1), (44, 2), (45, 3), (47, 5), (48, 6), (49, 7), (50, 8), (51, 9), (52, 10), (53, 11), (54, 12), (55, 13), (56, 14), (57, 15), (58, 16), (59, 17), (61, 19)] none (by kernel_rfl) rfl
       ·intro xs w hw hp K hK
        simp only [holdsL, List.nil_append, List.cons_append, List.getD_cons_succ, List.getD_cons_zero, if_true, and_true] at hp
        obtain ⟨a0, a1, a2⟩ := HC.out w (Grow.trans HG3.out (Grow.undrew hw))
        go_simp
        exact hK _ (Grow.refl _)
       apply lq hsz [] [(42, 0), (43, 1), (44, 2), (45, 3), (46, 4), (48, 6), (49, 7), (50, 8), (51, 9), (52, 10), (53, 11), (54, 12), (55, 13), (56, 14), (57, 15), (58, 16), (59, 17), (61, 19)] none (by kernel_rfl) rfl
       ·intro xs w hw hp K hK
        go_simp
        exact hK _ (Grow.refl _)
       apply lq hsz [] [(42, 0), (43, 1), (44, 2), (45, 3), (46, 4), (47, 5), (50, 8), (51, 9), (52, 10), (53, 11), (54, 12), (55, 13), (56, 14), (57, 15), (58, 16), (59, 17), (60, 18), (61, 19)] none (by kernel_rfl) rfl
       ·intro xs w hw hp K hK
        go_simp
        exact hK _ (Grow.refl _)
       apply lq hsz [(6, true)] [(42, 0), (43, 1), (44, 2), (45, 3), (46, 4), (47, 5), (48, 6), (51, 9), (52, 10), (53, 11), (54, 12), (55, 13), (56, 14), (57, 15), (58, 16), (59, 17), (60, 18), (61, 19)] none (by kernel_rfl) rfl
       ·intro xs w hw hp K hK
        simp only [holdsL, List.nil_append, List.cons_append, List.getD_cons_succ, List.getD_cons_zero, if_true, and_true] at hp
        go_simp
        exact hK _ (Grow.refl _)
       apply lq hsz [(7, true)] [(42, 0), (43, 1), (44, 2), (45, 3), (46, 4), (47, 5), (48, 6), (49, 7), (52, 10), (53, 11), (54, 12), (55, 13), (56, 14), (57, 15), (58, 16), (59, 17), (60, 18), (61, 19)] none (by kernel_rfl) rfl
       ·intro xs w hw hp K hK
        simp only [holdsL, List.nil_append, List.cons_append, List.getD_cons_succ, List.getD_cons_zero, if_true, and_true] at hp
        go_simp
        exact hK _ (Grow.refl _)
       apply lq hsz [(8, true)] [(42, 0), (43, 1), (44, 2), (45, 3), (46, 4), (47, 5), (48, 6), (49, 7), (50, 8), (61, 19)] none (by kernel_rfl) rfl
       ·intro xs w hw hp K hK
        simp only [holdsL, List.nil_append, List.cons_append, List.getD_cons_succ, List.getD_cons_zero, if_true, and_true] at hp
        go_simp
        exact hK _ (Grow.refl _)
       apply lq hsz [(9, true)] [(42, 0), (43, 1), (44, 2), (45, 3), (46, 4), (47, 5), (48, 6), (49, 7), (50, 8), (51, 9), (53, 11), (54, 12), (55, 13), (56, 14), (58, 16), (59, 17), (60, 18), (61, 19)] (some (51, false)) (by kernel_rfl) rfl
       ·intro xs w hw hp K hK
        simp only [holdsL, List.nil_append, List.cons_append, List.getD_cons_succ, List.getD_cons_zero, if_true, and_true] at hp
        go_simp
        exact hK _ (Grow.refl _)
       apply lq hsz [(9, true)] [(42, 0), (43, 1), (44, 2), (45, 3), (46, 4), (47, 5), (48, 6), (49, 7), (50, 8), (51, 9), (52, 10), (54, 12), (55, 13), (57, 15), (58, 16), (59, 17), (60, 18), (61, 19)] (some (51, false)) (by kernel_rfl) rfl
       ·intro xs w hw hp K hK
        simp only [holdsL, List.nil_append, List.cons_append, List.getD_cons_succ, List.getD_cons_zero, if_true, and_true] at hp
        go_simp
        exact hK _ (Grow.refl _)
       apply lq hsz [(9, true)] [(42, 0), (43, 1), (44, 2), (45, 3), (46, 4), (47, 5), (48, 6), (49, 7), (50, 8), (51, 9), (52, 10), (53, 11), (56, 14), (57, 15), (58, 16), (59, 17), (60, 18), (61, 19)] (some (51, false)) (by kernel_rfl) rfl
       ·intro xs w hw hp K hK
        simp only [holdsL, List.nil_append, List.cons_append, List.getD_cons_succ, List.getD_cons_zero, if_true, and_true] at hp
        go_simp
        exact hK _ (Grow.refl _)
       apply lq hsz [(9, true), (12, true)] [(42, 0), (43, 1), (44, 2), (45, 3), (46, 4), (47, 5), (48, 6), (49, 7), (50, 8), (51, 9), (52, 10), (53, 11), (54, 12), (57, 15), (58, 16), (59, 17), (60, 18), (61, 19)] (some (51, false)) (by kernel_rfl) rfl
       ·intro xs w hw hp K hK
        simp only [holdsL, List.nil_append, List.cons_append, List.getD_cons_succ, List.getD_cons_zero, if_true, and_true] at hp
        go_simp
        exact hK _ (Grow.refl _)
       apply lq hsz [(9, true), (11, true), (13, true)] [(42, 0), (43, 1), (44, 2), (45, 3), (46, 4), (47, 5), (48, 6), (49, 7), (50, 8), (51, 9), (52, 10), (53, 11), (54, 12), (55, 13), (58, 16), (59, 17), (60, 18), (61, 19)] (some (51, false)) (by kernel_rfl) rfl
       ·intro xs w hw hp K hK
        simp only [holdsL, List.nil_append, List.cons_append, List.getD_cons_succ, List.getD_cons_zero, if_true, and_true] at hp
        go_simp
        exact hK _ (Grow.refl _)
       apply lq hsz [(9, true), (10, true), (14, true)] [(42, 0), (43, 1), (44, 2), (45, 3), (46, 4), (47, 5), (48, 6), (49, 7), (50, 8), (51, 9), (52, 10), (53, 11), (54, 12), (55, 13), (56, 14), (59, 17), (60, 18), (61, 19)] (some (51, false)) (by kernel_rfl) rfl
       ·intro xs w hw hp K hK
        simp only [holdsL, List.nil_append, List.cons_append, List.getD_cons_succ, List.getD_cons_zero, if_true, and_true] at hp
        go_simp
        exact hK _ (Grow.refl _)
       apply lq hsz [(9, true), (15, true)] [(42, 0), (43, 1), (44, 2), (45, 3), (46, 4), (47, 5), (48, 6), (49, 7), (50, 8), (51, 9), (52, 10), (53, 11), (54, 12), (55, 13), (56, 14), (57, 15), (60, 18), (61, 19)] (some (51, false)) (by kernel_rfl) rfl
       ·intro xs w hw hp K hK
        simp only [holdsL, List.nil_append, List.cons_append, List.getD_cons_succ, List.getD_cons_zero, if_true, and_true] at hp
        have d0 := HC2.out w (Grow.trans HG3.out (Grow.undrew hw))
        go_simp
        exact hK _ (Grow.refl _)
       apply lq hsz [(9, true), (16, true)] [(42, 0), (43, 1), (44, 2), (45, 3), (46, 4), (47, 5), (48, 6), (49, 7), (50, 8), (51, 9), (52, 10), (53, 11), (54, 12), (55, 13), (56, 14), (57, 15), (58, 16), (61, 19)] none (by kernel_rfl) rfl
       ·intro xs w hw hp K hK
        simp only [holdsL, List.nil_append, List.cons_append, List.getD_cons_succ, List.getD_cons_zero, if_true, and_true] at hp
        go_simp
        exact hK _ (Grow.refl _)
       intro xs w hw hp
       have ha0 := HA0.out
       clear HA0 hsz s0 s1 s5 s7 s8
       simp only [holdsL, List.nil_append, List.cons_append, List.getD_cons_succ, List.getD_cons_zero, if_true, and_true] at hp
       have h42 := hp.1
       have h46 := hp.2.2.2.2.1
       have h47 := hp.2.2.2.2.2.1
       have h59 := hp.2.2.2.2.2.2.2.2.2.2.2.2.2.2.2.2.2
       clear hp
       subst ha0
       simp only [putAll, h42, h46, h47, h59]
       have hg := hw.undrew
       generalize w = w4 at *
       have HG4 := keep (Grow.trans HG3.out hg)
       clear hw hg h42 h46 h47 h59
       go_frame
       go_wp2_with fail
       refine (HEnt.out w4 HG4.out tb).mono ?_
       rintro x w5 ⟨rfl, ⟨D', I', top', q', hS', hq', hh⟩, hfe⟩
       have HS5 := keep hS'
       have HQ5 := keep (show q' ≤ n + 1 by have := HQ.out; omega)
       have HF5 := keep ((HF.out.trans (HG4.out.mono HS.out.low)).trans hfe.low)
       have HO5 := keep (owns_fel (owns_fits HO.out HG4.out) hfe (by decide) (by decide))
       have HH5 := keep hh
       obtain ⟨a0, a1, a2⟩ := HC0.out w5 HF5.out
       have HB5 := keep hS'.low
       clear hS' hq' hh hfe HEnt
       go_wp2_with (at_builtin; go_must (refine wpList_eapp rfl _ _ rfl w_.heap.size A [(xk, xp, xq)] _ _ rfl rfl (owns_fits HO5.out ((Grow.refl _).alloc _)) (en_mark _ xk xp xq) (by have := HAl.out; simp; omega) (by have := HB5.out; simp; omega) ?_); intro oa oc w6 ho6 hg6; have HS6 := keep ((HS5.out.fits ((Grow.refl _).alloc _)).grown (owns_fits HO5.out ((Grow.refl _).alloc (.cells #[.string (str xk), .int .i64 xp, .int .i64 xq] 36))) hg6); have HF6 := keep (HF5.out.trans (((Grow.refl w5).alloc (.cells #[.string (str xk), .int .i64 xp, .int .i64 xq] 36)).mono HB5.out |>.trans (grown_below (owns_fits HO5.out ((Grow.refl _).alloc _)) hg6 (by have := HB5.out; simp; omega)))); have HO6 := keep ho6; clear ho6 hg6)
       clear a0 a1 a2
       go_wp2_with fail
       go_roundw
       case rel => exact show FiRel _ _ _ _ _ _ _ from ⟨n + 1, _, _, _, _, A ++ [(xk, xp, xq)], h1, by omega, by go_num, HS6, HQ5, keep (by have h := HO6.out; rw [List.length_append] at h; exact h), keep (fun y hy => by
        rcases List.mem_append.1 hy with hy | hy
        ·exact ⟨(HA.out y hy).1, (HH5.out y).2 (.inl (HA.out y hy).2)⟩
        ·have e9 : y = (xk, xp, xq) := by simpa using hy
         subst e9
         exact ⟨HOk.out, (HH5.out _).2 (.inr rfl)⟩), keep (by have := HAl.out; simp; omega), HF6⟩
       case measure => simp [intOf]; omega
     | false =>
      rw [encN_no9 hok] at henc
      have HEnc := keep henc
      clear hc1 hgr henc hent hok
      go_wp2_with fail
      refine HEnc.out.mono ?_
      rintro x w3 ⟨rfl, hb3⟩
      have HG3 := keep hb3
      clear a0 a1 a2 hb3 HEnc
      go_wp2_with fail
      go_roundw
      case rel => exact show FiRel _ _ _ _ _ _ _ from ⟨n + 1, _, _, _, _, A, h1, by omega, by go_num, keep (HS.out.fits HG3.out), keep (by have := HQ.out; omega), keep (owns_fits HO.out HG3.out), HA, keep (by have := HAl.out; omega), keep (HF.out.trans (HG3.out.mono HS.out.low))⟩
      case measure => simp [intOf]; omega
    ·go_wp2_with fail
     go_meet
     case rel => exact show FiCut _ _ _ _ _ from ⟨_, _, _, _, A, HS, keep (by have := HQ.out; omega), HO, HA, keep (by have := HAl.out; omega), HF⟩
   ·go_wp2_with fail
    go_meet
    case rel => exact show FiCut _ _ _ _ _ from ⟨_, _, _, _, A, HS, keep (by have := HQ.out; omega), HO, HA, keep (by have := HAl.out; omega), HF⟩
 case rest =>
 obtain ⟨D, I, top, q, A, HS, HQ, HO, HA, HAl, HF⟩ := (show FiCut _ _ _ _ _ from hcut)
 generalize wc = wA at *
 obtain ⟨ga, gc, rfl⟩ := own_form HO.out
 clear HS2 HG2 HL HT HTl
 go_wp2_with fail
 go_loopw [10] (fun i wr => FaRel A.length wA i wr) (fun i _ => A.length - (intOf i).toNat)
 case atStart => exact show FaRel _ _ _ _ from ⟨0, Nat.zero_le _, rfl, keep (Grow.refl _)⟩
 case round =>
  obtain ⟨n, hn, rfl, HG⟩ := hrel
  by_cases h1 : n < A.length
  ·obtain ⟨c1, off1, cap1, e1, hc1⟩ := en_at (OwnE.ens HO.out).weak h1
   simp only [Value.slice.injEq] at e1
   obtain ⟨rfl, -, rfl⟩ := e1
   obtain ⟨hok, hhas⟩ := HA.out A[n] (List.getElem_mem h1)
   generalize A[n] = x at *
   have hSr := HS.out.fits HG.out
   obtain ⟨m, v, iv, hA⟩ := hSr.at hok (by have := HQ.out; omega)
   have hin := hSr.mem hA hhas
   have hfi := find_st hSr hA
   obtain ⟨g, cap, hx⟩ := for_cells hSr.tab hA.lt hA.page
   have hhk := hits_key hA.ok hin
   have hll : (hitsL (nodeP 0 v.ks v.nx v.hi) x.1 (x.1 ++ [0])).length ≤ 255 := Nat.le_trans (List.length_filter_le _ _) (entL_len _)
   have hk24 : (x.1.length : Int) ≤ 24 := key_24 hok
   have hht := fun (u : World) (hu : Grow wr u) => hits_st (hSr.fits hu) hA x.1 (x.1 ++ [0])
   have hmr := @hitsM_right (nodeP 0 v.ks v.nx v.hi) (x.1 ++ [0])
   have hec := (entL_nd hA.ok).2
   unfold HitsPost at hht
   rw [hec] at hht
   simp only [← str_more] at hht
   have h1m := hA.one
   have hmD := hA.lt
   obtain ⟨xk, xp, xq⟩ := x
   dsimp only at hc1 hht hmr hhk hk24 hll
   generalize hitsL (nodeP 0 v.ks v.nx v.hi) xk (xk ++ [0]) = L at *
   generalize hitsM (nodeP 0 v.ks v.nx v.hi) (xk ++ [0]) = M at *
   generalize nodeP 0 v.ks v.nx v.hi = P at *
   unfold pgV at hht
   unfold enV at hfi
   dsimp only at hfi
   have eA : decide ((m : Int) < 1) = false := decide_eq_false (by omega)
   have HC := keep (fun (u : World) (hu : Grow wr u) => hc1 u (Grow.trans HG.out hu))
   have HFi := keep hfi
   have HX := keep hx
   have HHt := keep hht
   have HMr := keep hmr
   have HHk := keep hhk
   have HK := keep hk24
   have HLl := keep hll
   clear hc1 hok hhas hSr hA hin hfi hx hhk hht hmr hec h1m hk24 hll
   obtain ⟨a0, a1, a2⟩ := HC.out wr (Grow.refl _)
   go_wp2_with fail
   refine HFi.out.mono ?_
   rintro x wB ⟨rfl, hbB⟩
   have HGB := keep (show Grow wr wB from hbB)
   clear a0 a1 a2 hbB HFi
   go_upto_region 17 with fail
   have hk24 := HK.out
   refine wp_region_grow_named (by kernel_rfl) 25 (by kernel_rfl) [(84, 0), (85, 1), (86, 2), (87, 3), (88, 4), (89, 5), (90, 6), (91, 7), (92, 8), (93, 9), (94, 10), (95, 11), (96, 12), (97, 13), (98, 14), (99, 15), (100, 16), (101, 17), (102, 18), (83, 19), (103, 20), (104, 21), (105, 22), (12, 23), (13, 24)] (by kernel_rfl) [(0, true), (1, true), (2, true), (3, true), (4, true), (5, true), (6, true), (7, true), (8, true), (9, true), (10, true), (11, true), (12, true), (13, true), (14, true), (15, true), (16, true), (17, true), (18, true), (19, true), (20, true), (21, true), (22, true), (23, true), (24, true)] (by kernel_rfl) rfl rfl ?_
   intro a0 ha0
   have hsz : a0.tmps.size = 145 := (size_at ha0).trans rfl
   have s5 := slot_at ha0 5 rfl
   have s6 := slot_at ha0 6 rfl
   have s10 := slot_at ha0 10 rfl
   have s11 := slot_at ha0 11 rfl
   have HA0 := keep ha0
   clear ha0
   apply lq hsz [] [(86, 2), (87, 3), (88, 4), (89, 5), (90, 6), (91, 7), (92, 8), (93, 9), (94, 10), (95, 11), (96, 12), (97, 13), (98, 14), (99, 15), (100, 16), (101, 17), (102, 18), (83, 19), (103, 20), (104, 21), (105, 22)] none (by kernel_rfl) rfl
   ·intro xs w hw hp K hK
    go_simp
    exact hK _ (Grow.refl _)
   apply lq hsz [(0, true)] [(84, 0), (87, 3), (88, 4), (89, 5), (90, 6), (91, 7), (92, 8), (93, 9), (94, 10), (95, 11), (96, 12), (97, 13), (98, 14), (99, 15), (100, 16), (101, 17), (102, 18), (83, 19), (103, 20), (104, 21), (105, 22)] none (by kernel_rfl) rfl
   ·intro xs w hw hp K hK
    simp only [holdsL, List.nil_append, List.getD_cons_zero, if_true, and_true] at hp
    go_simp
    exact hK _ (Grow.refl _)
   apply lq hsz [(1, true)] [(84, 0), (85, 1), (88, 4), (89, 5), (90, 6), (91, 7), (92, 8), (93, 9), (94, 10), (95, 11), (96, 12), (97, 13), (98, 14), (99, 15), (100, 16), (101, 17), (102, 18), (83, 19), (103, 20), (104, 21), (105, 22)] none (by kernel_rfl) rfl
   ·intro xs w hw hp K hK
    simp only [holdsL, List.nil_append, List.cons_append, List.getD_cons_succ, List.getD_cons_zero, if_true, and_true] at hp
    go_simp
    exact hK _ (Grow.refl _)
   apply lq hsz [(2, true)] [(84, 0), (85, 1), (86, 2), (88, 4), (90, 6), (91, 7), (92, 8), (93, 9), (94, 10), (95, 11), (96, 12), (97, 13), (98, 14), (99, 15), (100, 16), (101, 17), (102, 18), (83, 19), (103, 20), (104, 21), (105, 22)] none (by kernel_rfl) rfl
   ·intro xs w hw hp K hK
    simp only [holdsL, List.nil_append, List.cons_append, List.getD_cons_succ, List.getD_cons_zero, if_true, and_true] at hp
    obtain ⟨f0, -⟩ := HX.out w (Grow.trans HGB.out (Grow.undrew hw))
    go_simp
    exact hK _ (Grow.refl _)
   apply lq hsz [] [(84, 0), (85, 1), (86, 2), (87, 3), (90, 6), (91, 7), (92, 8), (93, 9), (94, 10), (95, 11), (96, 12), (97, 13), (98, 14), (99, 15), (100, 16), (101, 17), (102, 18), (83, 19), (103, 20), (104, 21), (105, 22)] none (by kernel_rfl) rfl
   ·intro xs w hw hp K hK
    go_simp
    exact hK _ (Grow.refl _)
   apply lq hsz [(3, true), (4, true)] [(84, 0), (85, 1), (86, 2), (87, 3), (88, 4), (91, 7), (92, 8), (93, 9), (94, 10), (95, 11), (96, 12), (97, 13), (98, 14), (99, 15), (100, 16), (101, 17), (102, 18), (83, 19), (103, 20), (104, 21), (105, 22)] none (by kernel_rfl) rfl
   ·intro xs w hw hp K hK
    simp only [holdsL, List.nil_append, List.cons_append, List.getD_cons_succ, List.getD_cons_zero, if_true, and_true] at hp
    go_simp
    exact hK _ (Grow.refl _)
   apply lq hsz [(5, true)] [(84, 0), (85, 1), (86, 2), (87, 3), (88, 4), (89, 5), (91, 7), (92, 8), (93, 9), (94, 10), (95, 11), (96, 12), (97, 13), (98, 14), (99, 15), (100, 16), (101, 17), (83, 19), (103, 20), (104, 21), (105, 22)] none (by kernel_rfl) rfl
   ·intro xs w hw hp K hK
    simp only [holdsL, List.nil_append, List.cons_append, List.getD_cons_succ, List.getD_cons_zero, if_true, and_true] at hp
    obtain ⟨-, p0, p1, p2, p3, p4, p5⟩ := HX.out w (Grow.trans HGB.out (Grow.undrew hw))
    go_simp
    exact hK _ (Grow.refl _)
   apply lq hsz [] [(84, 0), (85, 1), (86, 2), (87, 3), (88, 4), (89, 5), (90, 6), (92, 8), (94, 10), (95, 11), (96, 12), (97, 13), (98, 14), (99, 15), (100, 16), (101, 17), (102, 18), (83, 19), (103, 20), (104, 21), (105, 22)] none (by kernel_rfl) rfl
   ·intro xs w hw hp K hK
    go_simp
    exact hK _ (Grow.refl _)
   apply lq hsz [] [(84, 0), (85, 1), (86, 2), (87, 3), (88, 4), (89, 5), (90, 6), (91, 7), (94, 10), (95, 11), (96, 12), (97, 13), (98, 14), (99, 15), (100, 16), (101, 17), (102, 18), (83, 19), (103, 20), (104, 21), (105, 22)] none (by kernel_rfl) rfl
   ·intro xs w hw hp K hK
    go_simp
    exact hK _ (Grow.refl _)
   apply lq hsz [(7, true), (8, true)] [(84, 0), (85, 1), (86, 2), (87, 3), (88, 4), (89, 5), (90, 6), (91, 7), (92, 8), (95, 11), (96, 12), (97, 13), (98, 14), (99, 15), (100, 16), (101, 17), (102, 18), (83, 19), (103, 20), (104, 21), (105, 22)] none (by kernel_rfl) rfl
   ·intro xs w hw hp K hK
    simp only [holdsL, List.nil_append, List.cons_append, List.getD_cons_succ, List.getD_cons_zero, if_true, and_true] at hp
    go_simp
    exact hK _ (Grow.refl _)
   apply lq hsz [(9, true)] [(84, 0), (85, 1), (86, 2), (87, 3), (88, 4), (89, 5), (90, 6), (91, 7), (92, 8), (93, 9), (96, 12), (97, 13), (98, 14), (99, 15), (100, 16), (101, 17), (102, 18), (83, 19), (103, 20), (104, 21), (105, 22)] none (by kernel_rfl) rfl
   ·intro xs w hw hp K hK
    simp only [holdsL, List.nil_append, List.cons_append, List.getD_cons_succ, List.getD_cons_zero, if_true, and_true] at hp
    go_simp
    exact hK _ (Grow.refl _)
   apply lq hsz [(10, true)] [(84, 0), (85, 1), (86, 2), (87, 3), (88, 4), (89, 5), (90, 6), (91, 7), (92, 8), (93, 9), (94, 10), (96, 12), (97, 13), (98, 14), (99, 15), (100, 16), (101, 17), (83, 19), (103, 20), (104, 21), (105, 22)] none (by kernel_rfl) rfl
   ·intro xs w hw hp K hK
    simp only [holdsL, List.nil_append, List.cons_append, List.getD_cons_succ, List.getD_cons_zero, if_true, and_true] at hp
    obtain ⟨a0, -⟩ := HC.out w (Grow.trans HGB.out (Grow.undrew hw))
    go_simp
    exact hK _ (Grow.refl _)
   apply lq hsz [] [(84, 0), (85, 1), (86, 2), (87, 3), (88, 4), (89, 5), (90, 6), (91, 7), (92, 8), (93, 9), (94, 10), (95, 11), (97, 13), (99, 15), (100, 16), (101, 17), (102, 18), (83, 19), (103, 20), (104, 21), (105, 22)] none (by kernel_rfl) rfl
   ·intro xs w hw hp K hK
    go_simp
    exact hK _ (Grow.refl _)
   apply lq hsz [] [(84, 0), (85, 1), (86, 2), (87, 3), (88, 4), (89, 5), (90, 6), (91, 7), (92, 8), (93, 9), (94, 10), (95, 11), (96, 12), (99, 15), (100, 16), (101, 17), (102, 18), (83, 19), (103, 20), (104, 21), (105, 22)] none (by kernel_rfl) rfl
   ·intro xs w hw hp K hK
    go_simp
    exact hK _ (Grow.refl _)
   apply lq hsz [(12, true), (13, true)] [(84, 0), (85, 1), (86, 2), (87, 3), (88, 4), (89, 5), (90, 6), (91, 7), (92, 8), (93, 9), (94, 10), (95, 11), (96, 12), (97, 13), (100, 16), (101, 17), (102, 18), (83, 19), (103, 20), (104, 21), (105, 22)] none (by kernel_rfl) rfl
   ·intro xs w hw hp K hK
    simp only [holdsL, List.nil_append, List.cons_append, List.getD_cons_succ, List.getD_cons_zero, if_true, and_true] at hp
    go_simp
    exact hK _ (Grow.refl _)
   apply lq hsz [(14, true)] [(84, 0), (85, 1), (86, 2), (87, 3), (88, 4), (89, 5), (90, 6), (91, 7), (92, 8), (93, 9), (94, 10), (95, 11), (96, 12), (97, 13), (98, 14), (101, 17), (102, 18), (83, 19), (103, 20), (104, 21), (105, 22)] none (by kernel_rfl) rfl
   ·intro xs w hw hp K hK
    simp only [holdsL, List.nil_append, List.cons_append, List.getD_cons_succ, List.getD_cons_zero, if_true, and_true] at hp
    go_simp
    exact hK _ (Grow.refl _)
   apply lq hsz [(15, true)] [(84, 0), (85, 1), (86, 2), (87, 3), (88, 4), (89, 5), (90, 6), (91, 7), (92, 8), (93, 9), (94, 10), (95, 11), (96, 12), (97, 13), (98, 14), (99, 15), (102, 18), (83, 19), (103, 20), (104, 21), (105, 22)] none (by kernel_rfl) rfl
   ·intro xs w hw hp K hK
    simp only [holdsL, List.nil_append, List.cons_append, List.getD_cons_succ, List.getD_cons_zero, if_true, and_true] at hp
    obtain ⟨a0, -⟩ := HC.out w (Grow.trans HGB.out (Grow.undrew hw))
    go_simp
    exact hK _ (Grow.refl _)
   apply lq hsz [(16, true)] [(84, 0), (85, 1), (86, 2), (87, 3), (88, 4), (89, 5), (90, 6), (91, 7), (92, 8), (93, 9), (94, 10), (95, 11), (96, 12), (97, 13), (98, 14), (99, 15), (100, 16), (83, 19), (103, 20), (104, 21), (105, 22)] none (by kernel_rfl) rfl
   ·intro xs w hw hp K hK
    simp only [holdsL, List.nil_append, List.cons_append, List.getD_cons_succ, List.getD_cons_zero, if_true, and_true] at hp
    have hq9 : ¬ 9223372036854775807 < xk.length + 1 := by omega
    go_simp
    exact hK _ (Grow.refl _)
   refine lexf_says hsz (fun v u => ∃ a c, v = .tuple #[.slice a L.length c, .bool M, .int .i64 0] ∧ EnsS u (.slice a L.length c) L) (fun _ _ _ g ⟨a, c, h1, h2⟩ => ⟨a, c, h1, RowS.fits h2 g⟩) [(6, true), (11, true), (17, true)] [(84, 0), (85, 1), (86, 2), (87, 3), (88, 4), (89, 5), (90, 6), (91, 7), (92, 8), (93, 9), (94, 10), (95, 11), (96, 12), (97, 13), (98, 14), (99, 15), (100, 16), (101, 17), (103, 20), (104, 21), (105, 22)] none (by kernel_rfl) (by kernel_rfl) (by kernel_rfl) (by kernel_rfl) rfl ?_ ?_
   ·intro xs w hw hp K hK
    simp only [holdsL, List.nil_append, List.cons_append, List.getD_cons_succ, List.getD_cons_zero, if_true, and_true] at hp
    go_simp
    exact (HHt.out w (Grow.trans HGB.out (Grow.undrew hw))).mono fun e w' ⟨a, c, h1, h2, h3⟩ => ⟨_, h1, hK _ _ ⟨a, c, rfl, h2⟩ h3⟩
   refine lexf_says hsz (fun v u => ∃ a c, v = .tuple #[.slice a L.length c, .bool M, .int .i64 0] ∧ EnsS u (.slice a L.length c) L) (fun _ _ _ g ⟨a, c, h1, h2⟩ => ⟨a, c, h1, RowS.fits h2 g⟩) [(18, true)] [(84, 0), (85, 1), (86, 2), (87, 3), (88, 4), (89, 5), (90, 6), (91, 7), (92, 8), (93, 9), (94, 10), (95, 11), (96, 12), (97, 13), (98, 14), (99, 15), (100, 16), (101, 17), (102, 18)] none (by kernel_rfl) (by kernel_rfl) (by kernel_rfl) (by kernel_rfl) rfl ?_ ?_
   ·intro xs w hw hp K hK
    simp only [holdsL, List.nil_append, List.cons_append, List.getD_cons_succ, List.getD_cons_zero, if_true, and_true] at hp
    obtain ⟨a8, c8, h8, hes⟩ := hp
    go_simp
    exact hK _ _ ⟨a8, c8, rfl, hes⟩ (Grow.refl _)
   refine lexf_says hsz (fun v u => ∃ a c, v = .slice a L.length c ∧ EnsS u (.slice a L.length c) L) (fun _ _ _ g ⟨a, c, h1, h2⟩ => ⟨a, c, h1, RowS.fits h2 g⟩) [(19, true)] [(84, 0), (85, 1), (86, 2), (87, 3), (88, 4), (89, 5), (90, 6), (91, 7), (92, 8), (93, 9), (94, 10), (95, 11), (96, 12), (97, 13), (98, 14), (99, 15), (100, 16), (101, 17), (102, 18), (83, 19), (104, 21), (105, 22)] none (by kernel_rfl) (by kernel_rfl) (by kernel_rfl) (by kernel_rfl) rfl ?_ ?_
   ·intro xs w hw hp K hK
    simp only [holdsL, List.nil_append, List.cons_append, List.getD_cons_succ, List.getD_cons_zero, if_true, and_true] at hp
    obtain ⟨a8, c8, h8, hes⟩ := hp
    go_simp
    exact hK _ _ ⟨a8, c8, rfl, hes⟩ (Grow.refl _)
   refine lexf_says hsz (fun v _ => v = .bool M) (fun _ _ _ _ h => h) [(19, true)] [(84, 0), (85, 1), (86, 2), (87, 3), (88, 4), (89, 5), (90, 6), (91, 7), (92, 8), (93, 9), (94, 10), (95, 11), (96, 12), (97, 13), (98, 14), (99, 15), (100, 16), (101, 17), (102, 18), (83, 19), (103, 20), (105, 22), (12, 23)] none (by kernel_rfl) (by kernel_rfl) (by kernel_rfl) (by kernel_rfl) rfl ?_ ?_
   ·intro xs w hw hp K hK
    simp only [holdsL, List.nil_append, List.cons_append, List.getD_cons_succ, List.getD_cons_zero, if_true, and_true] at hp
    obtain ⟨a8, c8, h8, hes⟩ := hp
    go_simp
    exact hK _ _ rfl (Grow.refl _)
   refine lexf_says hsz (fun v _ => v = .int .i64 0) (fun _ _ _ _ h => h) [(19, true)] [(84, 0), (85, 1), (86, 2), (87, 3), (88, 4), (89, 5), (90, 6), (91, 7), (92, 8), (93, 9), (94, 10), (95, 11), (96, 12), (97, 13), (98, 14), (99, 15), (100, 16), (101, 17), (102, 18), (83, 19), (103, 20), (104, 21), (12, 23), (13, 24)] none (by kernel_rfl) (by kernel_rfl) (by kernel_rfl) (by kernel_rfl) rfl ?_ ?_
   ·intro xs w hw hp K hK
    simp only [holdsL, List.nil_append, List.cons_append, List.getD_cons_succ, List.getD_cons_zero, if_true, and_true] at hp
    obtain ⟨a8, c8, h8, hes⟩ := hp
    go_simp
    exact hK _ _ rfl (Grow.refl _)
   refine lexf_says hsz (fun v u => ∃ a c, v = .slice a L.length c ∧ EnsS u (.slice a L.length c) L) (fun _ _ _ g ⟨a, c, h1, h2⟩ => ⟨a, c, h1, RowS.fits h2 g⟩) [(20, true)] [(84, 0), (85, 1), (86, 2), (87, 3), (88, 4), (89, 5), (90, 6), (91, 7), (92, 8), (93, 9), (94, 10), (95, 11), (96, 12), (97, 13), (98, 14), (99, 15), (100, 16), (101, 17), (102, 18), (83, 19), (103, 20), (104, 21), (105, 22)] none (by kernel_rfl) (by kernel_rfl) (by kernel_rfl) (by kernel_rfl) rfl ?_ ?_
   ·intro xs w hw hp K hK
    simp only [holdsL, List.nil_append, List.cons_append, List.getD_cons_succ, List.getD_cons_zero, if_true, and_true] at hp
    obtain ⟨a8, c8, h8, hes⟩ := hp
    go_simp
    exact hK _ _ ⟨a8, c8, rfl, hes⟩ (Grow.refl _)
   apply lq hsz [(21, true)] [(84, 0), (85, 1), (86, 2), (87, 3), (88, 4), (89, 5), (90, 6), (91, 7), (92, 8), (93, 9), (94, 10), (95, 11), (96, 12), (97, 13), (98, 14), (99, 15), (100, 16), (101, 17), (102, 18), (83, 19), (103, 20), (104, 21), (105, 22), (12, 23)] none (by kernel_rfl) rfl
   ·intro xs w hw hp K hK
    simp only [holdsL, List.nil_append, List.cons_append, List.getD_cons_succ, List.getD_cons_zero, if_true, and_true] at hp
    go_simp
    exact hK _ (Grow.refl _)
   intro xs w hw hp
   have ha0 := HA0.out
   clear HA0 hsz s5 s6 s10 s11
   simp only [holdsL, List.nil_append, List.cons_append, List.getD_cons_succ, List.getD_cons_zero, if_true, and_true] at hp
   have h103 := hp.2.2.2.2.2.2.2.2.2.2.2.2.2.2.2.2.2.2.2.2.1
   have h104 := hp.2.2.2.2.2.2.2.2.2.2.2.2.2.2.2.2.2.2.2.2.2.1
   have h105 := hp.2.2.2.2.2.2.2.2.2.2.2.2.2.2.2.2.2.2.2.2.2.2.1
   have h20 := hp.2.2.2.2.2.2.2.2.2.2.2.2.2.2.2.2.2.2.2.2.2.2.2.1
   have h13 := hp.2.2.2.2.2.2.2.2.2.2.2.2.2.2.2.2.2.2.2.2.2.2.2.2
   clear hp
   subst ha0
   simp only [putAll, h104, h105, h13]
   have hg := hw.undrew
   obtain ⟨ya, yc, h20, hes⟩ := h20
   simp only [h20]
   generalize w = wC at *
   have HGC := keep (Grow.trans HGB.out hg)
   have HES := keep (RowS.weak hes)
   clear hw hg h20 h103 h104 h105 h13 hes HHt hk24
   go_frame
   go_wp2_with fail
   go_loopw [15, 16] (fun has i wr => HasRel L (xk, xp, xq) wC has i wr) (fun _ i _ => L.length - (intOf i).toNat)
   case atStart => exact show HasRel _ _ _ _ _ _ from ⟨0, Nat.zero_le _, by simp, rfl, keep (Grow.refl _)⟩
   case round =>
    obtain ⟨k, hk, rfl, rfl, HG3⟩ := hrel
    have hLl := HLl.out
    have hAl := HAl.out
    by_cases hlt : k < L.length
    ·have hst := has_step (x := (xk, xp, xq)) hlt
     obtain ⟨c4, off4, cap4, e4, hc4⟩ := en_at HES.out hlt
     simp only [Value.slice.injEq] at e4
     obtain ⟨rfl, -, rfl⟩ := e4
     generalize L[k] = z at *
     obtain ⟨zk, zp, zq⟩ := z
     dsimp only at hc4
     cases hhas : decide ((xk, xp, xq) ∈ L.take k) with
     | true =>
      rw [hhas, Bool.true_or] at hst
      have HSt := keep hst
      clear hst hhas hc4
      go_upto_region 22 with fail
      go_quiet (fail)
      go_wp2_with fail
      go_roundw
      case rel => exact show HasRel _ _ _ _ _ _ from ⟨k + 1, hlt, by rw [HSt.out], by go_num, keep (below_drewN HG3.out _)⟩
      case measure => simp [intOf]; omega
     | false =>
      rw [hhas, Bool.false_or] at hst
      have HSt := keep hst
      obtain ⟨b0, b1, b2⟩ := hc4 wr HG3.out
      obtain ⟨a0, a1, a2⟩ := HC.out wr (Grow.trans HGC.out HG3.out)
      clear hst hhas hc4
      go_upto_region 22 with fail
      go_quiet (fail)
      go_wp2_with fail
      go_roundw
      case rel => exact show HasRel _ _ _ _ _ _ from ⟨k + 1, hlt, by rw [HSt.out], by go_num, keep (below_drewN HG3.out _)⟩
      case measure => simp [intOf]; omega
    ·have e : k = L.length := by omega
     subst e
     have hall : decide ((xk, xp, xq) ∈ L.take L.length) = true := by rw [List.take_length]; exact decide_eq_true HHk.out
     rw [hall]
     clear hall
     have HGD := keep (Grow.trans HGC.out HG3.out)
     cases M with
     | false =>
      go_wp2_with fail
      go_roundw
      case rel => exact show FaRel _ _ _ _ from ⟨n + 1, h1, by go_num, keep (Grow.trans HG.out HGD.out)⟩
      case measure => simp [intOf]; omega
     | true =>
      obtain ⟨f0, p0, p1, p2, p3, p4, p5⟩ := HX.out wr HGD.out
      have hr0 : (P.right == 0) = false := by simpa using HMr.out rfl
      go_wp2_with fail
      go_roundw
      case rel => exact show FaRel _ _ _ _ from ⟨n + 1, h1, by go_num, keep (Grow.trans HG.out HGD.out)⟩
      case measure => simp [intOf]; omega
  ·go_wp2_with fail
   refine (awake15_any wr).mono ?_
   rintro x w4 ⟨rfl, hb4⟩
   go_wp2_with fail
   go_ret
   exact ⟨rfl, HF.out.trans (Below.mono (Grow.trans HG.out hb4) HS.out.low)⟩
end Go.Proofs.Ytaninphcgeaepaa
