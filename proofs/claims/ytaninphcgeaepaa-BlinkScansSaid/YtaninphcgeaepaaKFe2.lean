import Derived.Test.YtaninphcgeaepaaKFw13
import Derived.Test.YtaninphcgeaepaaKFt6
import Derived.Test.YtaninphcgeaepaaKRf3
import Derived.Test.YtaninphcgeaepaaKCg2
import Derived.Deep.CutRange
namespace Go.Proofs.Ytaninphcgeaepaa
open Go.RowKit
variable {F : List Pg} {I : Int → Option Nv} {top : Int} {q : Nat} {n : Int} {v : Nv} {e : En} {c : Int} {lv r : Int} {ks : Ks} {h : Option En}
theorem pgFine_nd (H : NodeOk lv ks r h) : PgFine (nodeP lv ks r h) := by
 have h1 := (fit_iff lv ks r h).1 H.fit
 have h2 := hiB_len (fun e he => (H.hi e he).1)
 refine ⟨fun x hx => ?_, ?_, ?_, show (0 : Int) ≤ 9223372036854775807 by decide⟩
 ·obtain ⟨k, hk, rfl⟩ := List.mem_map.1 hx
  obtain ⟨j, hj, rfl⟩ := List.getElem_of_mem hk
  have := (it_len (H.ok j hj)).2.2.1
  omega
 ·show ((hiB h).length : Int) ≤ _
  omega
 ·rw [nd_items]
  omega
theorem zero_fine : PgFine zeroP := ⟨fun x hx => by simp [zeroP] at hx, by decide, by decide, by decide⟩
theorem item_fc (F : Comes lv h e c) : itemN lv (itB lv (e, c)) = (e, c, 0) := by
 have hc := F.ch
 unfold itemN itB
 by_cases h0 : lv = 0
 ·rw [if_pos h0] at hc
  rw [if_pos h0, if_pos h0, decN_of F.ok, hc]
 ·rw [if_neg h0] at hc
  rw [if_neg h0, if_neg h0]
  exact unsN_of (.inr F.ok) hc
theorem dec_of (F : Comes 0 h e c) : decN (itB 0 (e, c)) = (e, 0) := by
 unfold itB
 rw [if_pos rfl]
 exact decN_of F.ok
theorem uns_of (F : Comes lv h e c) (h0 : lv ≠ 0) : unsN (itB lv (e, c)) = (e, c, 0) := by
 have := item_fc F
 unfold itemN at this
 rwa [if_neg h0] at this
theorem insN_nd (H : NodeOk 0 ks r h) (F : Comes 0 h e c) (hn : e ∉ keysK ks) (hf : fitsP (nodeP 0 (insK ks (e, c)) r h) = true) : insN (nodeP 0 ks r h) e = (nodeP 0 (insK ks (e, c)) r h, 0) := by
 have h1 := lay_nd H F
 rw [if_neg hn, if_pos hf] at h1
 unfold layN at h1
 rw [nd_open H, if_pos rfl, show (nodeP 0 ks r h).level = 0 from rfl, if_pos rfl, dec_of F] at h1
 rw [if_neg (by simp), if_neg (by rw [nd_ens H]; exact hn)] at h1
 simp only [Prod.mk.injEq, true_and] at h1
 exact Prod.ext h1.1 h1.2
theorem postN_nd (H : NodeOk lv ks r h) (h0 : lv ≠ 0) (F : Comes lv h e c) (hn : e ∉ keysK ks) (hf : fitsP (nodeP lv (insK ks (e, c)) r h) = true) : postN (nodeP lv ks r h) e c = (nodeP lv (insK ks (e, c)) r h, 0) := by
 have h1 := lay_nd H F
 rw [if_neg hn, if_pos hf] at h1
 unfold layN at h1
 rw [nd_open H, if_pos rfl, show (nodeP lv ks r h).level = lv from rfl, if_neg h0, uns_of F h0] at h1
 rw [if_neg (by simp), if_neg (by rw [nd_ens H]; exact fun hx => hn (List.mem_of_mem_drop hx))] at h1
 simp only [Prod.mk.injEq, true_and] at h1
 exact Prod.ext h1.1 h1.2
theorem new_none : apartN [] 0 = true := by decide
theorem new_one {a : Int} (ha : 2 ≤ a) : apartN [a] 1 = true := by
 unfold apartN allNew
 simp [ha]
theorem new_two {a : Int} (ha : 2 ≤ a) : apartN [a, a + 1] 2 = true := by
 unfold apartN allNew
 simp
 omega
theorem enter_fit (H : NodeOk lv ks r h) (F : Comes lv h e c) (hn : e ∉ keysK ks) (hf : fitsP (nodeP lv (insK ks (e, c)) r h) = true) (n : Int) : needN (nodeP lv ks r h) n (itB lv (e, c)) = (0, 0) ∧ enterN (nodeP lv ks r h) n (itB lv (e, c)) [] = ((3, n, itB lv (e, c), []), 0) := by
 have h1 := need_nd H F n
 rw [if_neg hn, if_pos hf] at h1
 refine ⟨h1, ?_⟩
 unfold enterN
 rw [h1, if_neg (by decide), new_none, if_neg (by decide), if_pos rfl]
theorem enter_one (H : NodeOk lv ks r h) (F : Comes lv h e c) (hn : e ∉ keysK ks) (hf : ¬ fitsP (nodeP lv (insK ks (e, c)) r h) = true) {n : Int} (h1 : n ≠ 1) {a : Nat} (ha : 2 ≤ a) (ha2 : a ≤ 65535) :
  needN (nodeP lv ks r h) n (itB lv (e, c)) = (1, 0) ∧ enterN (nodeP lv ks r h) n (itB lv (e, c)) [(a : Int)] = ((5, 0, [], [(n, nodeP lv (listA lv ks e c) a (some (bordK lv ks))), ((a : Int), nodeP lv (listB lv ks e c) r h)]), 0) := by
 have h2 := need_nd H F n
 rw [if_neg hn, if_neg hf, if_neg h1] at h2
 refine ⟨h2, ?_⟩
 unfold enterN
 rw [h2, if_neg (by decide), new_one (by omega), if_neg (by decide), if_neg (by decide)]
 rw [show ([(a : Int)].getD ((1 : Int).toNat - 1) 0) = (a : Int) from rfl]
 rw [grow_nd H F (full_12 H F hf) hn hf n _ 1 (show inB (a : Int) 1 65535 = true by unfold inB; simp; omega), if_pos rfl]
theorem enter_two (H : NodeOk lv ks r h) (F : Comes lv h e c) (hn : e ∉ keysK ks) (hf : ¬ fitsP (nodeP lv (insK ks (e, c)) r h) = true) (hl : lv < 255) {a : Nat} (ha : 2 ≤ a) (ha2 : a + 1 ≤ 65535) :
  needN (nodeP lv ks r h) 1 (itB lv (e, c)) = (2, 0) ∧ enterN (nodeP lv ks r h) 1 (itB lv (e, c)) [(a : Int), ((a + 1 : Nat) : Int)] = ((5, 0, [], [((a : Int), nodeP lv (listA lv ks e c) (a + 1 : Nat) (some (bordK lv ks))), (((a + 1 : Nat) : Int), nodeP lv (listB lv ks e c) r h), (1, nodeP (lv + 1) [(leastE, (a : Int)), (bordK lv ks, ((a + 1 : Nat) : Int))] 0 none)]), 0) := by
 have h2 := need_nd H F 1
 rw [if_neg hn, if_neg hf, if_pos rfl] at h2
 refine ⟨h2, ?_⟩
 have h12 := full_12 H F hf
 have hb := bord_ok H h12
 have hr : inB ((a + 1 : Nat) : Int) 1 65535 = true := by unfold inB; simp; omega
 have hfr : inB (a : Int) 1 65535 = true := by unfold inB; simp; omega
 have hrt := (root_nd (lv := lv) ⟨H.lev.1, hl⟩ hfr hr hb.1).1
 unfold enterN
 rw [h2, if_neg (by decide), show (([(a : Int), ((a + 1 : Nat) : Int)]) : List Int) = [(a : Int), (a : Int) + 1] by simp, new_two (by omega), if_neg (by decide), if_neg (by decide)]
 rw [show ([(a : Int), (a : Int) + 1].getD ((2 : Int).toNat - 1) 0) = ((a + 1 : Nat) : Int) by simp, show ([(a : Int), (a : Int) + 1].getD 0 0) = (a : Int) from rfl]
 rw [grow_nd H F h12 hn hf 1 _ 2 hr, if_neg (by decide), hrt, if_neg (fun h => h rfl)]
theorem putF_len (D : Fr) (x : Im) : (putF D x).length ≤ D.length + 1 := by
 unfold putF
 split
 ·simp
 ·simp
theorem fold_len (T : List Im) (D : Fr) : (T.foldl putF D).length ≤ D.length + T.length := by
 induction T generalizing D with
 | nil => simp
 | cons x T ih =>
  have := ih (putF D x)
  have := putF_len D x
  simp only [List.foldl_cons, List.length_cons]
  omega
theorem drop_two {T : List Im} {a b : Int × Pg} (h : T.map dropV = [a, b]) : ∃ v1 v2, T = [(a.1, a.2, v1), (b.1, b.2, v2)] := by
 match T, h with
 | [x, y], h =>
  simp only [List.map_cons, List.map_nil, List.cons.injEq, and_true] at h
  obtain ⟨rfl, rfl⟩ := h
  exact ⟨x.2.2, y.2.2, rfl⟩
theorem drop_three {T : List Im} {a b d : Int × Pg} (h : T.map dropV = [a, b, d]) : ∃ v1 v2 v3, T = [(a.1, a.2, v1), (b.1, b.2, v2), (d.1, d.2, v3)] := by
 match T, h with
 | [x, y, z], h =>
  simp only [List.map_cons, List.map_nil, List.cons.injEq, and_true] at h
  obtain ⟨rfl, rfl, rfl⟩ := h
  exact ⟨x.2.2, y.2.2, z.2.2, rfl⟩
theorem pgD_set (D : Fr) (k : Nat) (p : Pg × Value) : pgD (D.set k p) = (pgD D).set k p.1 := by simp [pgD, List.map_set]
theorem pgD_append (D E : Fr) : pgD (D ++ E) = pgD D ++ pgD E := by simp [pgD]
theorem put_two {D : Fr} {n : Int} (h1 : 1 ≤ n) (h2 : n < D.length) (A B : Pg) (v1 v2 : Value) : FitT D [(n, A, v1), ((D.length : Int), B, v2)] ∧ ([(n, A, v1), ((D.length : Int), B, v2)] : List Im).foldl putF D = D.set n.toNat (A, v1) ++ [(B, v2)] := by
 have e1 : putF D (n, A, v1) = D.set n.toNat (A, v1) := by unfold putF; rw [if_pos (by omega)]
 refine ⟨⟨h1, by omega, ?_, ?_, trivial⟩, ?_⟩
 ·dsimp only; omega
 ·rw [e1]; simp
 ·simp only [List.foldl_cons, List.foldl_nil]
  rw [e1]
  unfold putF
  rw [if_neg (by simp)]
theorem put_three {D : Fr} (h2 : 2 ≤ D.length) (A B R : Pg) (v1 v2 v3 : Value) : FitT D [((D.length : Int), A, v1), (((D.length + 1 : Nat) : Int), B, v2), (1, R, v3)] ∧ ([((D.length : Int), A, v1), (((D.length + 1 : Nat) : Int), B, v2), (1, R, v3)] : List Im).foldl putF D = (D ++ [(A, v1)] ++ [(B, v2)]).set 1 (R, v3) := by
 have e1 : putF D ((D.length : Int), A, v1) = D ++ [(A, v1)] := by unfold putF; rw [if_neg (by simp)]
 have e2 : putF (D ++ [(A, v1)]) (((D.length + 1 : Nat) : Int), B, v2) = D ++ [(A, v1)] ++ [(B, v2)] := by unfold putF; rw [if_neg (by simp)]
 have e3 : putF (D ++ [(A, v1)] ++ [(B, v2)]) (1, R, v3) = (D ++ [(A, v1)] ++ [(B, v2)]).set 1 (R, v3) := by unfold putF; rw [if_pos (by simp)]; rfl
 refine ⟨⟨by dsimp only; omega, by dsimp only; omega, ?_, ?_, ?_, ?_, trivial⟩, ?_⟩
 ·dsimp only; omega
 ·rw [e1]; simp
 ·dsimp only; omega
 ·rw [e1, e2]; simp; omega
 ·simp only [List.foldl_cons, List.foldl_nil]
  rw [e1, e2, e3]
theorem above_two {n a : Int} {b : En} {lv r' : Int} {ks : Ks} {B : Pg} {v1 v2 : Value} (hb : enOk b = true) : aboveN 5 [(n, nodeP lv ks r' (some b), v1), (a, B, v2)] = (b, a, true) := by
 unfold aboveN
 rw [dif_pos ⟨rfl, rfl⟩]
 have : (decN (([(n, nodeP lv ks r' (some b), v1), (a, B, v2)] : List Im)[0]).2.1.high) = (b, 0) := decN_of hb
 rw [this, if_neg (fun h => h rfl)]
 rfl
theorem above_three {x y z : Im} : aboveN 5 [x, y, z] = (leastE, 0, false) := by
 unfold aboveN
 rw [dif_neg (by simp)]
theorem above_none {k : Int} : aboveN k [] = (leastE, 0, false) := by
 unfold aboveN
 rw [dif_neg (by simp)]
theorem sep_of {b : En} (hb : enOk b = true) {a : Int} (ha : inB a 1 65535 = true) {lv : Int} (h0 : lv ≠ 0) : sepN b a = (itB lv (b, a), 0) := by
 unfold sepN itB
 rw [ha, hb, if_neg h0]
 simp
theorem Fo.top_nn (H : Fo F I top q) : 0 ≤ top := by
 obtain ⟨v, h1, h2, _, _⟩ := H.root
 have := (H.here 1 v h1).2.2.2.lev
 omega
theorem Fo.two (H : Fo F I top q) : 2 ≤ F.length := by
 have := H.tops
 have := H.top_nn
 omega
end Go.Proofs.Ytaninphcgeaepaa
namespace Go.Proofs.Ytaninphcgeaepaa
open Go.RowKit
theorem infoInt15 : (Try.prog.info? 3).map (fun i => (i.zero, i.size, i.bytes)) = some (some (.int .i64 0), 1, 8) := by kernel_rfl
def OwnI (N : Nat) (w : World) (v : Value) (l : List Int) : Prop := w.ownsRow N 3 1 v l.length (iCells l)
theorem irow_news {w : World} {v : Value} {l : List Int} (h : Ints w v l) (hl : 0 < l.length) : ∃ ad c, v = .slice (some ad) l.length c ∧ ∀ j u, (iCells l)[j]? = some u → w.cell? (ad.add j) = some u := by
 rcases h with ⟨h1, _⟩ | ⟨c, off, cap, h1, h2⟩
 ·omega
 ·refine ⟨_, _, h1, fun j u hj => ?_⟩
  obtain ⟨hj2, rfl⟩ := List.getElem?_eq_some_iff.1 hj
  have := h2 j hj2
  unfold Addr.add
  split
  ·rename_i h0
   have h9 : j = 0 := by simpa using h0
   subst h9
   exact this
  ·exact this
theorem iapp_run (ty : TypeId) (B : Nat) (xs ys : List Int) (v0 v : Value) (w : World) (h0 : OwnI B w v0 xs) (h : Ints w v ys) (hb : xs.length + ys.length ≤ 17592186044416) (hB : B ≤ w.heap.size) :
  ∃ v' w', (Builtin.append_ #[43, 43] ty #[v0, v]).run Try.prog w = .ok v' w' ∧ OwnI B w' v' (xs ++ ys) ∧ Below B w w' := by
 obtain ⟨iE, hiE, hzE0, hzE1, hzE2⟩ := info_parts infoInt15
 have below : ∀ {w' : World}, w.grownBy w' v0.ownBlock → Below B w w' := fun g => ⟨g.os, g.tape, g.output, g.size, fun k hk => g.block k (by omega) fun e => by
  have := (h0.lt _ e.symm).1
  omega⟩
 have some_case : ∀ (ad : Addr) (c : Nat), v = .slice (some ad) ys.length c → (∀ j u, (iCells ys)[j]? = some u → w.cell? (ad.add j) = some u) →
   ∃ v' w', (Builtin.append_ #[43, 43] ty #[v0, v]).run Try.prog w = .ok v' w' ∧ OwnI B w' v' (xs ++ ys) ∧ Below B w w' := by
  rintro ad c rfl hn
  obtain ⟨v', w', hr, h1, h2, _⟩ := run_append_own_at (P := Try.prog) w B 43 ty 3 iE _ 1 8 Try.underlying43 hiE hzE0 hzE1 hzE2 rfl (by decide) v0 xs.length (iCells xs) h0 ad ys.length c (iCells ys) (by simp [iCells]) hn (fun u hu => by obtain ⟨y, _, rfl⟩ := List.mem_map.1 hu; rfl) (by unfold maxLen; omega) (by omega) hB
  refine ⟨v', w', hr, ?_, below h2⟩
  unfold OwnI
  have e : iCells (xs ++ ys) = iCells xs ++ iCells ys := by simp [iCells]
  rw [e, List.length_append]
  exact h1
 by_cases hl : 0 < ys.length
 ·obtain ⟨ad, c, hv, hn⟩ := irow_news h hl
  exact some_case ad c hv hn
 ·have hy : ys = [] := List.eq_nil_of_length_eq_zero (by omega)
  subst hy
  obtain ⟨a, c, rfl⟩ := row_slice h
  cases a with
  | some ad => exact some_case ad c rfl (by simp [iCells])
  | none =>
   refine ⟨v0, w, ?_, by rw [List.append_nil]; exact h0, Below.refl _ _⟩
   rcases h0.2 with ⟨rfl, _⟩ | ⟨g, cap, cur, rfl, _, _, hnc, _⟩
   ·simp [Builtin.append_, run_underlying Try.underlying43, sizeOf, typeInfo, hiE, Builtin.lenOf, Builtin.firstCells]
   ·simp [Builtin.append_, run_underlying Try.underlying43, sizeOf, typeInfo, hiE, Builtin.lenOf, Builtin.firstCells, hnc, storeCells]
theorem wpList_iapp {ops : Array Oper} {rest : List Oper} {o : Oper} {a : Act} {Q : Exit → Act → World → Prop} {w : World} (hgd : o.guard = none) (s x : Operand)
  (ho : o.op = .call { callee := .builtin .append, args := #[s, x], argTypes := #[43, 43] }) (B : Nat) (xs ys : List Int) (v0 v : Value) (hs : a.eval s = v0) (hx : a.eval x = v)
  (h0 : OwnI B w v0 xs) (h : Ints w v ys) (hb : xs.length + ys.length ≤ 17592186044416) (hB : B ≤ w.heap.size)
  (hk : ∀ b c w', OwnI B w' (.slice b (xs ++ ys).length c) (xs ++ ys) → Below B w w' → wpList Try.prog ops Q rest (a.put o.dst (.slice b (xs ++ ys).length c)) w') : wpList Try.prog ops Q (o :: rest) a w := by
 obtain ⟨v', w', hr, h1, h2⟩ := iapp_run o.type B xs ys v0 v w h0 h hb hB
 obtain ⟨b, c, rfl⟩ := own_form h1
 exact wpList_upon_append hgd ho hs hx hr (hk b c w' h1 h2)
theorem underRec : Try.prog.underlying 50 = some (Try.prog.underlying 50).get! := by kernel_rfl
theorem wpList_load_rec {ops : Array Oper} {rest : List Oper} {o : Oper} {a : Act} {Q : Exit → Act → World → Prop} {w : World} (hgd : o.guard = none) (x : Operand) (ho : o.op = .load 50 x) (b : Nat)
  (hx : a.eval x = .pointer (some ⟨b, 0, none⟩)) {cs : List Value} (hb : Blk w b 50 cs) (hl : cs.length = 16)
  (h : wpList Try.prog ops Q rest (a.put o.dst (.agg cs.toArray)) w) : wpList Try.prog ops Q (o :: rest) a w := by
 refine wpList_load_mid hgd _ x ho b 0 hx cs _ ?_ underRec (by kernel_rfl) (by rw [sizeRecord, hl]) h
 intro j v hv
 obtain ⟨hj, rfl⟩ := List.getElem?_eq_some_iff.1 hv
 rw [Nat.zero_add, hb.cell j hj]
theorem wpList_load_rec_g {ops : Array Oper} {rest : List Oper} {o : Oper} {a : Act} {Q : Exit → Act → World → Prop} {w : World} (hwant : Region.wanted o (yielded ops a.tmps) = true) (x : Operand) (ho : o.op = .load 50 x) (b : Nat)
  (hx : a.eval x = .pointer (some ⟨b, 0, none⟩)) {cs : List Value} (hb : Blk w b 50 cs) (hl : cs.length = 16)
  (h : wpList Try.prog ops Q rest (a.put o.dst (.agg cs.toArray)) w) : wpList Try.prog ops Q (o :: rest) a w :=
 wpList_step fun K hK => by
  simp only [hwant, if_true]
  refine wp_load_mid _ x ho b 0 hx cs _ ?_ underRec (by kernel_rfl) (by rw [sizeRecord, hl]) (hK _ _ h)
  intro j v hv
  obtain ⟨hj, rfl⟩ := List.getElem?_eq_some_iff.1 hv
  rw [Nat.zero_add, hb.cell j hj]
theorem Blk.fel {bs : Nat} {w w' : World} {b t : Nat} {cs : List Value} (h : Blk w b t cs) (k : Fel bs w w') (h1 : t ≠ 31) (h2 : t ≠ 27) : Blk w' b t cs := k.typ _ _ _ _ h h1 h2
theorem RowS.fel {bs : Nat} {w w' : World} {t : Nat} {v : Value} {n : Nat} {cs : List Value} (h : RowS w t v n cs) (k : Fel bs w w') (h1 : t ≠ 31) (h2 : t ≠ 27) : RowS w' t v n cs := h.move fun c blk f hc => k.typ c blk t f hc h1 h2
theorem ImgsC.fel {bs : Nat} {w w' : World} {v : Value} {T : List Im} (h : ImgsC w v T) (k : Fel bs w w') : ImgsC w' v T :=
 ⟨h.1.fel k (by decide) (by decide), fun x hx => ⟨⟨RowS.fel (h.2 x hx).1.1 k (by decide) (by decide), (h.2 x hx).1.2⟩, (h.2 x hx).2⟩⟩
theorem owns_fel {bs B e s n : Nat} {w w' : World} {v : Value} {xs : List Value} (h : w.ownsRow B e s v n xs) (k : Fel bs w w') (h1 : e ≠ 31) (h2 : e ≠ 27) : w'.ownsRow B e s v n xs := by
 refine ⟨h.1, ?_⟩
 rcases h.2 with h0 | ⟨g, cap, cur, hv, hb, hh, hr⟩
 ·exact .inl h0
 ·exact .inr ⟨g, cap, cur, hv, hb, k.typ _ _ _ _ hh h1 h2, hr⟩
def freshL (L : Nat) : Nat → List Int
 | 0 => []
 | k + 1 => freshL L k ++ [((L + k : Nat) : Int)]
theorem freshL_length (L k : Nat) : (freshL L k).length = k := by
 induction k with
 | zero => rfl
 | succ k ih => simp [freshL, ih]
theorem fresh_one (L : Nat) : freshL L 1 = [(L : Int)] := rfl
theorem fresh_two (L : Nat) : freshL L 2 = [(L : Int), ((L + 1 : Nat) : Int)] := rfl
end Go.Proofs.Ytaninphcgeaepaa
namespace Go.Proofs.Ytaninphcgeaepaa
open Go.RowKit
attribute [local go_sem] givesF_none givesF_some evalF_tmp evalF_const evalF_global evalF_func lookL isB_bool isB_undef givesUpon_value givesUpon_skip givesUpon_enter
def EnterQ (bs fr : Nat) (Φ : List Pg → Prop) (w : World) (x : Ending) (w' : World) : Prop := x = .returned (.bool true) ∧ (∃ D', ForT bs w' fr D' ∧ Φ (pgD D')) ∧ Fel bs w w'
def FrRel (L N : Nat) (wL : World) (fv i : Value) (wr : World) : Prop := ∃ k : Nat, k ≤ N ∧ i = .int .i64 k ∧ Kept (OwnI wL.heap.size wr fv (freshL L k)) ∧ Kept (Grow wL wr)
theorem ownI_nil (B : Nat) (w : World) : OwnI B w (.slice none 0 0) [] := ⟨rfl, .inl ⟨rfl, rfl⟩⟩
theorem for_cells {b fr : Nat} {w : World} {D : Fr} (h : ForT b w fr D) {k : Nat} (hk : k < D.length) {P : Pg} {iv : Value} (hP : D[k] = (P, iv)) : ∃ g cap, ∀ u, Grow w u →
  u.cell? ⟨fr, 0, none⟩ = some (.slice (some ⟨g, 0, none⟩) D.length cap) ∧ u.cell? ⟨g, k * 6, none⟩ = some (.int .i64 P.lsn) ∧ u.cell? ⟨g, k * 6 + 1, none⟩ = some (.int .i64 P.kind) ∧ u.cell? ⟨g, k * 6 + 2, none⟩ = some (.int .i64 P.level) ∧ u.cell? ⟨g, k * 6 + 3, none⟩ = some (.int .i64 P.right) ∧ u.cell? ⟨g, k * 6 + 4, none⟩ = some (.string (str P.high)) ∧ u.cell? ⟨g, k * 6 + 5, none⟩ = some iv := by
 obtain ⟨v, hb0, ho⟩ := h.tab
 obtain ⟨g, cap, rfl, -, -, ⟨b0, b1, b2, b3, b4, b5⟩, -⟩ := for_at ho hk
 rw [hP] at b0 b1 b2 b3 b4 b5
 refine ⟨g, cap, fun u hu => ?_⟩
 have m : ∀ a y, w.cell? a = some y → u.cell? a = some y := fun a y ha => (hu.cell (World.block_lt_of_cell? w _ ha)).trans ha
 exact ⟨m _ _ (hb0.cell 0 (by simp)), m _ _ b0, m _ _ b1, m _ _ b2, m _ _ b3, m _ _ b4, m _ _ b5⟩
theorem for_in {b fr : Nat} {w : World} {D : Fr} (h : ForT b w fr D) {k : Nat} (hk : k < D.length) {P : Pg} {iv : Value} (hP : D[k] = (P, iv)) : PgIn w iv P ∧ Capd iv ∧ ∃ a c, iv = .slice a P.items.length c := by
 obtain ⟨h1, h2⟩ := h.items D[k] (List.getElem_mem hk)
 rw [hP] at h1 h2
 obtain ⟨a, c, e⟩ := itemsS_form h1.1
 exact ⟨h2.within h1, h1.2, a, c, e⟩
set_option maxRecDepth 100000 in
set_option maxHeartbeats 4000000 in
theorem enters_there (bs fr : Nat) (D : Fr) (lv : Int) (e : En) (item : List UInt8) (told : Bool) (w_ : World) (h : ForT bs w_ fr D) (hb : bs ≤ w_.heap.size) (q : Nat) (P : Pg) (iv : Value) (Φ : List Pg → Prop)
  (hfind : findF (pgD D) lv e 10000 1 = (q : Int)) (h1 : 1 ≤ q) (hq : q < D.length) (hP : D[q] = (P, iv)) (hs : (item.length : Int) ≤ 140737488355328)
  (hneed : needN P q item = (0, 150)) (hend : Φ (pgD D)) :
  Calls Try.prog 8 #[.pointer (some ⟨fr, 0, none⟩), .int .i64 lv, enV e, .string (str item), .bool told] w_ (EnterQ bs fr Φ w_) := by
 obtain ⟨g, cap, hx⟩ := for_cells h hq hP
 obtain ⟨hin, hcap, ia, ic, rfl⟩ := for_in h hq hP
 have hfi := fun (u : World) (hu : Grow w_ u) => finds_any bs fr D lv e u (h.fits hu)
 have hnd := fun (u : World) (hu : Grow w_ u) => need_any P _ (q : Int) item u (hin.fits hu) hs
 rw [hfind] at hfi
 unfold NeedPost at hnd
 rw [hneed] at hnd
 have HFin := keep (fun (u : World) (hu : Grow w_ u) => (show EnterQ bs fr Φ w_ (.returned (.bool true)) u from ⟨rfl, ⟨D, h.fits hu, hend⟩, Fel.of_grow hb hu⟩))
 obtain ⟨ek, ep, es⟩ := e
 unfold enV at hfi
 unfold pgV at hnd
 unfold enV
 dsimp only at hfi
 obtain ⟨w0, hw0⟩ : ∃ w0, w0 = w_.alloc (.cells #[.string (str ek), .int .i64 ep, .int .i64 es] 36) := ⟨_, rfl⟩
 have hg0 : Grow w_ w0 := by subst hw0; exact (Grow.refl w_).alloc _
 have hE0 : Blk w0 w_.heap.size 36 [.string (str ek), .int .i64 ep, .int .i64 es] := by subst hw0; exact Blk.new w_ _ [_, _, _]
 obtain ⟨c0, c1, c2, _⟩ := enres hE0
 have HX := keep hx
 have HFi := keep hfi
 have HNd := keep hnd
 have HG0 := keep hg0
 have eA : decide ((q : Int) < 1) = false := decide_eq_false (by omega)
 clear h hx hfi hnd hin hcap hfind hneed hend hg0 hE0 hP
 go_enter Try.func8, Try.ntmps8
 go_upto_region 1 with fail
 rw [← hw0]
 clear hw0
 go_wp2_with fail
 refine (HFi.out w0 HG0.out).mono ?_
 rintro x w1 ⟨rfl, hb1⟩
 have hg1 := Grow.trans HG0.out hb1
 obtain ⟨f0, p0, p1, p2, p3, p4, p5⟩ := HX.out w1 hg1
 have HG1 := keep hg1
 clear c0 c1 c2 hb1 hg1 HFi
 go_wp2_with fail
 refine (HNd.out w1 HG1.out).mono ?_
 rintro x w2 ⟨rfl, hb2⟩
 have HG2 := keep (Grow.trans HG1.out hb2)
 clear f0 p0 p1 p2 p3 p4 p5 hb2 HNd
 go_wp2_with fail
 go_ret
 exact HFin.out _ HG2.out
set_option maxRecDepth 100000 in
set_option maxHeartbeats 8000000 in
theorem enters_walk (bs fr : Nat) (D : Fr) (lv : Int) (e : En) (item : List UInt8) (told : Bool) (w_ : World) (h : ForT bs w_ fr D) (hb : bs ≤ w_.heap.size) (q : Nat) (P : Pg) (iv : Value) (Φ : List Pg → Prop)
  (N : Nat) (kd p : Int) (d : List UInt8) (imgs : List (Int × Pg)) (ae : En) (ac : Int) (ais : Bool) (sep : List UInt8) (F' : List Pg)
  (hfind : findF (pgD D) lv e 10000 1 = (q : Int)) (h1 : 1 ≤ q) (hq : q < D.length) (hP : D[q] = (P, iv)) (hs : (item.length : Int) ≤ 140737488355328) (hlv : 0 ≤ lv ∧ lv ≤ 255) (hlen : D.length ≤ 65535)
  (hneed : needN P q item = ((N : Int), 0)) (hN : N ≤ 2)
  (hent : enterN P q item (freshL D.length N) = ((kd, p, d, imgs), 0))
  (hdo : ∀ u iv T, Grow w_ u → T.map dropV = imgs → ImgsC u iv T → (T = [] → iv = .slice none 0 0) → Calls Try.prog 14 #[.pointer (some ⟨fr, 0, none⟩), recG kd p (str d) iv] u fun x w' => x = .returned (.bool true) ∧ (∃ D', ForT bs w' fr D' ∧ pgD D' = F') ∧ Fel bs u w')
  (hab : ∀ T : List Im, T.map dropV = imgs → aboveN kd T = (ae, ac, ais))
  (hend : (ais = false ∨ told = false) → Φ F')
  (hrec : ais = true → told = true → sepN ae ac = (sep, 0) ∧ ∀ u D', bs ≤ u.heap.size → ForT bs u fr D' → pgD D' = F' → Calls Try.prog 8 #[.pointer (some ⟨fr, 0, none⟩), .int .i64 (lv + 1), enV ae, .string (str sep), .bool true] u (EnterQ bs fr Φ u)) :
  Calls Try.prog 8 #[.pointer (some ⟨fr, 0, none⟩), .int .i64 lv, enV e, .string (str item), .bool told] w_ (EnterQ bs fr Φ w_) := by
 obtain ⟨g, cap, hx⟩ := for_cells h hq hP
 obtain ⟨hin, hcap, ia, ic, rfl⟩ := for_in h hq hP
 have hfi := fun (u : World) (hu : Grow w_ u) => finds_any bs fr D lv e u (h.fits hu)
 have hnd := fun (u : World) (hu : Grow w_ u) => need_any P _ (q : Int) item u (hin.fits hu) hs
 have hen := fun (u : World) (v : Value) (hu : Grow w_ u) (hv : Ints u v (freshL D.length N)) => enter_any P _ (q : Int) item _ v u (hin.fits hu) hcap hs hv (by rw [freshL_length]; omega)
 rw [hfind] at hfi
 unfold NeedPost at hnd
 rw [hneed] at hnd
 rw [hent] at hen
 unfold RecPostC at hen
 dsimp only at hen
 have HFin := keep (fun (u : World) (D' : Fr) (hu : Fel bs w_ u) (hD : ForT bs u fr D') (hF : pgD D' = F') (hc : ais = false ∨ told = false) => (show EnterQ bs fr Φ w_ (.returned (.bool true)) u from ⟨rfl, ⟨D', hD, by rw [hF]; exact hend hc⟩, hu⟩))
 have HFin2 := keep (fun (u w' : World) (hu : Fel bs w_ u) (hE : EnterQ bs fr Φ u (.returned (.bool true)) w') => (show EnterQ bs fr Φ w_ (.returned (.bool true)) w' from ⟨rfl, hE.2.1, hu.trans hE.2.2⟩))
 obtain ⟨ek, ep, es⟩ := e
 obtain ⟨ak, ap, aq⟩ := ae
 unfold enV at hfi hrec
 unfold pgV at hnd hen
 unfold enV
 dsimp only at hfi hrec
 obtain ⟨w0, hw0⟩ : ∃ w0, w0 = w_.alloc (.cells #[.string (str ek), .int .i64 ep, .int .i64 es] 36) := ⟨_, rfl⟩
 have hg0 : Grow w_ w0 := by subst hw0; exact (Grow.refl w_).alloc _
 have hE0 : Blk w0 w_.heap.size 36 [.string (str ek), .int .i64 ep, .int .i64 es] := by subst hw0; exact Blk.new w_ _ [_, _, _]
 obtain ⟨c0, c1, c2, _⟩ := enres hE0
 have HX := keep hx
 have HFi := keep hfi
 have HNd := keep hnd
 have HEn := keep hen
 have HDo := keep hdo
 have HAb := keep hab
 have HRec := keep hrec
 have HG0 := keep hg0
 have HB := keep hb
 have HN := keep hN
 have HLen := keep hlen
 have hlw := wrap_level hlv.1 hlv.2
 have HLw := keep hlw
 have eA : decide ((q : Int) < 1) = false := decide_eq_false (by omega)
 clear h hx hfi hnd hen hdo hab hend hrec hin hcap hfind hneed hent hg0 hE0 hP hb hN hlen hlv hlw
 go_enter Try.func8, Try.ntmps8
 go_upto_region 1 with fail
 rw [← hw0]
 clear hw0
 go_wp2_with fail
 refine (HFi.out w0 HG0.out).mono ?_
 rintro x w1 ⟨rfl, hb1⟩
 have hg1 := Grow.trans HG0.out hb1
 obtain ⟨f0, p0, p1, p2, p3, p4, p5⟩ := HX.out w1 hg1
 have HG1 := keep hg1
 clear c0 c1 c2 hb1 hg1 HFi
 go_wp2_with fail
 refine (HNd.out w1 HG1.out).mono ?_
 rintro x w2 ⟨rfl, hb2⟩
 have HG2 := keep (Grow.trans HG1.out hb2)
 clear f0 p0 p1 p2 p3 p4 p5 hb2 HNd
 go_wp2_with fail
 go_loopw [14, 15] (fun fv i wr => FrRel D.length N w2 fv i wr) (fun _ i _ => N - (intOf i).toNat)
 case atStart => exact show FrRel _ _ _ _ _ _ from ⟨0, Nat.zero_le _, rfl, keep (ownI_nil _ _), keep (Grow.refl _)⟩
 case round =>
  obtain ⟨k, hk, rfl, HO, HG⟩ := hrel
  have HG3 := keep (Grow.trans HG2.out HG.out)
  obtain ⟨fa, fc, rfl⟩ := own_form HO.out
  by_cases hlt : k < N
  ·obtain ⟨f0, -⟩ := HX.out wr HG3.out
   have hN := HN.out
   have hl9 := HLen.out
   have eW : IntKind.i64.wrap ((D.length : Int) + (k : Int)) = ((D.length + k : Nat) : Int) := by rw [IntKind.wrap_i64]; omega
   have hz : w2.heap.size ≤ wr.heap.size := HG.out.size
   have hkl : (freshL D.length k).length = k := freshL_length _ _
   have HZ := keep hz
   have HKl := keep hkl
   clear hz hkl
   go_upto_region 12 with (at_builtin; go_must (refine wpList_iapp rfl _ _ rfl w2.heap.size (freshL D.length k) [((D.length + k : Nat) : Int)] _ _ rfl rfl (owns_fits HO.out ((Grow.refl _).alloc _)) (one_ints _ _).weak (by rw [HKl.out]; have := HN.out; simp; omega) (by have := HZ.out; simp; omega) ?_); intro oa oc u3 ho3 hb3; have HB3 := keep (show Grow w2 u3 from Below.trans (HG.out.alloc _) hb3); have HO3 := keep ho3; clear ho3 hb3)
   go_wp2_with fail
   go_roundw
   case rel => exact show FrRel _ _ _ _ _ _ from ⟨k + 1, hlt, by go_num, keep (by have h := HO3.out; rw [List.length_append] at h; exact h), HB3⟩
   case measure => simp [intOf]; omega
  ·have e : k = N := by omega
   subst e
   obtain ⟨f0, p0, p1, p2, p3, p4, p5⟩ := HX.out wr HG3.out
   have HI3 := keep (own_rowO HO.out : RowS wr _ _ _ _)
   go_wp2_with fail
   refine (HEn.out wr _ HG3.out HI3.out.weak).mono ?_
   rintro x w4 ⟨iv1, T, rfl, hT, hI, hb4, hnil⟩
   obtain ⟨ta, tc, rfl⟩ := imgs_form hI.weak
   have HI := keep hI
   have HNil := keep hnil
   have HT := keep hT
   have HB4 := keep (Grow.trans HG3.out hb4)
   clear f0 p0 p1 p2 p3 p4 p5 hb4 hI hT hnil HEn HI3 HO
   unfold recG
   go_upto_region 15 with ((refine wpList_store_rec rfl _ _ rfl w4.heap.size _ rfl rfl (Blk.new w4 _ [.int .i64 0, .int .i64 0, .int .i64 0, .int .u8 0, .int .i64 0, .int .i64 0, .int .i64 0, .int .i64 0, .int .i64 0, .int .i64 0, .string ⟨#[]⟩, .slice none 0 0, .slice none 0 0, .slice none 0 0, .slice none 0 0, .slice none 0 0]) rfl rfl rfl ?_); intro wz hset hbz; have Hset := keep hset; have HGz := keep (But.below ((Grow.refl w4).alloc _) hbz (Nat.le_refl _) (by simp) : Grow w4 wz); clear hset hbz)
   have hdo := HDo.out wz _ T (Grow.trans HB4.out HGz.out) HT.out (HI.out.fits HGz.out) HNil.out
   unfold recG at hdo
   have HDo2 := keep hdo
   have hA := Hset.out
   have HA := keep hA
   clear hdo hA HDo
   go_wp2_with (refine wpList_load_rec_g rfl _ rfl w4.heap.size rfl HA.out rfl ?_)
   refine HDo2.out.mono ?_
   rintro x w5 ⟨rfl, ⟨D', hD', hF'⟩, hfel⟩
   have hbs : bs ≤ wz.heap.size := Nat.le_trans HB.out (Grow.trans HB4.out HGz.out).size
   have HD := keep hD'
   have HF := keep hF'
   have HFel := keep ((Fel.of_grow HB.out (Grow.trans HB4.out HGz.out)).trans hfel)
   have HA5 := keep (HA.out.fel hfel (by decide) (by decide))
   have hab := above_any kd p (str d) _ T w5 ((HI.out.fits HGz.out).fel hfel).weak
   unfold AbovePost at hab
   rw [HAb.out T HT.out] at hab
   unfold recG enV at hab
   dsimp only at hab
   have HAb2 := keep hab
   clear hD' hF' hfel hab HAb HDo2 HA Hset hbs
   go_upto_region 17 with fail
   go_wp2_with (refine wpList_load_rec rfl _ rfl w4.heap.size rfl HA5.out rfl ?_)
   refine HAb2.out.mono ?_
   rintro x w6 ⟨rfl, hb6⟩
   have HG6 := keep (show Grow w5 w6 from hb6)
   clear hb6 HAb2
   have hb5 : bs ≤ w5.heap.size := Nat.le_trans HB.out HFel.out.low.size
   have HB5 := keep hb5
   clear hb5
   by_cases hc : ais = false ∨ told = false
   ·have HC := keep hc
    have eT : (!ais || !told) = true := by rcases hc with h | h <;> simp [h]
    cases ais with
    | false =>
     clear hc eT
     go_wp2_with fail
     go_ret
     exact HFin.out _ D' (HFel.out.trans (Fel.of_grow HB5.out (HG6.out.alloc _))) (HD.out.fits (HG6.out.alloc _)) HF.out HC.out
    | true =>
     cases told with
     | true => rcases hc with h | h <;> cases h
     | false =>
      clear hc eT
      go_wp2_with fail
      go_ret
      exact HFin.out _ D' (HFel.out.trans (Fel.of_grow HB5.out (HG6.out.alloc _))) (HD.out.fits (HG6.out.alloc _)) HF.out HC.out
   ·have e1 : ais = true := by cases ais <;> simp_all
    have e2 : told = true := by cases told <;> simp_all
    subst e1 e2
    obtain ⟨hse, hre⟩ := HRec.out rfl rfl
    have hsp := fun (u : World) => sep_any (ak, ap, aq) ac u
    rw [hse] at hsp
    unfold enV at hsp
    dsimp only at hsp
    have HSp := keep hsp
    have HRe := keep hre
    clear hc hse hre hsp HRec HFin
    go_upto_region 20 with fail
    obtain ⟨w7, hw7⟩ : ∃ w7, w7 = w6.alloc (.cells #[.string (str ak), .int .i64 ap, .int .i64 aq] 36) := ⟨_, rfl⟩
    rw [← hw7]
    have hg7 : Grow w5 w7 := by subst hw7; exact HG6.out.alloc _
    have hE7 : Blk w7 w6.heap.size 36 [.string (str ak), .int .i64 ap, .int .i64 aq] := by subst hw7; exact Blk.new w6 _ [_, _, _]
    obtain ⟨c0, c1, c2, _⟩ := enres hE7
    have HG7 := keep hg7
    have HE7 := keep hE7
    clear hw7 hg7 hE7
    go_wp2_with fail
    refine (HSp.out w7).mono ?_
    rintro x w8 ⟨rfl, hb8⟩
    obtain ⟨d0, d1, d2, _⟩ := enres (HE7.out.fits hb8)
    have HG8 := keep (Grow.trans HG7.out hb8)
    have eL := HLw.out
    clear c0 c1 c2 hb8 HSp HE7
    go_wp2_with fail
    refine (HRe.out w8 D' (Nat.le_trans HB5.out HG8.out.size) (HD.out.fits HG8.out) HF.out).mono ?_
    rintro x w9 ⟨rfl, h2, h3⟩
    have HE := keep (And.intro h2 h3)
    clear h2 h3 HRe d0 d1 d2 eL
    go_wp2_with fail
    go_ret
    exact HFin2.out w8 w9 (HFel.out.trans (Fel.of_grow HB5.out HG8.out)) ⟨rfl, HE.out.1, HE.out.2⟩
end Go.Proofs.Ytaninphcgeaepaa
namespace Go.Proofs.Ytaninphcgeaepaa
open Go.RowKit
variable {F : List Pg} {I : Int → Option Nv} {top : Int} {q : Nat} {n : Int} {v : Nv} {e : En} {c : Int} {lv r : Int} {ks : Ks} {h : Option En}
def Ent (I : Int → Option Nv) (q : Nat) (lv : Int) (e : En) (F' : List Pg) : Prop := ∃ I' top' q', Fo F' I' top' q' ∧ q' ≤ q + 1 ∧ ∀ x, Has I' x ↔ Has I x ∨ (lv = 0 ∧ x = e)
theorem itB_small (F : Comes lv h e c) : ((itB lv (e, c)).length : Int) ≤ 140737488355328 := by have := itB_le F; omega
theorem page_at {D : Fr} {I : Int → Option Nv} (H : Fo (pgD D) I top q) {m : Nat} {v : Nv} (hv : I (m : Int) = some v) : 1 ≤ m ∧ ∃ hm : m < D.length, ∃ iv, D[m] = (nodeP v.lv v.ks v.nx v.hi, iv) := by
 obtain ⟨h1, h2, h3, _⟩ := H.here _ _ hv
 rw [pgD_length] at h2
 have hm : m < D.length := by omega
 refine ⟨by omega, hm, D[m].2, ?_⟩
 have h4 : (pgD D)[m]? = some D[m].1 := by simp [pgD, hm]
 rw [Int.toNat_natCast, h4] at h3
 exact Prod.ext (Option.some.inj h3) rfl
theorem do_fit (bs fr : Nat) (D : Fr) (w_ : World) (h9 : ForT bs w_ fr D) (hb : bs ≤ w_.heap.size) {m : Nat} (h1 : 1 ≤ m) (hm : m < D.length) {iv : Value} (hP : D[m] = (nodeP lv ks r h, iv))
  (H : NodeOk lv ks r h) (F : Comes lv h e c) (hn : e ∉ keysK ks) (hf : fitsP (nodeP lv (insK ks (e, c)) r h) = true) :
  ∀ (u : World) (v : Value) (T : List Im), Grow w_ u → T.map dropV = [] → ImgsC u v T → (T = [] → v = .slice none 0 0) → Calls Try.prog 14 #[.pointer (some ⟨fr, 0, none⟩), recG 3 (m : Int) (str (itB lv (e, c))) v] u fun x w' => x = .returned (.bool true) ∧ (∃ D', ForT bs w' fr D' ∧ pgD D' = (pgD D).set m (nodeP lv (insK ks (e, c)) r h)) ∧ Fel bs u w' := by
 intro u v T hu hT _ hv
 have hT0 : T = [] := by simpa using hT
 rw [hv hT0, recG_nil]
 have hT9 := h9.fits hu
 refine (does_one bs fr D 3 m (itB lv (e, c)) (nodeP lv (insK ks (e, c)) r h) u hT9 (Nat.le_trans hb hu.size) h1 hm (by decide) (pgFine_nd (comes_ok H F hn hf)) fun u' hu' => ?_).mono ?_
 ·rw [hP]
  have hin := (for_in (hT9.fits hu') hm hP).1
  by_cases h0 : lv = 0
  ·subst h0
   have h2 := changed_new (nodeP 0 ks r h) iv (m : Int) (itB 0 (e, c)) e u' hin (itB_small F) rfl (dec_of F)
   rw [insN_nd H F hn hf] at h2
   exact h2
  ·have h2 := changed_above (nodeP lv ks r h) iv (m : Int) (itB lv (e, c)) e c u' hin (itB_small F) (show 0 < lv by have := H.lev; omega) (uns_of F h0)
   rw [postN_nd H h0 F hn hf] at h2
   exact h2
 ·rintro x w' ⟨hx, ⟨iv', hD⟩, hfe⟩
  exact ⟨hx, ⟨_, hD, by rw [pgD_set]⟩, hfe⟩
theorem do_split (bs fr : Nat) (D : Fr) (w_ : World) (h9 : ForT bs w_ fr D) (hb : bs ≤ w_.heap.size) {m : Nat} (h1 : 1 ≤ m) (hm : m < D.length) (hlen : D.length ≤ 65535) {A B : Pg} (hA : PgFine A) (hB : PgFine B) :
  ∀ (u : World) (v : Value) (T : List Im), Grow w_ u → T.map dropV = [((m : Int), A), ((D.length : Int), B)] → ImgsC u v T → (T = [] → v = .slice none 0 0) → Calls Try.prog 14 #[.pointer (some ⟨fr, 0, none⟩), recG 5 0 (str []) v] u fun x w' => x = .returned (.bool true) ∧ (∃ D', ForT bs w' fr D' ∧ pgD D' = (pgD D).set m A ++ [B]) ∧ Fel bs u w' := by
 intro u v T hu hT hI _
 obtain ⟨v1, v2, rfl⟩ := drop_two hT
 dsimp only at hI ⊢
 obtain ⟨hfit, hput⟩ := put_two (D := D) (n := (m : Int)) (by omega) (by omega) A B v1 v2
 refine (does_imgs bs fr D 0 [] v _ u (h9.fits hu) (Nat.le_trans hb hu.size) hI hfit ?_ (fun k => ?_) (by simp)).mono ?_
 ·intro x hx
  simp only [List.mem_cons, List.not_mem_nil, or_false] at hx
  rcases hx with rfl | rfl
  ·exact hA
  ·exact hB
 ·refine Nat.le_trans (fold_len _ _) ?_
  rw [List.length_take]
  simp only [List.length_cons, List.length_nil]
  omega
 ·rintro x w' ⟨hx, hD, hfe⟩
  rw [hput] at hD
  refine ⟨by rw [hx]; rfl, ⟨_, hD, ?_⟩, hfe⟩
  rw [pgD_append, pgD_set, Int.toNat_natCast]
  rfl
theorem do_root (bs fr : Nat) (D : Fr) (w_ : World) (h9 : ForT bs w_ fr D) (hb : bs ≤ w_.heap.size) (h2 : 2 ≤ D.length) (hlen : D.length ≤ 65535) {A B R : Pg} (hA : PgFine A) (hB : PgFine B) (hR : PgFine R) :
  ∀ (u : World) (v : Value) (T : List Im), Grow w_ u → T.map dropV = [((D.length : Int), A), (((D.length + 1 : Nat) : Int), B), (1, R)] → ImgsC u v T → (T = [] → v = .slice none 0 0) → Calls Try.prog 14 #[.pointer (some ⟨fr, 0, none⟩), recG 5 0 (str []) v] u fun x w' => x = .returned (.bool true) ∧ (∃ D', ForT bs w' fr D' ∧ pgD D' = (pgD D ++ [A] ++ [B]).set 1 R) ∧ Fel bs u w' := by
 intro u v T hu hT hI _
 obtain ⟨v1, v2, v3, rfl⟩ := drop_three hT
 dsimp only at hI ⊢
 obtain ⟨hfit, hput⟩ := put_three h2 A B R v1 v2 v3
 refine (does_imgs bs fr D 0 [] v _ u (h9.fits hu) (Nat.le_trans hb hu.size) hI hfit ?_ (fun k => ?_) (by simp)).mono ?_
 ·intro x hx
  simp only [List.mem_cons, List.not_mem_nil, or_false] at hx
  rcases hx with rfl | rfl | rfl
  ·exact hA
  ·exact hB
  ·exact hR
 ·refine Nat.le_trans (fold_len _ _) ?_
  rw [List.length_take]
  simp only [List.length_cons, List.length_nil]
  omega
 ·rintro x w' ⟨hx, hD, hfe⟩
  rw [hput] at hD
  refine ⟨by rw [hx]; rfl, ⟨_, hD, ?_⟩, hfe⟩
  rw [pgD_set, pgD_append, pgD_append]
  rfl
theorem enters_any (bs fr : Nat) : ∀ (k : Nat) (D : Fr) (I : Int → Option Nv) (top : Int) (q : Nat) (lv : Int) (e : En) (c : Int) (told : Bool) (w_ : World), (top - lv).toNat = k → ForT bs w_ fr D → bs ≤ w_.heap.size → Fo (pgD D) I top q →
  0 ≤ lv → lv ≤ top → q ≤ 500 → enOk e = true →
  (∀ m u, I m = some u → u.lv = lv → inR u.lo u.hi e → Comes u.lv u.hi e c ∧ (u.lv ≠ 0 → e ∉ keysK u.ks ∧ ∃ w, I c = some w ∧ w.lv = u.lv - 1 ∧ w.lo = some e)) →
  Calls Try.prog 8 #[.pointer (some ⟨fr, 0, none⟩), .int .i64 lv, enV e, .string (str (itB lv (e, c))), .bool told] w_ (EnterQ bs fr (Ent I q lv e) w_) := by
 intro k
 induction k using Nat.strongRecOn with
 | _ k ih =>
  intro D I top q lv e c told w_ hk h9 hb H h0 hlt hq he hcm
  obtain ⟨v, hv, hvl, hR⟩ := find_root H ⟨h0, hlt⟩ he (by omega)
  subst hvl
  obtain ⟨hn1, hn2, hn3, hok⟩ := H.here _ _ hv
  obtain ⟨hC, hkid⟩ := hcm _ _ hv rfl hR
  obtain ⟨m, hm⟩ := Int.eq_ofNat_of_zero_le (show 0 ≤ findF (pgD D) v.lv e 10000 1 by omega)
  have hv2 := hv
  rw [hm] at hv2
  obtain ⟨h1, hmD, iv, hP⟩ := page_at H hv2
  have hsz := H.size
  have h2D := H.two
  rw [pgD_length] at hsz h2D
  have hlev := hok.lev
  by_cases hin : e ∈ keysK v.ks
  ·refine enters_there bs fr D v.lv e (itB v.lv (e, c)) told w_ h9 hb m _ iv _ hm h1 hmD hP (itB_small hC) ?_ ?_
   ·rw [need_nd hok hC, if_pos hin]
   ·refine ⟨I, top, q, H, by omega, fun x => ⟨.inl, ?_⟩⟩
    rintro (h | ⟨h, rfl⟩)
    ·exact h
    ·exact ⟨_, v, hv, h, hin⟩
  ·have hlo := hR.1
   have hkid2 : v.lv ≠ 0 → ∃ w, I c = some w ∧ w.lv = v.lv - 1 ∧ w.lo = some e := fun hl => (hkid hl).2
   by_cases hf : fitsP (nodeP v.lv (insK v.ks (e, c)) v.nx v.hi) = true
   ·obtain ⟨hnd, hent⟩ := enter_fit hok hC hin hf (m : Int)
    have hins := Fo.ins H hv2 hC hin hf hlo hkid2
    rw [Int.toNat_natCast] at hins
    refine enters_walk bs fr D v.lv e (itB v.lv (e, c)) told w_ h9 hb m _ iv _ 0 3 (m : Int) (itB v.lv (e, c)) [] leastE 0 false [] ((pgD D).set m (nodeP v.lv (insK v.ks (e, c)) v.nx v.hi)) hm h1 hmD hP (itB_small hC) hlev (by omega) hnd (by omega) hent
     (do_fit bs fr D w_ h9 hb h1 hmD hP hok hC hin hf) (fun T hT => ?_) (fun _ => ⟨_, _, _, hins, by omega, fun x => has_ins hv2 x⟩) (fun h => by cases h)
    have hT0 : T = [] := by simpa using hT
    rw [hT0]
    exact above_none
   ·have h12 := full_12 hok hC hf
    have hbo := bord_ok hok h12
    by_cases hm1 : (m : Int) = 1
    ·have hm2 : m = 1 := by omega
     subst hm2
     have hv3 : I 1 = some v := hv2
     obtain ⟨v', hv', hvt, hvlo, hvhi⟩ := H.root
     rw [hv3] at hv'
     cases hv'
     have htp := H.tops
     rw [pgD_length] at htp
     have hnx := H.last 1 v hv3 hvhi
     have hr0 : inB ((D.length + 1 : Nat) : Int) 0 65535 = true := by unfold inB; simp; omega
     have hr1 : inB ((D.length + 1 : Nat) : Int) 1 65535 = true := by unfold inB; simp; omega
     have hf1 : inB (D.length : Int) 1 65535 = true := by unfold inB; simp; omega
     obtain ⟨hA, hB⟩ := halves hok hC h12 hin hr0
     obtain ⟨hnd, hent⟩ := enter_two hok hC hin hf (by omega) h2D (by omega)
     have hrt := (root_nd (lv := v.lv) ⟨hlev.1, by omega⟩ hf1 hr1 hbo.1).2
     have hra := Fo.raise H hv3 hC hin hf hkid2 (by rw [pgD_length]; omega)
     have hha := has_raise H hv3 hC hf
     rw [pgD_length] at hra hha
     rw [hnx, hvhi] at hB
     refine enters_walk bs fr D v.lv e (itB v.lv (e, c)) told w_ h9 hb 1 _ iv _ 2 5 0 [] _ leastE 0 false [] ((pgD D ++ [nodeP v.lv (listA v.lv v.ks e c) (D.length + 1 : Nat) (some (bordK v.lv v.ks))] ++ [nodeP v.lv (listB v.lv v.ks e c) v.nx v.hi]).set 1 (nodeP (v.lv + 1) [(leastE, (D.length : Int)), (bordK v.lv v.ks, ((D.length + 1 : Nat) : Int))] 0 none)) hm h1 hmD hP (itB_small hC) hlev (by omega) hnd (by omega) (by rw [fresh_two]; exact hent)
      (do_root bs fr D w_ h9 hb h2D (by omega) (pgFine_nd hA) (by rw [hnx, hvhi]; exact pgFine_nd hB) (pgFine_nd hrt)) (fun T hT => ?_) (fun _ => ⟨_, _, _, by rw [hnx, hvhi]; exact hra, by omega, hha⟩) (fun h => by cases h)
     obtain ⟨v1, v2, v3, rfl⟩ := drop_three hT
     exact above_three
    ·have hr0 : inB (D.length : Int) 0 65535 = true := by unfold inB; simp; omega
     obtain ⟨hA, hB⟩ := halves hok hC h12 hin hr0
     obtain ⟨hnd, hent⟩ := enter_one hok hC hin hf hm1 h2D (by omega)
     have hnr : v.lv < top := by
      obtain ⟨a1, a2⟩ := H.alone _ _ hv2
      omega
     have hsp := Fo.split H hv2 hC hin hf hlo hkid2 hnr (by rw [pgD_length]; omega)
     have hha := has_split H hv2 hC hf
     have hpo := fun (m' : Int) (u : Nv) => Fo.post H hv2 hC hf (by rw [pgD_length]; omega) (m := m') (u := u)
     rw [pgD_length] at hsp hha hpo
     rw [Int.toNat_natCast] at hsp
     have hl1 : v.lv + 1 ≠ 0 := by omega
     have hkk : (top - (v.lv + 1)).toNat < k := by clear hkid hkid2 hpo; omega
     have hl2 : 0 ≤ v.lv + 1 := by omega
     have hl3 : v.lv + 1 ≤ top := by omega
     refine enters_walk bs fr D v.lv e (itB v.lv (e, c)) told w_ h9 hb m _ iv _ 1 5 0 [] _ (bordK v.lv v.ks) (D.length : Int) true (itB (v.lv + 1) (bordK v.lv v.ks, (D.length : Int))) ((pgD D).set m (nodeP v.lv (listA v.lv v.ks e c) D.length (some (bordK v.lv v.ks))) ++ [nodeP v.lv (listB v.lv v.ks e c) v.nx v.hi]) hm h1 hmD hP (itB_small hC) hlev (by omega) hnd (by omega) (by rw [fresh_one]; exact hent)
      (do_split bs fr D w_ h9 hb h1 hmD (by omega) (pgFine_nd hA) (pgFine_nd hB)) (fun T hT => ?_) (fun _ => ⟨_, _, _, hsp, by omega, hha⟩) (fun _ _ => ⟨sep_of hbo.1 (by unfold inB; simp; omega) hl1, fun u D' hu hD' hF' => ?_⟩)
     ·obtain ⟨v1, v2, rfl⟩ := drop_two hT
      exact above_two hbo.1
     ·refine (ih (top - (v.lv + 1)).toNat hkk D' _ top q (v.lv + 1) (bordK v.lv v.ks) (D.length : Int) true u rfl hD' hu (by rw [hF']; exact hsp) hl2 hl3 hq hbo.1 fun m' u' hu1 hu2 hu3 => ?_).mono ?_
      ·obtain ⟨p1, p2, p3, w, p4, p5, p6⟩ := hpo m' u' hu1 hu2 hu3
       exact ⟨p1, fun _ => ⟨p2, w, p4, p5, p6⟩⟩
      ·rintro x w' ⟨hx, ⟨D2, hD2, I', top', q', hI, hq', hh⟩, hfe⟩
       refine ⟨hx, ⟨D2, hD2, I', top', q', hI, by omega, fun x => ?_⟩, hfe⟩
       rw [hh, hha]
       constructor
       ·rintro (h | ⟨h, _⟩)
        ·exact h
        ·exact absurd h hl1
       ·exact .inl
theorem enters_leaf (bs fr : Nat) (D : Fr) (I : Int → Option Nv) (top : Int) (q : Nat) (e : En) (told : Bool) (w_ : World) (h : ForT bs w_ fr D) (hb : bs ≤ w_.heap.size) (H : Fo (pgD D) I top q) (hq : q ≤ 500) (he : enOk e = true) :
  Calls Try.prog 8 #[.pointer (some ⟨fr, 0, none⟩), .int .i64 0, enV e, .string (str (enBytes e [])), .bool told] w_ (EnterQ bs fr (Ent I q 0 e) w_) := by
 have h1 := enters_any bs fr (top - 0).toNat D I top q 0 e 0 told w_ rfl h hb H (Int.le_refl 0) H.top_nn hq he fun m u _ hl hR => ⟨by rw [hl]; exact comes_leaf he hR, fun h => absurd hl h⟩
 exact h1
end Go.Proofs.Ytaninphcgeaepaa
