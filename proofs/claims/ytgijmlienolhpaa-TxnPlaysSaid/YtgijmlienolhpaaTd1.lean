
/- The document's table in memory; appends of what lies somewhere; where a session's row stands. -/
import Derived.Test.YtgijmlienolhpaaTla
import Derived.Deep.DeepAppendWide
import Derived.Laws.AppendOwnNone
namespace Go.Proofs.Ytgijmlienolhpaa
open Go.RowKit Go.Maps

/-- What an append takes from: nothing, or cells that lie somewhere. -/
def SrcOk (w : World) (v : Value) (m : Nat) (news : List Value) (size : Nat) : Prop :=
  news.length = m * size ∧ ((v = .slice none 0 0 ∧ m = 0) ∨ ∃ ad c, v = .slice (some ad) m c ∧ ∀ j u, news[j]? = some u → w.cell? (ad.add j) = some u)
theorem wpList_append_src {P : Program} {w : World} {ops : Array Oper} {rest : List Oper} {o : Oper} {a : Act} {Q : Exit → Act → World → Prop} (hgd : o.guard = none) (s x : Operand) (t : TypeId)
    (ho : o.op = .call { callee := .builtin .append, args := #[s, x], argTypes := #[t, t] })
    (base : Nat) (e : TypeId) (i : TypeInfo) (z : Value) (size bytes : Nat) (ht : P.underlying t = some (.slice e)) (hi : P.info? e = some i) (hz : i.zero = some z)
    (hsize : i.size = size) (hby : i.bytes = bytes) (hzs : z.cells.size = size) (hsz : 0 < size)
    (v : Value) (n : Nat) (xs : List Value) (hs : a.eval s = v) (hown : w.ownsRow base e size v n xs)
    (xv : Value) (m : Nat) (news : List Value) (hx : a.eval x = xv) (hsrc : SrcOk w xv m news size) (h1 : ∀ u ∈ news, u.oneCell' = true)
    (h63 : n + m ≤ maxLen) (hbytes : ((n + m) + (n + m) / 4 + 192) * bytes ≤ 281474976710656) (hbase : base ≤ w.heap.size)
    (h : ∀ v' w', w'.ownsRow base e size v' (n + m) (xs ++ news) → w.grownBy w' v.ownBlock → wpList P ops Q rest (a.put o.dst v') w') : wpList P ops Q (o :: rest) a w := by
  obtain ⟨hl, ⟨rfl, rfl⟩ | ⟨ad, c, rfl, hn⟩⟩ := hsrc
  · have e0 : news = [] := List.eq_nil_of_length_eq_zero (by omega)
    subst e0
    exact wpList_append_own_none hgd s x t ho base e i size ht hi v n xs hs hown hx (h v w (by simpa using hown) ⟨rfl, rfl, rfl, Nat.le_refl _, fun _ _ _ => rfl⟩)
  · exact wpList_append_own_wide w hgd s x t ho base e i z size bytes ht hi hz hsize hby hzs hsz v n xs hs hown ad m c news hx hl hn h1 h63 hbytes hbase fun v' w' h2 h3 _ => h v' w' h2 h3

/-- The document's rows, each with where its list lies. -/
abbrev Dr := List ((Int × Tn) × Value)
def drC (p : (Int × Tn) × Value) : List Value := [.int .i64 p.1.1, .int .i64 p.1.2.next, p.2, .int .i64 p.1.2.xid, .int .i64 p.1.2.first, .int .i64 p.1.2.last, .int .i64 p.1.2.undoes]
def drS (D : Dr) : List Value := D.flatMap drC
def stD (D : Dr) : St := D.map (·.1)
theorem drS_length (D : Dr) : (drS D).length = D.length * 7 := flat_len drC 7 (fun _ => rfl) D
theorem drS_append (a b : Dr) : drS (a ++ b) = drS a ++ drS b := by simp [drS]
structure DocT (w : World) (O : Nat → Prop) (tr : Nat) (D : Dr) : Prop where
  base : O tr
  tab : ∃ v, Blk w tr 73 [v] ∧ w.ownsRow 0 78 7 v D.length (drS D) ∧ ∀ g, v.ownBlock = some g → O g
  rows : ∀ p ∈ D, RowO w O p.2 p.1.2.act
theorem own_keeps {w w' : World} {b e s n : Nat} {v : Value} {xs : List Value} (h : w.ownsRow b e s v n xs) (hk : ∀ g, v.ownBlock = some g → g < w.heap.size → w'.heap[g]? = w.heap[g]?) : w'.ownsRow b e s v n xs := by
  have hlt := h.lt
  refine ⟨h.1, ?_⟩
  rcases h.2 with hn | ⟨g, cap, cur, rfl, hb, hgg, rest⟩
  · exact .inl hn
  · exact .inr ⟨g, cap, cur, rfl, hb, by rw [hk g rfl (hlt g rfl).2]; exact hgg, rest⟩
theorem own_base {w : World} {b b' e s n : Nat} {v : Value} {xs : List Value} (h : w.ownsRow b e s v n xs) (hb' : b' ≤ b) : w.ownsRow b' e s v n xs := by
  refine ⟨h.1, ?_⟩
  rcases h.2 with hn | ⟨g, cap, cur, rfl, hb, rest⟩
  · exact .inl hn
  · exact .inr ⟨g, cap, cur, rfl, Nat.le_trans hb' hb, rest⟩
theorem DocT.keeps {w w' : World} {O : Nat → Prop} {tr : Nat} {D : Dr} (h : DocT w O tr D) (hk : ∀ k, O k → k < w.heap.size → w'.heap[k]? = w.heap[k]?) : DocT w' O tr D := by
  obtain ⟨v, h1, h2, h3⟩ := h.tab
  exact ⟨h.base, ⟨v, blk_keeps h1 (hk _ h.base h1.lt), own_keeps h2 (fun g e hl => hk g (h3 g e) hl), h3⟩, fun p hp => (h.rows p hp).keeps hk⟩
theorem DocT.fits {w w' : World} {O : Nat → Prop} {tr : Nat} {D : Dr} (h : DocT w O tr D) (k : Below w.heap.size w w') : DocT w' O tr D := h.keeps fun i _ hi => k.block i hi
theorem DocT.weaken {w : World} {O O' : Nat → Prop} {tr : Nat} {D : Dr} (h : DocT w O tr D) (hO : ∀ k, O k → k < w.heap.size → O' k) : DocT w O' tr D := by
  obtain ⟨v, h1, h2, h3⟩ := h.tab
  exact ⟨hO _ h.base h1.lt, ⟨v, h1, h2, fun g e => hO g (h3 g e) (h2.lt g e).2⟩, fun p hp => (h.rows p hp).weaken hO⟩
theorem DocT.old {w : World} {O : Nat → Prop} {tr : Nat} {D : Dr} (h : DocT w O tr D) : DocT w (fun k => O k ∧ k < w.heap.size) tr D := h.weaken fun _ a b => ⟨a, b⟩
/-- The rows' block, if there are any. -/
theorem dr_at {w : World} {v : Value} {D : Dr} (h : w.ownsRow 0 78 7 v D.length (drS D)) {k : Nat} (hk : k < D.length) : ∃ g cap, v = .slice (some ⟨g, 0, none⟩) D.length cap ∧ D.length ≤ cap ∧
    (w.cell? ⟨g, k * 7, none⟩ = some (.int .i64 D[k].1.1) ∧ w.cell? ⟨g, k * 7 + 1, none⟩ = some (.int .i64 D[k].1.2.next) ∧ w.cell? ⟨g, k * 7 + 2, none⟩ = some D[k].2 ∧ w.cell? ⟨g, k * 7 + 3, none⟩ = some (.int .i64 D[k].1.2.xid) ∧ w.cell? ⟨g, k * 7 + 4, none⟩ = some (.int .i64 D[k].1.2.first) ∧ w.cell? ⟨g, k * 7 + 5, none⟩ = some (.int .i64 D[k].1.2.last) ∧ w.cell? ⟨g, k * 7 + 6, none⟩ = some (.int .i64 D[k].1.2.undoes)) ∧
    ∀ j, w.frozen? ⟨g, j, none⟩ = false := by
  rcases h.2 with ⟨rfl, h0⟩ | ⟨g, cap, cur, rfl, _, hh, hn, hcm, hcs, ht⟩
  · omega
  · refine ⟨g, cap, rfl, hn, ?_, fun j => by simp [World.frozen?, hh]⟩
    have hl := drS_length D
    have hg : ∀ j (hj : j < 7), w.cell? ⟨g, k * 7 + j, none⟩ = some ((drC D[k])[j]'hj) := by
      intro j hj
      have hlt : k * 7 + j < (drS D).length := by omega
      have h2 := flat_at drC 7 (fun _ => rfl) D k hk j hj
      have h3 : (cur.toList.take (D.length * 7))[k * 7 + j]? = (drS D)[k * 7 + j]? := by rw [ht]
      rw [List.getElem?_take, if_pos (by omega)] at h3
      have h4 : (drS D)[k * 7 + j]? = some ((drC D[k])[j]'hj) := by
        rw [show (drS D)[k * 7 + j]? = _ from h2]; exact List.getElem?_eq_getElem hj
      rw [h4] at h3
      simp only [World.cell?, hh]
      simpa using h3
    exact ⟨hg 0 (by decide), hg 1 (by decide), hg 2 (by decide), hg 3 (by decide), hg 4 (by decide), hg 5 (by decide), hg 6 (by decide)⟩
theorem src_lo {w : World} {g cap n : Nat} {D : Dr} (h : w.ownsRow 0 78 7 (.slice (some ⟨g, 0, none⟩) n cap) D.length (drS D)) (i : Nat) (hi : i ≤ D.length) : SrcOk w (.slice (some ⟨g, 0, none⟩) i cap) i (drS (D.take i)) 7 := by
  refine ⟨by rw [drS_length, List.length_take]; omega, .inr ⟨_, _, rfl, fun j u hu => ?_⟩⟩
  rcases (own_rowS h).weak with ⟨h0, h0', _⟩ | ⟨c, off, cap', e, hc⟩
  · have : D.take i = [] := by rw [List.eq_nil_of_length_eq_zero h0]; simp
    rw [this] at hu; simp [drS] at hu
  · simp only [Value.slice.injEq, Option.some.injEq, Addr.mk.injEq] at e
    obtain ⟨⟨rfl, rfl, -⟩, -, -⟩ := e
    have hlt : j < (drS (D.take i)).length := (List.getElem?_eq_some_iff.1 hu).1
    have e2 : drS D = drS (D.take i) ++ drS (D.drop i) := by rw [← drS_append, List.take_append_drop]
    have h1 := hc j (by rw [e2, List.length_append]; omega)
    have h2 : (drS D)[j]? = some u := by rw [e2, List.getElem?_append_left hlt]; exact hu
    rw [List.getElem?_eq_getElem (by rw [e2, List.length_append]; omega)] at h2
    rw [Option.some.inj h2] at h1
    show w.cell? (Addr.add ⟨g, 0, none⟩ j) = _
    rw [show (Addr.add ⟨g, 0, none⟩ j) = ⟨g, 0 + j, none⟩ by simp [Addr.add]; exact fun h => h.symm]
    exact h1
theorem src_hi {w : World} {g cap n m c : Nat} {D : Dr} (h : w.ownsRow 0 78 7 (.slice (some ⟨g, 0, none⟩) n cap) D.length (drS D)) (i : Nat) (hi : i ≤ D.length) (hm : m = D.length - i) : SrcOk w (.slice (some ⟨g, i * 7, none⟩) m c) m (drS (D.drop i)) 7 := by
  subst hm
  refine ⟨by rw [drS_length, List.length_drop], .inr ⟨_, _, rfl, fun j u hu => ?_⟩⟩
  have hlt : j < (drS (D.drop i)).length := (List.getElem?_eq_some_iff.1 hu).1
  rcases (own_rowS h).weak with ⟨h0, h0', _⟩ | ⟨c, off, cap', e, hc⟩
  · rw [drS_length, List.length_drop] at hlt; omega
  · simp only [Value.slice.injEq, Option.some.injEq, Addr.mk.injEq] at e
    obtain ⟨⟨rfl, rfl, -⟩, -, -⟩ := e
    have e2 : drS D = drS (D.take i) ++ drS (D.drop i) := by rw [← drS_append, List.take_append_drop]
    have hl : (drS (D.take i)).length = i * 7 := by rw [drS_length, List.length_take]; omega
    have h1 := hc (i * 7 + j) (by rw [e2, List.length_append]; omega)
    have h2 : (drS D)[i * 7 + j]? = some u := by rw [e2, List.getElem?_append_right (by omega), hl, Nat.add_sub_cancel_left]; exact hu
    rw [List.getElem?_eq_getElem (by rw [e2, List.length_append]; omega)] at h2
    rw [Option.some.inj h2, Nat.zero_add] at h1
    show w.cell? (Addr.add ⟨g, i * 7, none⟩ j) = _
    rw [show (Addr.add ⟨g, i * 7, none⟩ j) = ⟨g, i * 7 + j, none⟩ by simp [Addr.add]]
    exact h1
theorem src_none (w : World) (size : Nat) : SrcOk w (.slice none 0 0) 0 [] size := ⟨by simp, .inl ⟨rfl, rfl⟩⟩

/-- Where a session's row stands, or would; and whether it does. -/
def atS (who : Int) : St → Nat × Bool
  | [] => (0, false)
  | x :: r => if who ≤ x.1 then (0, x.1 == who) else ((atS who r).1 + 1, (atS who r).2)
theorem atS_le (who : Int) (S : St) : (atS who S).1 ≤ S.length := by
  induction S with
  | nil => exact Nat.le_refl _
  | cons x r ih => rw [atS]; split <;> simp; exact ih
theorem atS_of (who : Int) (S : St) (k : Nat) (hk : k ≤ S.length) (hlt : ∀ j (h : j < S.length), j < k → S[j].1 < who) : (k = S.length → atS who S = (k, false)) ∧ ∀ h : k < S.length, who ≤ S[k].1 → atS who S = (k, S[k].1 == who) := by
  induction S generalizing k with
  | nil => exact ⟨fun h => by subst h; rfl, fun h => by simp at h⟩
  | cons x r ih =>
    cases k with
    | zero =>
      refine ⟨fun h => by simp at h, fun _ h => ?_⟩
      rw [atS, if_pos (show who ≤ x.1 from h)]; rfl
    | succ k =>
      have h0 := hlt 0 (by simp) (by omega)
      have h0' : ¬ who ≤ x.1 := by simp at h0; omega
      obtain ⟨i1, i2⟩ := ih k (by simpa using hk) (fun j hj hjk => hlt (j + 1) (by simpa using hj) (by omega))
      rw [atS, if_neg h0']
      exact ⟨fun h => by rw [i1 (by simpa using h)], fun h1 h2 => by rw [i2 (by simpa using h1) (by simpa using h2)]; simp⟩
theorem atS_spec {who : Int} {S : St} (hup : S.Pairwise fun a b => a.1 < b.1) : (atS who S).2 = (findT who S).isSome ∧ (∀ t, findT who S = some t → ∃ h : (atS who S).1 < S.length, S[(atS who S).1] = (who, t)) ∧ (findT who S = none → ∀ t, insT who t S = S.take (atS who S).1 ++ (who, t) :: S.drop (atS who S).1) ∧
    ((findT who S).isSome = true → delT who S = S.take (atS who S).1 ++ S.drop ((atS who S).1 + 1) ∧ ∀ t, setT who t S = S.set (atS who S).1 (who, t)) := by
  induction S with
  | nil => simp [atS, findT, insT]
  | cons x r ih =>
    rw [List.pairwise_cons] at hup
    obtain ⟨i1, i2, i3, i4⟩ := ih hup.2
    by_cases hx : x.1 = who
    · have ha : atS who (x :: r) = (0, true) := by rw [atS, if_pos (by omega)]; simp [hx]
      have hf : findT who (x :: r) = some x.2 := by simp [findT, hx]
      rw [ha, hf]
      have hnr : ∀ y ∈ r, y.1 ≠ who := fun y hy => by have := hup.1 y hy; omega
      refine ⟨rfl, fun t ht => ⟨by simp, ?_⟩, fun h => by simp at h, fun _ => ⟨?_, fun t => ?_⟩⟩
      · cases ht; simp [← hx]
      · have : delT who r = r := by
          unfold delT; rw [List.filter_eq_self]; intro y hy; simpa [bne] using hnr y hy
        have e : delT who (x :: r) = delT who r := by simp [delT, hx]
        rw [e, this]; simp
      · have : setT who t r = r := by
          unfold setT
          conv => rhs; rw [← List.map_id r]
          refine List.map_congr_left fun y hy => ?_
          rw [if_neg (hnr y hy)]; rfl
        have e : setT who t (x :: r) = (who, t) :: setT who t r := by simp [setT, hx]
        rw [e, this]; simp
    · by_cases hle : who ≤ x.1
      · have hlt : who < x.1 := by omega
        have ha : atS who (x :: r) = (0, false) := by rw [atS, if_pos hle]; simp [hx]
        have hnr : ∀ y ∈ x :: r, y.1 ≠ who := fun y hy => by
          rcases List.mem_cons.1 hy with rfl | hy
          · exact hx
          · have := hup.1 y hy; omega
        have hf : findT who (x :: r) = none := by
          unfold findT
          rw [Option.map_eq_none_iff, List.find?_eq_none]
          intro y hy; simpa using hnr y hy
        rw [ha, hf]
        exact ⟨rfl, fun t ht => by simp at ht, fun _ t => by simp [insT, hlt], fun h => by simp at h⟩
      · have ha : atS who (x :: r) = ((atS who r).1 + 1, (atS who r).2) := by rw [atS, if_neg hle]
        have hf : findT who (x :: r) = findT who r := by simp [findT, hx]
        rw [ha, hf]
        refine ⟨i1, fun t ht => ?_, fun hn t => ?_, fun hs => ⟨?_, fun t => ?_⟩⟩
        · obtain ⟨h1, h2⟩ := i2 t ht
          exact ⟨by simpa using h1, by simpa using h2⟩
        · rw [insT, if_neg (by omega), i3 hn t]; simp
        · have e : delT who (x :: r) = x :: delT who r := by simp [delT, hx]
          rw [e, (i4 hs).1]; simp
        · have e : setT who t (x :: r) = x :: setT who t r := by simp [setT, hx]
          rw [e, (i4 hs).2 t]; simp

def AtRel (D : Dr) (who : Int) (w0 : World) (i : Value) (wr : World) : Prop := ∃ k : Nat, k ≤ D.length ∧ i = .int .i64 k ∧ Kept (∀ j (h : j < D.length), j < k → D[j].1.1 < who) ∧ Kept (Grow w0 wr)
def AtPost (D : Dr) (who : Int) (w : World) (e : Ending) (w' : World) : Prop := e = .returned (.tuple #[.int .i64 ((atS who (stD D)).1 : Nat), .bool (atS who (stD D)).2]) ∧ Below w.heap.size w w'

set_option maxRecDepth 100000 in
set_option maxHeartbeats 4000000 in
theorem at_any (D : Dr) (tr : Nat) (v : Value) (who : Int) (w_ : World) (hb : Blk w_ tr 73 [v]) (ho : w_.ownsRow 0 78 7 v D.length (drS D)) (hn : D.length ≤ 4398046511104) :
    Calls Try.prog 35 #[.pointer (some ⟨tr, 0, none⟩), .int .i64 who] w_ (AtPost D who w_) := by
  have HB := keep hb
  have HO := keep ho
  obtain ⟨va, vc, rfl⟩ := own_form ho
  clear hb ho
  go_enter Try.func35, Try.ntmps35
  go_wp2_with fail
  go_loopw [6] (fun i wr => AtRel D who w_ i wr) (fun i _ => D.length - (intOf i).toNat)
  case atStart => exact show AtRel D who w_ _ _ from ⟨0, Nat.zero_le _, rfl, keep (fun j _ h => by omega), keep (Below.refl _ _)⟩
  case round =>
    obtain ⟨k, hkl, rfl, HL, HG⟩ := hrel
    have c0 := (HB.out.fits HG.out).cell 0 (by simp)
    simp only [List.getElem_cons_zero] at c0
    have hspec := atS_of who (stD D) k (by simpa [stD] using hkl) (fun j h1 h2 => by simpa [stD] using HL.out j (by simpa [stD] using h1) h2)
    by_cases hlt : k < D.length
    · obtain ⟨g, cap, e, -, ⟨d0, -⟩, -⟩ := dr_at (own_keeps HO.out fun q _ hl => HG.out.block q hl) hlt
      simp only [Value.slice.injEq] at e
      obtain ⟨rfl, -, rfl⟩ := e
      have hs2 := hspec.2 (by simpa [stD] using hlt)
      have hlst : ∀ j (h : j < D.length), j < k + 1 → D[k].1.1 < who → D[j].1.1 < who := fun j h h1 h2 => by
        rcases Nat.lt_or_ge j k with h3 | h3
        · exact HL.out j h h3
        · have : j = k := by omega
          subst this; exact h2
      simp only [stD, List.getElem_map] at hs2
      have HS2 := keep hs2
      have HLs := keep hlst
      clear hspec hs2 hlst
      generalize hx : D[k].1.1 = x at *
      by_cases hge : who ≤ x
      · have e1 : decide (who ≤ x) = true := decide_eq_true hge
        have hfin := HS2.out hge
        have HFin := keep hfin
        clear hfin hge hx
        generalize hq : (x == who) = q at *
        go_upto_region 5 with fail
        go_quiet (fail)
        go_wp2_with fail
        go_ret2
        unfold AtPost
        rw [show List.map (fun x => x.1) D = stD D from rfl] at HFin
        rw [HFin.out]
        exact ⟨rfl, grow_drewN HG.out _⟩
      · have e1 : decide (who ≤ x) = false := decide_eq_false hge
        go_wp2_with fail
        go_roundw
        case rel => exact show AtRel D who w_ _ _ from ⟨k + 1, by omega, by go_num, keep (fun j h h1 => HLs.out j h h1 (by omega)), HG⟩
        case measure => simp [intOf]; omega
    · have e : k = D.length := by omega
      subst e
      have hfin := hspec.1 (by simp [stD])
      have HFin := keep hfin
      clear hspec hfin
      go_wp2_with fail
      go_ret2
      unfold AtPost
      rw [HFin.out]
      exact ⟨rfl, HG.out⟩

end Go.Proofs.Ytgijmlienolhpaa
