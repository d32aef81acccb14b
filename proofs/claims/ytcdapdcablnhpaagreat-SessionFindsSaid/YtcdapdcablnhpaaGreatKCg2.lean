import Derived.Test.YtcdapdcablnhpaaGreatKLexn
import Derived.Test.YtcdapdcablnhpaaGreatKHl1
import Derived.Test.YtcdapdcablnhpaaGreatKGr2
import Derived.Deep.CutRange
import Derived.Test.YtcdapdcablnhpaaGreatKPt1
import Derived.Maps.AppendAt
import Derived.Test.YtcdapdcablnhpaaGreatKRs1
import Derived.Laws.OwnMore
namespace Go.Proofs.YtcdapdcablnhpaaGreat
open Go.RowKit
attribute [local go_sem] givesV lookV knAt hgs
attribute [local go_sem] guard_entry
theorem sameE_self (e : En) : sameE e e = true := by simp [sameE]
theorem ens_at {w : World} {v : Value} {l : List En} (h : EnsS w v l) {m : Nat} (hm : m < l.length) : ∃ c off cap, v = .slice (some ⟨c, off, none⟩) l.length cap /\ ∀ u, Grow w u -> (u.cell? ⟨c, off + m * 3, none⟩ = some (.string (str l[m].1)) /\ u.cell? ⟨c, off + m * 3 + 1, none⟩ = some (.int .i64 l[m].2.1) /\ u.cell? ⟨c, off + m * 3 + 2, none⟩ = some (.int .i64 l[m].2.2)) := by
 obtain ⟨c, off, cap, e, hc⟩ := ens_cells h.weak (by omega);refine ⟨c, off, cap, e, fun u hu => ?_⟩;have := hc m hm;exact ⟨(Below.cell hu (World.block_lt_of_cell? w _ this.1)).trans this.1, (Below.cell hu (World.block_lt_of_cell? w _ this.2.1)).trans this.2.1, (Below.cell hu (World.block_lt_of_cell? w _ this.2.2)).trans this.2.2⟩
attribute [local simp] neq_entry sameE_self
end Go.Proofs.YtcdapdcablnhpaaGreat
namespace Go.Proofs.YtcdapdcablnhpaaGreat
open Go.RowKit
attribute [local go_sem] givesV lookV knAt hgs
theorem en_at {w : World} {v : Value} {l : List En} (h : Row w 103 v l.length (eCells l)) {m : Nat} (hm : m < l.length) : ∃ c off cap, v = .slice (some ⟨c, off, none⟩) l.length cap /\ ∀ u, Grow w u -> (u.cell? ⟨c, off + m * 3, none⟩ = some (.string (str l[m].1)) /\ u.cell? ⟨c, off + m * 3 + 1, none⟩ = some (.int .i64 l[m].2.1) /\ u.cell? ⟨c, off + m * 3 + 2, none⟩ = some (.int .i64 l[m].2.2)) := by
 obtain ⟨c, off, cap, e, hc⟩ := ens_cells h (by omega);refine ⟨c, off, cap, e, fun u hu => ?_⟩;have := hc m hm;exact ⟨(Below.cell hu (World.block_lt_of_cell? w _ this.1)).trans this.1, (Below.cell hu (World.block_lt_of_cell? w _ this.2.1)).trans this.2.1, (Below.cell hu (World.block_lt_of_cell? w _ this.2.2)).trans this.2.2⟩
theorem en_form {w : World} {v : Value} {l : List En} (h : Row w 103 v l.length (eCells l)) : ∃ a cap, v = .slice a l.length cap := by
 rcases h with ⟨h1, _, a, cap, h2⟩ | ⟨c, off, cap, h1, _⟩
 ·exact ⟨a, cap, by rw [h2, h1]⟩
 ·exact ⟨_, _, h1⟩
attribute [local simp] neq_entry sameE_self
attribute [local go_sem] guard_entry
end Go.Proofs.YtcdapdcablnhpaaGreat
namespace Go.Proofs.YtcdapdcablnhpaaGreat
open Go.RowKit
theorem upon_append {P : Program} {f : Tmp -> Value} {o : Oper} {K : Value -> World -> Prop} {w w' : World} {s x : Operand} {t : TypeId} {v xv v' : Value}
  (ho : o.op = .call { callee := .builtin .append, args := #[s, x], argTypes := #[t, t] }) (hs : evalF f s = v) (hx : evalF f x = xv)
  (hr : (Builtin.append_ #[t, t] o.type #[v, xv]).run P w = .ok v' w') (h : K v' w') : givesUpon P K ((execOp (evalF f) o).run P w) := by
 unfold execOp;simp only [ho, resolve, invoke, builtin, Sem.run_bind, Sem.run_pure, Result.andThen_ok, List.map_toArray, List.map_cons, List.map_nil, hs, hx, hr];exact h
theorem wpList_upon_append {P : Program} {ops : Array Oper} {rest : List Oper} {o : Oper} {a : Act} {Q : Exit -> Act -> World -> Prop} {w w' : World} {s x : Operand} {t : TypeId} {v xv v' : Value} (hgd : o.guard = none)
  (ho : o.op = .call { callee := .builtin .append, args := #[s, x], argTypes := #[t, t] }) (hs : a.eval s = v) (hx : a.eval x = xv)
  (hr : (Builtin.append_ #[t, t] o.type #[v, xv]).run P w = .ok v' w') (h : wpList P ops Q rest (a.put o.dst v') w') : wpList P ops Q (o :: rest) a w := by
 refine wpList_plain hgd fun K hK => ?_
 unfold Oper.wp execOp;simp only [ho, resolve, invoke, builtin, Sem.run_bind, Sem.run_pure, Result.andThen_ok, List.map_toArray, List.map_cons, List.map_nil, hs, hx, hr];exact hK _ _ h
theorem eC_one {v : Value} {l : List En} (h : v ∈ eCells l) : v.oneCell' = true := by
 unfold eCells at h;obtain ⟨e, _, he⟩ := List.mem_flatMap.1 h;unfold enC at he;simp at he;rcases he with rfl | rfl | rfl <;> rfl
theorem row_news {w : World} {v : Value} {l : List En} (h : Row w 103 v l.length (eCells l)) (hl : 0 < l.length) : ∃ ad c, v = .slice (some ad) l.length c /\ ∀ j u, (eCells l)[j]? = some u -> w.cell? (ad.add j) = some u := by
 rcases h with ⟨h1, _⟩ | ⟨c, off, cap, h1, h2⟩
 ·omega
 ·refine ⟨_, _, h1, fun j u hj => ?_⟩;obtain ⟨hj2, rfl⟩ := List.getElem?_eq_some_iff.1 hj;have := h2 j hj2;unfold Addr.add
  split
  ·rename_i h0
   have h9 : j = 0 := by simpa using h0
   subst h9;exact this
  ·exact this
theorem append_more (ty : TypeId) (B : Nat) (l0 l : List En) (v0 v : Value) (w : World) (h0 : w.ownsRow B 103 3 v0 l0.length (eCells l0)) (h : Row w 103 v l.length (eCells l)) (hl : 0 < l.length)
  (hb : ((l0.length + l.length : Nat) : Int) <= 4398046510976) (hB : B <= w.heap.size) :
  ∃ v' w', (Builtin.append_ #[109, 109] ty #[v0, v]).run Tryz.prog w = .ok v' w' /\ w'.ownsRow B 103 3 v' (l0.length + l.length) (eCells (l0 ++ l)) /\ From B w w' := by
 obtain ⟨iE, hiE, hzE0, hzE1, hzE2⟩ := info_parts infoEntryO;obtain ⟨ad, c, rfl, hn⟩ := row_news h hl;have hb' : l0.length + l.length <= 4398046510976 := by omega
 obtain ⟨v', w', hr, h1, h2, _⟩ := run_append_own_at (P := Tryz.prog) w B 109 ty 103 iE _ 3 32 Tryz.underlying109 hiE hzE0 hzE1 hzE2 rfl (by decide) v0 l0.length (eCells l0) h0 ad l.length c (eCells l) (by rw [eCells_length]; omega) hn (fun u hu => eC_one hu) (by unfold maxLen; omega) (by omega) hB;refine ⟨v', w', hr, by rw [eCells_append]; exact h1, h2.size, fun hB2 => ⟨h2.os, h2.tape, h2.output, h2.size, fun k hk => h2.block k (by omega) fun e => ?_⟩⟩;rcases h0.2 with ⟨rfl, _⟩ | ⟨g, cap, cur, rfl, hg, _⟩
 ·simp [Value.ownBlock] at e
 ·simp [Value.ownBlock] at e;omega
theorem infoString : (Tryz.prog.info? 9).map (fun i => (i.zero, i.size, i.bytes)) = some (some (.string ⟨#[]⟩), 1, 16) := by kernel_rfl
def OwnS (N : Nat) (w : World) (v : Value) (l : List (List UInt8)) : Prop := w.ownsRow N 9 1 v l.length (sCells l)
theorem OwnS.fits {N : Nat} {w w' : World} {v : Value} {l : List (List UInt8)} (h : OwnS N w v l) (g : Grow w w') : OwnS N w' v l := owns_fits h g
theorem OwnS.form {N : Nat} {w : World} {v : Value} {l : List (List UInt8)} (h : OwnS N w v l) : ∃ a c, v = .slice a l.length c := own_form h
theorem OwnS.items {N : Nat} {w : World} {v : Value} {l : List (List UInt8)} (h : OwnS N w v l) : ItemsC w v l := items_owned h
theorem OwnS.low {N b : Nat} {w : World} {v : Value} {l : List (List UInt8)} (h : OwnS b w v l) (hB : N <= b) : OwnS N w v l := owns_low h hB
theorem OwnS.nil (N : Nat) (w : World) : OwnS N w (.slice none 0 0) [] := World.ownsRow_nil _ _ _ _
theorem OwnS.ne {N b t : Nat} {w : World} {v : Value} {l : List (List UInt8)} {cs : List Value} (h : OwnS N w v l) (hb : Blk w b t cs) (ht : t ≠ 9) : v.ownBlock ≠ some b := by
 rcases h.2 with ⟨rfl, _⟩ | ⟨g, cap, cur, rfl, _, hg, _⟩
 ·simp [Value.ownBlock]
 ·intro e;simp [Value.ownBlock] at e;subst e;unfold Blk at hb;rw [hb] at hg;simp at hg;exact ht hg.2
theorem OwnS.but {N b t : Nat} {w w' : World} {v : Value} {l : List (List UInt8)} {cs : List Value} (h : OwnS N w v l) (k : But b w w') (hb : Blk w b t cs) (ht : t ≠ 9) : OwnS N w' v l := owns_but h k (h.ne hb ht)
theorem OwnS.below {N B : Nat} {w w' : World} {v : Value} {l : List (List UInt8)} (h : OwnS N w v l) (g : w.grownBy w' v.ownBlock) (hB : B <= N) (hB2 : B <= w.heap.size) : Below B w w' :=
 ⟨g.os, g.tape, g.output, g.size, fun k hk => g.block k (by omega) fun e => by
  have := (h.lt _ e.symm).1
  omega⟩
theorem srow_news {w : World} {v : Value} {l : List (List UInt8)} (h : Items w v l) (hl : 0 < l.length) : ∃ ad c, v = .slice (some ad) l.length c /\ ∀ j u, (sCells l)[j]? = some u -> w.cell? (ad.add j) = some u := by
 rcases h with ⟨h1, _⟩ | ⟨c, off, cap, h1, h2⟩
 ·omega
 ·refine ⟨_, _, h1, fun j u hj => ?_⟩;obtain ⟨hj2, rfl⟩ := List.getElem?_eq_some_iff.1 hj;have := h2 j hj2;unfold Addr.add
  split
  ·rename_i h0
   have h9 : j = 0 := by simpa using h0
   subst h9;exact this
  ·exact this
attribute [local go_sem] givesV lookV knAt hgs
end Go.Proofs.YtcdapdcablnhpaaGreat
