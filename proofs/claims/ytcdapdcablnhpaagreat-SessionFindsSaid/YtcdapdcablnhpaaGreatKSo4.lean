import Derived.Test.YtcdapdcablnhpaaGreatKFd2
import Derived.Test.YtcdapdcablnhpaaGreatKOpn4
import Derived.Test.YtcdapdcablnhpaaGreatKLexn
import Derived.Deep.MidRow
namespace Go.Proofs.YtcdapdcablnhpaaGreat
open Go.ChangeShapes Go.WideShapes Go.ChangeAt Go.RowKit
theorem cellsBoolO : Tryz.prog.cellsOf 4 = 1 := by kernel_rfl
theorem cellsIntsO : Tryz.prog.cellsOf 23 = 1 := by kernel_rfl
theorem bytesIntO : Tryz.prog.bytesOf 3 = 8 := by kernel_rfl
structure ShD where
 x : Sh
 bv : Value
 av : Value
 rv : Value
 iv : Value
 fv : Value
def ShD.cells (d : ShD) : List Value := shC d.x d.bv d.av d.rv d.iv d.fv
theorem ShD.length (d : ShD) : d.cells.length = 22 := rfl
instance : Inhabited ShD := ⟨⟨⟨0, zeroP, ⟨0, 0, [], 0, [], zeroP⟩, [], false, 0, 0⟩, .slice none 0 0, .slice none 0 0, .slice none 0 0, .slice none 0 0, .slice none 0 0⟩⟩
structure ShIn (w : World) (d : ShD) : Prop where
 pg : PgIn w d.bv d.x.body
 cap : Capd d.bv
 len : d.x.body.items.length <= 8796093021952
 vw : VwIn w d.x.view d.av d.rv d.iv
 fr : Ints w d.fv d.x.fresh
 frl : (d.x.fresh.length : Int) <= 17592186043904
theorem ShIn.fits {W w : World} {d : ShD} (h : ShIn W d) (k : Below W.heap.size W w) : ShIn w d := ⟨h.pg.fits k, h.cap, h.len, h.vw.fits k, Row.fits h.fr k, h.frl⟩
theorem ShIn.ok {W w : World} {d : ShD} {pb : Nat} (h : ShIn W d) (hb : Below W.heap.size W w) (hp : W.heap.size <= pb) : ShOk W.heap.size pb w d.x d.bv d.av d.rv d.iv d.fv :=
 ⟨fun _ k => h.pg.fits (Below.trans hb (k.below hp)), h.cap, Nat.le_trans h.len (by decide), fun _ k => h.vw.fits (Below.trans hb (k.below hp)), fun _ k => Row.fits h.fr (Below.trans hb (k.below hp)), by have := h.frl; omega⟩
section
variable {H : Type} {enc : TypeId × Value -> H} {w : World} {base : Nat} {spare : Nat -> Bool} {held : Bool} {r : Reach} {b0 : Nat}
theorem len2o {α : Type} {l : List α} (h : l.length = 2) : ∃ c0 c1, l = [c0, c1] := by
 match l, h with
 | [c0, c1], _ => exact ⟨c0, c1, rfl⟩
theorem len5o {α : Type} {l : List α} (h : l.length = 5) : ∃ c0 c1 c2 c3 c4, l = [c0, c1, c2, c3, c4] := by
 match l, h with
 | [c0, c1, c2, c3, c4], _ => exact ⟨c0, c1, c2, c3, c4, rfl⟩
set_option maxRecDepth 100000 in
theorem ints_shape {n : Nat} {v : Value} {y : DataW H × List MemPlace} (h : DataW.trod enc Tryz.prog w base spare held n 23 [v] = some y) (hl : Light Tryz.prog 23 y.1) :
  ∃ l : List Int, Ints w v l /\ (l.length : Int) <= 17592186043904 := by
 obtain ⟨l, h1, h3, h2⟩ := rows_of_light (fun x : Int => [Value.int .i64 x]) (fun _ => True) 1 3 (by decide) Tryz.underlying23 cellsInt (fun _ => rfl) (fun m cs y hy _ => by
  obtain ⟨x, h1, _⟩ := DataW.trod_int Tryz.underlying3 hy
  exact ⟨x, h1, trivial⟩) h hl
 have hlen := light_len hl Tryz.underlying23 h2;rw [bytesIntO] at hlen;have e9 : reachBytes = 140737488351232 := by decide
 refine ⟨l, ?_, by omega⟩;have e : l.flatMap (fun x : Int => [Value.int .i64 x]) = iCells l := by
  clear h1 h3 h2 hlen
  induction l with
  | nil => rfl
  | cons a l ih => rw [List.flatMap_cons, ih]; rfl
 rw [e] at h1;exact h1
theorem bool_shape {n : Nat} {v : Value} {y : DataW H × List MemPlace} (h : DataW.trod enc Tryz.prog w base spare held n 4 [v] = some y) : ∃ x : Bool, v = .bool x := by
 obtain ⟨x, h1, _⟩ := DataW.trod_bool Tryz.underlying4 h;simp only [List.cons.injEq, and_true] at h1;exact ⟨x, h1⟩
end
theorem Tryz.own : ownKnob Tryz.prog.godebug = none := by kernel_rfl
theorem Tryz.laidOut : laidOutB Tryz.prog = true := by kernel_rfl
end Go.Proofs.YtcdapdcablnhpaaGreat
namespace Go.Proofs.YtcdapdcablnhpaaGreat
open Go.RowKit
attribute [local go_sem] hgs
end Go.Proofs.YtcdapdcablnhpaaGreat
namespace Go.Proofs.YtcdapdcablnhpaaGreat
open Go.RowKit
attribute [local go_sem] givesV lookV knAt hgs
attribute [local go_sem] want_f0 want_f3 rep_f1 rep_f2 guard_want
theorem neq_want4 (w : World) : (binOp .neq 61 (.agg #[.int .i64 4, .string ⟨#[]⟩, .int .i64 0, .int .i64 0]) (.agg #[.int .i64 4, .string ⟨#[]⟩, .int .i64 0, .int .i64 0])).run Tryz.prog w = .ok (.bool false) w := by
 have := neq_want 4 0 0 4 0 0 [] [] w;rw [show sameWt (4, [], 0, 0) (4, [], 0, 0) = true by kernel_rfl] at this;exact this
attribute [local simp] neq_want4
end Go.Proofs.YtcdapdcablnhpaaGreat
