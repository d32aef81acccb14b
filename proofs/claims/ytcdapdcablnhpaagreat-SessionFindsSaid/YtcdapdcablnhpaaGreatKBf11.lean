import Derived.Test.YtcdapdcablnhpaaGreatKBe9
import Derived.Test.YtcdapdcablnhpaaGreatKCg10
import Derived.Test.YtcdapdcablnhpaaGreatKHl1
import Derived.Deep.CutRange
import Derived.Test.YtcdapdcablnhpaaGreatKLexn
import Derived.Test.YtcdapdcablnhpaaGreatKLexr
import Derived.Test.YtcdapdcablnhpaaGreatKLexk
namespace Go.Proofs.YtcdapdcablnhpaaGreat
open Go.RowKit
def lsn0 (P : Pg) : Pg := { P with lsn := 0 }
abbrev Rc := (Int × Int × List UInt8 × List (Int × Pg)) × Int
def rc0 (c : Int) : Rc := ((0, 0, [], []), c)
def growC (n k f0 r : Int) (sp : Bool) (A B : Pg) (out : Bool) (HA HB : Pg × En × Int) (RT : Pg × Int) : Rc :=
 if sp = false then rc0 140
 else if (if out then HB else HA).2.2 ≠ 0 then rc0 121
 else if k = 1 then ((5, 0, [], [(n, if out then A else HA.1), (r, if out then HB.1 else B)]), 0)
 else if RT.2 ≠ 0 then rc0 RT.2
 else ((5, 0, [], [(f0, if out then A else HA.1), (r, if out then HB.1 else B), (n, RT.1)]), 0)
def growN (P : Pg) (n : Int) (item : List UInt8) (f0 r k : Int) : Rc :=
 growC n k f0 r (splitOk (lsn0 P) r) (leftG (lsn0 P) r) (rightG (lsn0 P)) (beyondN (leftG (lsn0 P) r) (layN (lsn0 P) item).2.1).1 (layN (leftG (lsn0 P) r) item) (layN (rightG (lsn0 P)) item) (rootN (P.level + 1) f0 (borderG (lsn0 P)) r)
def enterN (P : Pg) (n : Int) (item : List UInt8) (fr : List Int) : Rc :=
 if (needN P n item).2 ≠ 0 then rc0 (needN P n item).2
 else if apartN fr (needN P n item).1 = false then rc0 1
 else if (needN P n item).1 = 0 then ((3, n, item, []), 0)
 else growN P n item (fr.getD 0 0) (fr.getD ((needN P n item).1.toNat - 1) 0) (needN P n item).1
attribute [local go_sem] givesV lookV knAt hgs
def ImgsC (w : World) (v : Value) (T : List Im) : Prop := RowS w 132 v T.length (imCells T) /\ ∀ x ∈ T, ItemsC w x.2.2 x.2.1.items /\ imFine x.2.1
theorem ImgsC.fits {w w' : World} {v : Value} {T : List Im} (h : ImgsC w v T) (g : Grow w w') : ImgsC w' v T := ⟨h.1.fits g, fun x hx => ⟨(h.2 x hx).1.fits g, (h.2 x hx).2⟩⟩
theorem ImgsC.weak {w : World} {v : Value} {T : List Im} (h : ImgsC w v T) : ImgsW w v T := ⟨h.1.weak, fun x hx => ⟨(h.2 x hx).1.1.weak, (h.2 x hx).2⟩⟩
theorem ImgsC.nil (w : World) : ImgsC w (.slice none 0 0) [] := ⟨RowS.nil _ _ _ _, by simp⟩
theorem imgsC_but {w w' : World} {b t : Nat} {v : Value} {T : List Im} {cs : List Value} (h : ImgsC w v T) (k : But b w w') (hb : Blk w b t cs) (ht : t ≠ 132) (ht2 : t ≠ 9) : ImgsC w' v T := by
 refine ⟨RowS.but h.1 k (fun blk f e => ?_), fun x hx => ⟨itemsC_but (h.2 x hx).1 k hb ht2, (h.2 x hx).2⟩⟩;unfold Blk at hb;rw [hb] at e;simp at e;exact ht e.2.1
end Go.Proofs.YtcdapdcablnhpaaGreat
