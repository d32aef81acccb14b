import Derived.Test.YtmhepfehcakmjaaGreatKRelk
import Derived.Test.YtmhepfehcakmjaaGreatKLexm
import Derived.Test.YtmhepfehcakmjaaGreatKOwn2
namespace Go.Proofs.YtmhepfehcakmjaaGreat
open Go.RowKit
def GoodC (Q : Pg) (cs : List Value) (w : World) : Prop := ∃ iv, cs = pgCells Q iv ∧ ItemsC w iv Q.items
theorem goodC_stays (Q : Pg) : Lasts 24 (GoodC Q) := by
 rintro cs u v h ⟨iv, h1, h2⟩
 exact ⟨iv, h1, RowS.move h2.1 (fun c blk f hb => h c blk _ f (by decide) hb), h2.2⟩
theorem Fill.itemsC {N : Nat} {G : List Value → World → Prop} {u v : World} (h : Fill N 24 G u v) {iv : Value} {l : List (List UInt8)} (hi : ItemsC u iv l) : ItemsC v iv l := ⟨h.row hi.1 (by decide), hi.2⟩
theorem goodC_lasts {N b : Nat} {Q : Pg} {u v : World} {iv : Value} (h : Fill N 24 (GoodC Q) u v) (hb : Blk u b 24 (pgCells Q iv)) (hi : ItemsC u iv Q.items) :
  ∃ iv', Blk v b 24 (pgCells Q iv') ∧ ItemsC v iv' Q.items := by
 rcases h.page b _ hb with h1 | ⟨cs', _, ⟨iv', rfl, h3⟩, h4⟩
 ·exact ⟨iv, h1, h.itemsC hi⟩
 ·exact ⟨iv', h4, h3⟩
theorem fill_six {N b : Nat} {G : List Value → World → Prop} {u v : World} (h : Fill N 24 G u v) (hb : ∃ a0 a1 a2 a3 a4 a5, Blk u b 24 [a0, a1, a2, a3, a4, a5]) : ∃ a0 a1 a2 a3 a4 a5, Blk v b 24 [a0, a1, a2, a3, a4, a5] := by
 obtain ⟨a0, a1, a2, a3, a4, a5, hb⟩ := hb
 obtain ⟨cs', hl, h1⟩ := h.some hb
 match cs', hl, h1 with
 | [b0, b1, b2, b3, b4, b5], _, h1 => exact ⟨_, _, _, _, _, _, h1⟩
section
variable {P : Program} {ops : Array Oper} {a0 : Act} {w0 : World} {lk : Nat → Nat} {Ext : World → World → Prop} {F : List (Value → World → Prop) → Prop} {i : Nat} {o : Oper} {rest : List Oper} {Ts : List (Value → World → Prop)}
theorem lexkf_eq {n : Nat} (hn : a0.tmps.size = n) (ps : List (Nat × Bool)) (l : List (Tmp × Nat)) (g : Option (Tmp × Bool)) (hb : boundsF n l g = true) (hg : guardAt ops o = some g)
  (h1 : (ps.all fun x => (preds o).contains x.1 && (dstAt ops (lk x.1)).isSome == x.2 && decide (x.1 < i)) = true) (h2 : places ops i = l) (h3 : o.dst.isSome = true) (h4 : lk i = i) {c : Value}
  (hstep : ∀ (xs : Nat → Value) (w : World), Ext w0 w → holdsK lk Ts xs w ps → ∀ K : Value → World → Prop, (∀ w', Ext w w' → K c w') → givesF P o g (fun s => lookL xs s (slot a0 s) l) w K)
  (hrest : lexAllK P ops a0 w0 lk Ext F (i + 1) rest (Ts ++ [fun v _ => v = c])) : lexAllK P ops a0 w0 lk Ext F i (o :: rest) Ts :=
 lexk_eq ps l h1 h2 h3 h4 (fun xs w hw hp K hK => gives_look hn hb hg (hstep xs w hw hp K hK)) hrest
theorem lexkf_says {n : Nat} (hn : a0.tmps.size = n) (T : Value → World → Prop) (hT : ∀ v w w', Ext w w' → T v w → T v w') (ps : List (Nat × Bool)) (l : List (Tmp × Nat)) (g : Option (Tmp × Bool)) (hb : boundsF n l g = true) (hg : guardAt ops o = some g)
  (h1 : (ps.all fun x => (preds o).contains x.1 && (dstAt ops (lk x.1)).isSome == x.2 && decide (x.1 < i)) = true) (h2 : places ops i = l) (h3 : o.dst.isSome = true) (h4 : lk i = i)
  (hstep : ∀ (xs : Nat → Value) (w : World), Ext w0 w → holdsK lk Ts xs w ps → ∀ K : Value → World → Prop, (∀ v w', T v w' → Ext w w' → K v w') → givesF P o g (fun s => lookL xs s (slot a0 s) l) w K)
  (hrest : lexAllK P ops a0 w0 lk Ext F (i + 1) rest (Ts ++ [T])) : lexAllK P ops a0 w0 lk Ext F i (o :: rest) Ts :=
 lexk_says T hT ps l h1 h2 h3 h4 (fun xs w hw hp K hK => gives_look hn hb hg (hstep xs w hw hp K hK)) hrest
theorem lexkf_link {n : Nat} (hn : a0.tmps.size = n) (T : Value → World → Prop) (hT : ∀ v w w', Ext w w' → T v w → T v w') (ps : List (Nat × Bool)) (l : List (Tmp × Nat)) (g : Option (Tmp × Bool)) (hb : boundsF n l g = true) (hg : guardAt ops o = some g)
  (h1 : (ps.all fun x => (preds o).contains x.1 && (dstAt ops (lk x.1)).isSome == x.2 && decide (x.1 < i)) = true) (h2 : places ops i = l) (h3 : (dstAt ops (lk i)).isSome = true) (h4 : lk i ≠ i)
  (hstep : ∀ (xs : Nat → Value) (w : World), Ext w0 w → holdsK lk Ts xs w ps → ∀ K : Value → World → Prop, (∀ v w', T (xs (lk i)) w' → Ext w w' → K v w') → givesF P o g (fun s => lookL xs s (slot a0 s) l) w K)
  (hrest : lexAllK P ops a0 w0 lk Ext F (i + 1) rest (Ts ++ [T])) : lexAllK P ops a0 w0 lk Ext F i (o :: rest) Ts :=
 lexk_link T hT ps l h1 h2 h3 h4 (fun xs w hw hp K hK => gives_look hn hb hg (hstep xs w hw hp K hK)) hrest
end
theorem wp_region_link_named {P : Program} {ops : Array Oper} {a0 : Act} {w0 : World} {id : Nat} {Q : Exit → Act → World → Prop} (hm : P.follows .mixedOrders = true) (N : Nat) (lk : Nat → Nat) (Ext : World → World → Prop)
  (h0 : Ext w0.drew w0.drew) (htr : ∀ u v w, Ext u v → Ext v w → Ext u w)
  (hlk : (ops.toList.zipIdx.all fun x => lk x.2 == x.2 || (preds x.1).contains (lk x.2)) = true) (hsh : shaped ops a0.tmps.size N = true)
  (l : List (Tmp × Nat)) (hl : placesTo ops N = l) (al : List (Nat × Bool)) (hal : (al.all fun x => decide (x.1 < N) && (dstAt ops (lk x.1)).isSome == x.2) = true) {first last : List Oper} (hf : ops.toList.take N = first) (ht : ops.toList.drop N = last)
  (h : ∀ a, a = a0 → lexAllK P ops a w0.drew lk Ext (fun Ts => ∀ (xs : Nat → Value) (w : World), Ext w0.drew w → holdsK lk Ts xs w al → wpList P ops Q last (putAll xs l a) w) 0 first []) :
  (Code.region id ops true).wp P Q a0 w0 :=
 wp_region_link hm N lk Ext h0 htr hsh hlk l hl al hal hf ht (h a0 rfl)
end Go.Proofs.YtmhepfehcakmjaaGreat
