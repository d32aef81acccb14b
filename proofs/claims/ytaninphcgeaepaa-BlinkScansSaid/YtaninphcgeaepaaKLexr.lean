import Derived.Test.YtaninphcgeaepaaKBl2
import Derived.Test.YtaninphcgeaepaaKCg9
import Derived.Test.YtaninphcgeaepaaKCg6
import Derived.Test.YtaninphcgeaepaaKRe1
import Derived.Test.YtaninphcgeaepaaKSl1
import Derived.Test.YtaninphcgeaepaaKRu2
import Derived.Deep.CutRange
import Derived.Test.YtaninphcgeaepaaKLexk
namespace Go.Proofs.Ytaninphcgeaepaa
open Go.RowKit
attribute [local go_sem] givesF_none givesF_some evalF_tmp evalF_const evalF_global evalF_func lookL isB_bool isB_undef givesUpon_value givesUpon_skip givesUpon_enter
attribute [local simp] eql_entry
attribute [local go_sem] guard_entry
theorem per_new (P : Pg) (iv : Value) (k : List UInt8) (p s : Int) (w_ w0 : World) (h : w0 = ((w_.alloc (.cells (pgCells P iv).toArray 27)).alloc (.cells #[.string (str k), .int .i64 p, .int .i64 s] 36)).alloc (.cells #[.int .i64 0, .int .i64 0, .int .i64 0, .int .u8 0, .int .i64 0, .int .i64 0, .int .i64 0, .int .i64 0, .int .i64 0, .int .i64 0, .string ⟨#[]⟩, .slice none 0 0, .slice none 0 0, .slice none 0 0, .slice none 0 0, .slice none 0 0] 50)) :
  Grow w_ w0 ∧ Blk w0 w_.heap.size 27 (pgCells P iv) ∧ Blk w0 (w_.heap.size + 1) 36 [.string (str k), .int .i64 p, .int .i64 s] ∧ Blk w0 (w_.heap.size + 2) 50 [.int .i64 0, .int .i64 0, .int .i64 0, .int .u8 0, .int .i64 0, .int .i64 0, .int .i64 0, .int .i64 0, .int .i64 0, .int .i64 0, .string ⟨#[]⟩, .slice none 0 0, .slice none 0 0, .slice none 0 0, .slice none 0 0, .slice none 0 0] := by
 refine ⟨?_, ?_, ?_, ?_⟩
 ·subst h; exact (((Grow.refl w_).alloc _).alloc _).alloc _
 ·have := ((Blk.new w_ 27 (pgCells P iv)).alloc (.cells #[.string (str k), .int .i64 p, .int .i64 s] 36)).alloc (.cells #[.int .i64 0, .int .i64 0, .int .i64 0, .int .u8 0, .int .i64 0, .int .i64 0, .int .i64 0, .int .i64 0, .int .i64 0, .int .i64 0, .string ⟨#[]⟩, .slice none 0 0, .slice none 0 0, .slice none 0 0, .slice none 0 0, .slice none 0 0] 50)
  subst h; exact this
 ·have := (Blk.new (w_.alloc (.cells (pgCells P iv).toArray 27)) 36 [.string (str k), .int .i64 p, .int .i64 s]).alloc (.cells #[.int .i64 0, .int .i64 0, .int .i64 0, .int .u8 0, .int .i64 0, .int .i64 0, .int .i64 0, .int .i64 0, .int .i64 0, .int .i64 0, .string ⟨#[]⟩, .slice none 0 0, .slice none 0 0, .slice none 0 0, .slice none 0 0, .slice none 0 0] 50)
  have e : (w_.alloc (.cells (pgCells P iv).toArray 27)).heap.size = w_.heap.size + 1 := by simp
  rw [e] at this
  subst h; exact this
 ·have := Blk.new ((w_.alloc (.cells (pgCells P iv).toArray 27)).alloc (.cells #[.string (str k), .int .i64 p, .int .i64 s] 36)) 50 [.int .i64 0, .int .i64 0, .int .i64 0, .int .u8 0, .int .i64 0, .int .i64 0, .int .i64 0, .int .i64 0, .int .i64 0, .int .i64 0, .string ⟨#[]⟩, .slice none 0 0, .slice none 0 0, .slice none 0 0, .slice none 0 0, .slice none 0 0]
  have e : ((w_.alloc (.cells (pgCells P iv).toArray 27)).alloc (.cells #[.string (str k), .int .i64 p, .int .i64 s] 36)).heap.size = w_.heap.size + 2 := by simp
  rw [e] at this
  subst h; exact this
theorem recset {w : World} {b : Nat} {a0 a1 a2 a3 a4 a5 a6 a7 a8 a9 a10 a11 a12 a13 a14 a15 : Value} (h : Blk w b 50 [a0, a1, a2, a3, a4, a5, a6, a7, a8, a9, a10, a11, a12, a13, a14, a15]) (b0 b1 b2 b3 b4 b5 b6 b7 b8 b9 b10 b11 b12 b13 b14 b15 : Value) :
  Blk ((((((((((((((((w.setCell ⟨b, 0, none⟩ b0).setCell ⟨b, 1, none⟩ b1).setCell ⟨b, 2, none⟩ b2).setCell ⟨b, 3, none⟩ b3).setCell ⟨b, 4, none⟩ b4).setCell ⟨b, 5, none⟩ b5).setCell ⟨b, 6, none⟩ b6).setCell ⟨b, 7, none⟩ b7).setCell ⟨b, 8, none⟩ b8).setCell ⟨b, 9, none⟩ b9).setCell ⟨b, 10, none⟩ b10).setCell ⟨b, 11, none⟩ b11).setCell ⟨b, 12, none⟩ b12).setCell ⟨b, 13, none⟩ b13).setCell ⟨b, 14, none⟩ b14).setCell ⟨b, 15, none⟩ b15) b 50 [b0, b1, b2, b3, b4, b5, b6, b7, b8, b9, b10, b11, b12, b13, b14, b15] := (((((((((((((((h.set 0 b0).set 1 b1).set 2 b2).set 3 b3).set 4 b4).set 5 b5).set 6 b6).set 7 b7).set 8 b8).set 9 b9).set 10 b10).set 11 b11).set 12 b12).set 13 b13).set 14 b14).set 15 b15
theorem recbut (w : World) (b : Nat) (b0 b1 b2 b3 b4 b5 b6 b7 b8 b9 b10 b11 b12 b13 b14 b15 : Value) : But b w ((((((((((((((((w.setCell ⟨b, 0, none⟩ b0).setCell ⟨b, 1, none⟩ b1).setCell ⟨b, 2, none⟩ b2).setCell ⟨b, 3, none⟩ b3).setCell ⟨b, 4, none⟩ b4).setCell ⟨b, 5, none⟩ b5).setCell ⟨b, 6, none⟩ b6).setCell ⟨b, 7, none⟩ b7).setCell ⟨b, 8, none⟩ b8).setCell ⟨b, 9, none⟩ b9).setCell ⟨b, 10, none⟩ b10).setCell ⟨b, 11, none⟩ b11).setCell ⟨b, 12, none⟩ b12).setCell ⟨b, 13, none⟩ b13).setCell ⟨b, 14, none⟩ b14).setCell ⟨b, 15, none⟩ b15) := ((((((((((((((((But.refl b w).setCell 0 b0).setCell 1 b1).setCell 2 b2).setCell 3 b3).setCell 4 b4).setCell 5 b5).setCell 6 b6).setCell 7 b7).setCell 8 b8).setCell 9 b9).setCell 10 b10).setCell 11 b11).setCell 12 b12).setCell 13 b13).setCell 14 b14).setCell 15 b15
def leaveN (P : Pg) (e : En) : Option (List UInt8) × Int := if entriesOk P then (if e ∈ ensN P then (some (enBytes e []), 0) else (none, 150)) else (none, 140)
def leaveV (n : Int) (x : Option (List UInt8)) : Value := match x with
 | some d => recV 4 n (str d)
 | none => recV 0 0 ⟨#[]⟩
def LeavePost (P : Pg) (n : Int) (e : En) (w : World) (x : Ending) (w' : World) : Prop := x = .returned (.tuple #[leaveV n (leaveN P e).1, .int .i64 (leaveN P e).2]) ∧ Below w.heap.size w w'
theorem mem_ok {P : Pg} {e : En} (h : entriesOk P = true) (he : e ∈ ensN P) : enOk e = true := by
 obtain ⟨j, hj, rfl⟩ := List.mem_iff_getElem.1 he
 have hj2 : j < P.items.length := by rw [← ensN_length P]; exact hj
 have hlv : P.level = 0 := by
  unfold entriesOk at h
  simp only [Bool.and_eq_true, decide_eq_true_eq] at h
  exact h.2
 rw [ens_item P hj2]
 exact (leaf_item (ent_open h) hlv hj2).1
theorem leave_facts (P : Pg) (e : En) : (entC P = 140 ∧ leaveN P e = (none, 140) ∧ (openOk P = false ∨ P.level ≠ 0)) ∨ (entC P = 0 ∧ openOk P = true ∧ P.level = 0 ∧ leaveN P e = (if e ∈ entL P then (some (enBytes e []), 0) else (none, 150)) ∧ (e ∈ entL P → enOk e = true) ∧ (entL P).length ≤ 255) := by
 have hl := entL_len P
 unfold entC leaveN
 cases h : entriesOk P with
 | false =>
  refine .inl ⟨rfl, rfl, ?_⟩
  unfold entriesOk at h
  simp only [Bool.and_eq_false_iff, decide_eq_false_iff_not] at h
  exact h
 | true =>
  have e9 : entL P = ensN P := by unfold entL; rw [h]; rfl
  have h2 := h
  unfold entriesOk at h2
  simp only [Bool.and_eq_true, decide_eq_true_eq] at h2
  rw [e9] at hl ⊢
  exact .inr ⟨rfl, h2.1, h2.2, rfl, fun h9 => mem_ok h h9, hl⟩
set_option maxRecDepth 100000 in
set_option maxHeartbeats 4000000 in
theorem leave_any (P : Pg) (iv : Value) (n : Int) (e : En) (w_ : World) (hin : PgIn w_ iv P) :
  Calls Try.prog 13 #[pgV P iv, .int .i64 n, enV e] w_ (LeavePost P n e w_) := by
 have hen := fun (u : World) (hu : Grow w_ u) => (entries_node P iv u (hin.fits hu)).mono fun x w' h => ent_uni h
 have hco := fun (u : World) (v : Value) (l : List En) (h : EnsS u v l) (hl : l.length ≤ 255) => contains_e e l v u h (by omega)
 have hec := fun (u : World) (h : enOk e = true) => encode_any e u
 have hee : enOk e = true → encN e = (enBytes e [], 0) := fun h => by unfold encN; rw [h]; rfl
 have hfa := leave_facts P e
 have hpo : ∀ (x : Ending) (w' : World), LeavePost P n e w_ x w' ↔ (x = .returned (.tuple #[leaveV n (leaveN P e).1, .int .i64 (leaveN P e).2]) ∧ Below w_.heap.size w_ w') := fun _ _ => Iff.rfl
 generalize entL P = L at *
 generalize entC P = C at *
 generalize leaveN P e = Y at *
 have hec2 := fun (u : World) (h : enOk e = true) => by have h2 := hec u h; rw [hee h] at h2; exact h2
 clear hec hee
 generalize enBytes e [] = BY at *
 obtain ⟨k, p, s⟩ := e
 unfold pgV at hen
 unfold enV at hco hec2
 dsimp only at hco hec2
 obtain ⟨y1, y2⟩ := Y
 dsimp only at hpo
 obtain ⟨w0, hw0⟩ : ∃ w0, w0 = (((w_.alloc (.cells (pgCells P iv).toArray 27)).alloc (.cells #[.string (str k), .int .i64 p, .int .i64 s] 36)).alloc (.cells #[.int .i64 0, .int .i64 0, .int .i64 0, .int .u8 0, .int .i64 0, .int .i64 0, .int .i64 0, .int .i64 0, .int .i64 0, .int .i64 0, .string ⟨#[]⟩, .slice none 0 0, .slice none 0 0, .slice none 0 0, .slice none 0 0, .slice none 0 0] 50)) := ⟨_, rfl⟩
 obtain ⟨hg0, hP0, hE0, hR0⟩ := per_new P _ k p s w_ w0 hw0
 have HEn := keep hen
 have HCo := keep hco
 have HEc := keep hec2
 have HPo := keep hpo
 have HP0 := keep hP0
 have HE0 := keep hE0
 have HR0 := keep hR0
 have HG0 := keep hg0
 have hz0 := hR0.lt
 clear hen hco hec2 hpo hin hE0 hR0 hg0
 unfold pgCells at hw0 hP0
 obtain ⟨p0, p1, p2, p3, p4, p5, _⟩ := pgres hP0
 clear hP0
 unfold pgV enV
 go_enter Try.func13, Try.ntmps13
 go_upto_region 1 with fail
 rw [← hw0]
 clear hw0
 go_wp2_with fail
 refine (HEn.out w0 HG0.out).mono ?_
 rintro x w1 ⟨a, c, rfl, hes, hb1⟩
 have HG1 := keep hb1
 have HEs := keep hes
 clear p0 p1 p2 p3 p4 p5 hb1 hes HEn
 rcases hfa with ⟨rfl, hy, _⟩ | ⟨rfl, _, _, hy, hok, hl⟩
 ·have HY := keep hy
  clear hy
  have HR := keep (HR0.out.fits HG1.out)
  have Hg := keep (Grow.trans HG0.out HG1.out)
  go_wp2_with ((refine wpList_store_rec rfl _ _ rfl (w_.heap.size + 2) _ rfl rfl HR.out rfl rfl rfl ?_); intro wz hset hbz; have Hset := keep hset; have Hbut := keep hbz; clear hset hbz)
  refine bodyPost_ret (v := .tuple #[recV 0 0 ⟨#[]⟩, .int .i64 140]) ?_ rfl ?_
  ·obtain ⟨⟨s0_, s1_, s2_, s3_, s4_, s5_, s6_, s7_, s8_, s9_, s10_, s11_, s12_, s13_, s14_, s15_⟩, _⟩ := recres Hset.out
   simp [results, Try.results13, go_sem, s0_, s1_, s2_, s3_, s4_, s5_, s6_, s7_, s8_, s9_, s10_, s11_, s12_, s13_, s14_, s15_, recV]
   try rfl
  ·refine (HPo.out _ _).2 ⟨?_, But.below Hg.out Hbut.out (by omega) Hg.out.size⟩
   have hy := HY.out
   simp only [Prod.mk.injEq] at hy
   rw [hy.1, hy.2]
   rfl
 ·have hE1 := HE0.out.fits HG1.out
  obtain ⟨c0, c1, c2, _⟩ := enres hE1
  have HOk := keep hok
  have HYy := keep hy
  clear hok hE1 hy
  go_wp2_with fail
  refine (HCo.out w1 _ L HEs.out hl).mono ?_
  rintro x w2 ⟨rfl, hb2⟩
  have HG2 := keep (Grow.trans HG1.out hb2)
  clear c0 c1 c2 hb2
  by_cases hm : (k, p, s) ∈ L
  ·have hy := HYy.out
   rw [if_pos hm] at hy
   have HY := keep hy
   have hE2 := HE0.out.fits HG2.out
   obtain ⟨c0, c1, c2, _⟩ := enres hE2
   have hec := HEc.out w2 (HOk.out hm)
   have HEc2 := keep hec
   rw [decide_eq_true hm]
   clear hy hm hE2 HYy hec HEc HOk
   go_wp2_with fail
   refine HEc2.out.mono ?_
   rintro x w3 ⟨rfl, hb3⟩
   have HG3 := keep (Grow.trans HG2.out hb3)
   clear c0 c1 c2 hb3
   have HR := keep (HR0.out.fits HG3.out)
   have Hg := keep (Grow.trans HG0.out HG3.out)
   go_wp2_with ((refine wpList_store_rec rfl _ _ rfl (w_.heap.size + 2) _ rfl rfl HR.out rfl rfl rfl ?_); intro wz hset hbz; have Hset := keep hset; have Hbut := keep hbz; clear hset hbz)
   refine bodyPost_ret (v := .tuple #[recV 4 n (str BY), .int .i64 0]) ?_ rfl ?_
   ·obtain ⟨⟨s0_, s1_, s2_, s3_, s4_, s5_, s6_, s7_, s8_, s9_, s10_, s11_, s12_, s13_, s14_, s15_⟩, _⟩ := recres Hset.out
    simp [results, Try.results13, go_sem, s0_, s1_, s2_, s3_, s4_, s5_, s6_, s7_, s8_, s9_, s10_, s11_, s12_, s13_, s14_, s15_, recV]
    try rfl
   ·refine (HPo.out _ _).2 ⟨?_, But.below Hg.out Hbut.out (by omega) Hg.out.size⟩
    have hy := HY.out
    simp only [Prod.mk.injEq] at hy
    rw [hy.1, hy.2]
    rfl
  ·have hy := HYy.out
   rw [if_neg hm] at hy
   have HY := keep hy
   rw [decide_eq_false hm]
   clear hy hm HYy
   have HR := keep (HR0.out.fits HG2.out)
   have Hg := keep (Grow.trans HG0.out HG2.out)
   go_wp2_with ((refine wpList_store_rec rfl _ _ rfl (w_.heap.size + 2) _ rfl rfl HR.out rfl rfl rfl ?_); intro wz hset hbz; have Hset := keep hset; have Hbut := keep hbz; clear hset hbz)
   refine bodyPost_ret (v := .tuple #[recV 0 0 ⟨#[]⟩, .int .i64 150]) ?_ rfl ?_
   ·obtain ⟨⟨s0_, s1_, s2_, s3_, s4_, s5_, s6_, s7_, s8_, s9_, s10_, s11_, s12_, s13_, s14_, s15_⟩, _⟩ := recres Hset.out
    simp [results, Try.results13, go_sem, s0_, s1_, s2_, s3_, s4_, s5_, s6_, s7_, s8_, s9_, s10_, s11_, s12_, s13_, s14_, s15_, recV]
    try rfl
   ·refine (HPo.out _ _).2 ⟨?_, But.below Hg.out Hbut.out (by omega) Hg.out.size⟩
    have hy := HY.out
    simp only [Prod.mk.injEq] at hy
    rw [hy.1, hy.2]
    rfl
end Go.Proofs.Ytaninphcgeaepaa
namespace Go.Proofs.Ytaninphcgeaepaa
open Go.RowKit
attribute [local go_sem] givesF_none givesF_some evalF_tmp evalF_const evalF_global evalF_func lookL isB_bool isB_undef givesUpon_value givesUpon_skip givesUpon_enter
theorem sizepg : (Try.prog.info? 27).map (·.size) = some 6 := by kernel_rfl
theorem wpList_store_pg {ops : Array Oper} {rest : List Oper} {o : Oper} {a : Act} {Q : Exit → Act → World → Prop} {w : World} (hgd : o.guard = none) (x y : Operand) (ho : o.op = .store 27 x y) (b : Nat) (vs : List Value)
  (hx : a.eval x = .pointer (some ⟨b, 0, none⟩)) (hy : a.eval y = .agg vs.toArray) {cs : List Value} (hb : Blk w b 27 cs) (hc : cs.length = 6) (hv : vs.length = 6) (h1 : vs.all (·.oneCell') = true)
  (h : ∀ w', Blk w' b 27 vs → But b w w' → wpList Try.prog ops Q rest (a.put o.dst undef) w') : wpList Try.prog ops Q (o :: rest) a w := by
 refine wpList_store_mid hgd _ x y ho b 0 vs.toArray hx hy ?_ (by rw [sizepg]; simp [hv]) (by simpa using h1) (h _ (setCells_blk hb vs (by omega)) (setCells_but w b vs))
 intro j hj
 have hj2 : j < cs.length := by
  have : vs.toArray.size = vs.length := by simp
  omega
 refine ⟨?_, by rw [Nat.zero_add]; exact hb.free j⟩
 rw [Nat.zero_add, hb.cell j hj2]
 rfl
theorem sizeen : (Try.prog.info? 36).map (·.size) = some 3 := by kernel_rfl
theorem wpList_store_en {ops : Array Oper} {rest : List Oper} {o : Oper} {a : Act} {Q : Exit → Act → World → Prop} {w : World} (hgd : o.guard = none) (x y : Operand) (ho : o.op = .store 36 x y) (b : Nat) (vs : List Value)
  (hx : a.eval x = .pointer (some ⟨b, 0, none⟩)) (hy : a.eval y = .agg vs.toArray) {cs : List Value} (hb : Blk w b 36 cs) (hc : cs.length = 3) (hv : vs.length = 3) (h1 : vs.all (·.oneCell') = true)
  (h : ∀ w', Blk w' b 36 vs → But b w w' → wpList Try.prog ops Q rest (a.put o.dst undef) w') : wpList Try.prog ops Q (o :: rest) a w := by
 refine wpList_store_mid hgd _ x y ho b 0 vs.toArray hx hy ?_ (by rw [sizeen]; simp [hv]) (by simpa using h1) (h _ (setCells_blk hb vs (by omega)) (setCells_but w b vs))
 intro j hj
 have hj2 : j < cs.length := by
  have : vs.toArray.size = vs.length := by simp
  omega
 refine ⟨?_, by rw [Nat.zero_add]; exact hb.free j⟩
 rw [Nat.zero_add, hb.cell j hj2]
 rfl
theorem ppe_new (P : Pg) (iv : Value) (w_ w0 : World) (h : w0 = ((w_.alloc (.cells (pgCells P iv).toArray 27)).alloc (.cells #[.int .i64 0, .int .i64 0, .int .i64 0, .int .i64 0, .string ⟨#[]⟩, .slice none 0 0] 27)).alloc (.cells #[.string ⟨#[]⟩, .int .i64 0, .int .i64 0] 36)) :
  Grow w_ w0 ∧ Blk w0 w_.heap.size 27 (pgCells P iv) ∧ Blk w0 (w_.heap.size + 1) 27 [.int .i64 0, .int .i64 0, .int .i64 0, .int .i64 0, .string ⟨#[]⟩, .slice none 0 0] ∧ Blk w0 (w_.heap.size + 2) 36 [.string ⟨#[]⟩, .int .i64 0, .int .i64 0] := by
 refine ⟨?_, ?_, ?_, ?_⟩
 ·subst h; exact (((Grow.refl w_).alloc _).alloc _).alloc _
 ·have := ((Blk.new w_ 27 (pgCells P iv)).alloc (.cells #[.int .i64 0, .int .i64 0, .int .i64 0, .int .i64 0, .string ⟨#[]⟩, .slice none 0 0] 27)).alloc (.cells #[.string ⟨#[]⟩, .int .i64 0, .int .i64 0] 36)
  subst h; exact this
 ·have := (Blk.new (w_.alloc (.cells (pgCells P iv).toArray 27)) 27 [.int .i64 0, .int .i64 0, .int .i64 0, .int .i64 0, .string ⟨#[]⟩, .slice none 0 0]).alloc (.cells #[.string ⟨#[]⟩, .int .i64 0, .int .i64 0] 36)
  have e : (w_.alloc (.cells (pgCells P iv).toArray 27)).heap.size = w_.heap.size + 1 := by simp
  rw [e] at this
  subst h; exact this
 ·have := Blk.new ((w_.alloc (.cells (pgCells P iv).toArray 27)).alloc (.cells #[.int .i64 0, .int .i64 0, .int .i64 0, .int .i64 0, .string ⟨#[]⟩, .slice none 0 0] 27)) 36 [.string ⟨#[]⟩, .int .i64 0, .int .i64 0]
  have e : ((w_.alloc (.cells (pgCells P iv).toArray 27)).alloc (.cells #[.int .i64 0, .int .i64 0, .int .i64 0, .int .i64 0, .string ⟨#[]⟩, .slice none 0 0] 27)).heap.size = w_.heap.size + 2 := by simp
  rw [e] at this
  subst h; exact this
def LayPost (Q : Pg) (e : En) (c : Int) (w : World) (x : Ending) (w' : World) : Prop := ∃ jv, x = .returned (.tuple #[pgV Q jv, enV e, .int .i64 c]) ∧ ItemsC w' jv Q.items ∧ Below w.heap.size w w'
set_option maxRecDepth 100000 in
set_option maxHeartbeats 4000000 in
theorem lay_new (P : Pg) (iv : Value) (item : List UInt8) (e : En) (w_ : World) (hin : PgIn w_ iv P) (hs : (item.length : Int) ≤ 140737488355328) (hopen : openOk P = true) (hlv : P.level = 0) (hde : decN item = (e, 0)) (hne : e ∉ ensN P) :
  Calls Try.prog 28 #[pgV P iv, .string (str item)] w_ (LayPost (insN P e).1 e (insN P e).2 w_) := by
 have hck := fun (u : World) (hu : Grow w_ u) => check_node P iv u (hin.fits hu)
 have hen := fun (u : World) (hu : Grow w_ u) => entries_node P iv u (hin.fits hu)
 have hdc := fun (u : World) => decode_any item u (by omega)
 have hco := fun (u : World) (v : Value) (h : EnsS u v (ensN P)) => contains_e e (ensN P) v u h (by rw [ensN_length]; have := (open_fine hopen).1; omega)
 have hins := fun (u : World) (hu : Grow w_ u) => insert_any P iv e u (hin.fits hu)
 have hpo : ∀ (x : Ending) (w' : World), LayPost (insN P e).1 e (insN P e).2 w_ x w' ↔ (∃ jv, x = .returned (.tuple #[pgV (insN P e).1 jv, enV e, .int .i64 (insN P e).2]) ∧ ItemsC w' jv (insN P e).1.items ∧ Below w_.heap.size w_ w') := fun _ _ => Iff.rfl
 have hek : entriesOk P = true := by unfold entriesOk; rw [hopen, decide_eq_true hlv]; rfl
 rw [hde] at hdc
 unfold ChkPost at hck
 rw [hopen] at hck
 unfold EntPost at hen
 rw [hek] at hen
 simp only [if_true] at hen hck
 unfold PgPost at hins
 have hno : decide (e ∈ ensN P) = false := decide_eq_false hne
 rw [hno] at hco
 generalize insN P e = Y at *
 generalize ensN P = L at *
 obtain ⟨Q, qc⟩ := Y
 obtain ⟨k, p, s⟩ := e
 dsimp only at hdc hins hpo
 unfold pgV at hck hen hins
 unfold enV at hdc hco hins
 dsimp only at hdc hco hins
 obtain ⟨w0, hw0⟩ : ∃ w0, w0 = ((w_.alloc (.cells (pgCells P iv).toArray 27)).alloc (.cells #[.int .i64 0, .int .i64 0, .int .i64 0, .int .i64 0, .string ⟨#[]⟩, .slice none 0 0] 27)).alloc (.cells #[.string ⟨#[]⟩, .int .i64 0, .int .i64 0] 36) := ⟨_, rfl⟩
 obtain ⟨hg0, hP0, hR0, hE0⟩ := ppe_new P iv w_ w0 hw0
 have HCk := keep hck
 have HEn := keep hen
 have HDc := keep hdc
 have HCo := keep hco
 have HIns := keep hins
 have HPo := keep hpo
 have HP0 := keep hP0
 have HR0 := keep hR0
 have HE0 := keep hE0
 have HG0 := keep hg0
 have HLv := keep hlv
 have hz0 := hE0.lt
 clear hck hen hdc hco hins hpo hR0 hE0 hg0 hlv hin hopen hde hne hek hno
 unfold pgCells at hw0 hP0
 obtain ⟨p0, p1, p2, p3, p4, p5, _⟩ := pgres hP0
 clear hP0
 unfold pgV
 go_enter Try.func28, Try.ntmps28
 go_upto_region 1 with fail
 rw [← hw0]
 clear hw0
 go_wp2_with fail
 refine (HCk.out w0 HG0.out).mono ?_
 rintro x w1 ⟨rfl, hb1⟩
 have HG1 := keep hb1
 have hP1 := HP0.out.fits hb1
 clear p0 p1 p2 p3 p4 p5 hb1 HCk
 unfold pgCells at hP1
 obtain ⟨p0, p1, p2, p3, p4, p5, _⟩ := pgres hP1
 have hl1 : w_.heap.size < w1.heap.size := hP1.lt
 clear hP1
 have hlv := HLv.out
 go_upto_region 7 with fail
 clear hlv p0 p1 p2 p3 p4 p5
 obtain ⟨w2, hw2⟩ : ∃ w2, w2 = (w1.alloc (.cells #[.int .i64 0, .int .i64 0, .int .i64 0, .int .i64 0, .string ⟨#[]⟩, .slice none 0 0] 27)).alloc (.cells #[.string ⟨#[]⟩, .int .i64 0, .int .i64 0] 36) := ⟨_, rfl⟩
 have hg2 : Grow w1 w2 := by subst hw2; exact ((Grow.refl _).alloc _).alloc _
 have hQ2 : Blk w2 w1.heap.size 27 [.int .i64 0, .int .i64 0, .int .i64 0, .int .i64 0, .string ⟨#[]⟩, .slice none 0 0] := by
  have := (Blk.new w1 27 [.int .i64 0, .int .i64 0, .int .i64 0, .int .i64 0, .string ⟨#[]⟩, .slice none 0 0]).alloc (.cells #[.string ⟨#[]⟩, .int .i64 0, .int .i64 0] 36)
  subst hw2; exact this
 have hX2 : Blk w2 (w1.heap.size + 1) 36 [.string ⟨#[]⟩, .int .i64 0, .int .i64 0] := by
  have := Blk.new (w1.alloc (.cells #[.int .i64 0, .int .i64 0, .int .i64 0, .int .i64 0, .string ⟨#[]⟩, .slice none 0 0] 27)) 36 [.string ⟨#[]⟩, .int .i64 0, .int .i64 0]
  have e : (w1.alloc (.cells #[.int .i64 0, .int .i64 0, .int .i64 0, .int .i64 0, .string ⟨#[]⟩, .slice none 0 0] 27)).heap.size = w1.heap.size + 1 := by simp
  rw [e] at this
  subst hw2; exact this
 rw [← hw2]
 have HQ2 := keep hQ2
 have HX2 := keep hX2
 have HG2 := keep (Grow.trans HG1.out hg2)
 have hz2 := hX2.lt
 have HZ1 := keep (show w0.heap.size ≤ w1.heap.size from HG1.out.size)
 clear hw2 hg2 hQ2 hX2
 go_wp2_with fail
 refine (HDc.out w2).mono ?_
 rintro x w3 ⟨rfl, hb3⟩
 have hX3 := HX2.out.fits hb3
 have HQ3 := keep (HQ2.out.fits hb3)
 have HG3 := keep (Grow.trans HG2.out hb3)
 have HX3 := keep hX3
 clear hb3 hX3 HDc HQ2 HX2
 go_upto_region 8 with ((refine wpList_store_en rfl _ _ rfl (w1.heap.size + 1) _ rfl rfl HX3.out rfl rfl rfl ?_); intro w4 hset4 hbut4; have HX4 := keep hset4; have HB4 := keep hbut4; clear hset4 hbut4)
 have HQ4 := keep (HQ3.out.but HB4.out (by omega))
 have HG4 := keep (show Below w0.heap.size w0 w4 from But.below HG3.out HB4.out (by have := HZ1.out; omega) HG3.out.size)
 have hP4 := HP0.out.fits HG4.out
 unfold pgCells at hP4
 clear HQ3 HX3 HB4
 obtain ⟨p0, p1, p2, p3, p4, p5, _⟩ := pgres hP4
 clear hP4
 go_wp2_with fail
 refine (HEn.out w4 (Grow.trans HG0.out HG4.out)).mono ?_
 rintro x w5 ⟨⟨a, c, rfl, hes⟩, hb5⟩
 have HX5 := keep (HX4.out.fits hb5)
 have HQ5 := keep (HQ4.out.fits hb5)
 have HG5 := keep (Grow.trans HG4.out hb5)
 have HEs := keep hes
 clear p0 p1 p2 p3 p4 p5 hb5 hes HEn HX4 HQ4
 obtain ⟨c0, c1, c2, _⟩ := enres HX5.out
 go_wp2_with fail
 refine (HCo.out w5 _ HEs.out).mono ?_
 rintro x w6 ⟨rfl, hb6⟩
 have HX6 := keep (HX5.out.fits hb6)
 have HQ6 := keep (HQ5.out.fits hb6)
 have HG6 := keep (Grow.trans HG5.out hb6)
 have hP6 := HP0.out.fits HG6.out
 unfold pgCells at hP6
 clear c0 c1 c2 hb6 HX5 HQ5 HCo
 obtain ⟨p0, p1, p2, p3, p4, p5, _⟩ := pgres hP6
 obtain ⟨c0, c1, c2, _⟩ := enres HX6.out
 clear hP6
 go_wp2_with fail
 refine (HIns.out w6 (Grow.trans HG0.out HG6.out)).mono ?_
 rintro x w7 ⟨jv, rfl, hit, hb7⟩
 have HX7 := keep (HX6.out.fits hb7)
 have HQ7 := keep (HQ6.out.fits hb7)
 have HG7 := keep (Grow.trans HG6.out hb7)
 obtain ⟨ja, jc, rfl⟩ := itemsS_form hit.1
 have HIt7 := keep hit
 clear p0 p1 p2 p3 p4 p5 c0 c1 c2 hb7 hit HX6 HQ6 HIns
 go_upto_region 22 with ((refine wpList_store_pg rfl _ _ rfl w1.heap.size _ rfl rfl HQ7.out rfl rfl rfl ?_); intro w8 hset8 hbut8; have HQ8 := keep hset8; have HB8 := keep hbut8; clear hset8 hbut8)
 have HX8 := keep (HX7.out.but HB8.out (by omega))
 have HG8 := keep (show Below w0.heap.size w0 w8 from But.below HG7.out HB8.out (by have := HZ1.out; omega) HG7.out.size)
 have HIt8 := keep (itemsC_but HIt7.out HB8.out HQ7.out (by decide))
 have hR8 := HR0.out.fits HG8.out
 have hE8 := HE0.out.fits HG8.out
 obtain ⟨q0, q1, q2, q3, q4, q5, _⟩ := pgres HQ8.out
 obtain ⟨c0, c1, c2, _⟩ := enres HX8.out
 obtain ⟨r0, r1, r2, r3, r4, r5, f0, f1, f2, f3, f4, f5⟩ := pgres hR8
 obtain ⟨e0, e1, e2, g0, g1, g2⟩ := enres hE8
 have Hset := keep (pgset hR8 (.int .i64 Q.lsn) (.int .i64 Q.kind) (.int .i64 Q.level) (.int .i64 Q.right) (.string (str Q.high)) (.slice ja Q.items.length jc))
 have Hbut := keep (pgbut w8 (w_.heap.size + 1) (.int .i64 Q.lsn) (.int .i64 Q.kind) (.int .i64 Q.level) (.int .i64 Q.right) (.string (str Q.high)) (.slice ja Q.items.length jc))
 have hz8 := HG8.out.size
 have hz1 := HZ1.out
 have n1 : ¬ w_.heap.size + 1 = w1.heap.size := by omega
 have n2 : ¬ w_.heap.size + 1 = w1.heap.size + 1 := by omega
 have n3 : ¬ w_.heap.size + 2 = w1.heap.size := by omega
 have n4 : ¬ w_.heap.size + 2 = w1.heap.size + 1 := by omega
 have n5 : ¬ w1.heap.size = w_.heap.size + 1 := by omega
 have n6 : ¬ w1.heap.size + 1 = w_.heap.size + 1 := by omega
 have n7 : ¬ w1.heap.size = w_.heap.size + 2 := by omega
 have n8 : ¬ w1.heap.size + 1 = w_.heap.size + 2 := by omega
 have HE9 := keep (hE8.but Hbut.out (by omega))
 have Hset2 := keep (enset HE9.out (.string (str k)) (.int .i64 p) (.int .i64 s))
 have Hbut2 := keep (enbut _ (w_.heap.size + 2) (.string (str k)) (.int .i64 p) (.int .i64 s) : But (w_.heap.size + 2) ((((((w8.setCell ⟨w_.heap.size + 1, 0, none⟩ (.int .i64 Q.lsn)).setCell ⟨w_.heap.size + 1, 1, none⟩ (.int .i64 Q.kind)).setCell ⟨w_.heap.size + 1, 2, none⟩ (.int .i64 Q.level)).setCell ⟨w_.heap.size + 1, 3, none⟩ (.int .i64 Q.right)).setCell ⟨w_.heap.size + 1, 4, none⟩ (.string (str Q.high))).setCell ⟨w_.heap.size + 1, 5, none⟩ (.slice ja Q.items.length jc)) _)
 have HR9 := keep (Hset.out.but Hbut2.out (by omega))
 have HIt9 := keep (itemsC_but (itemsC_but HIt8.out Hbut.out hR8 (by decide)) Hbut2.out HE9.out (by decide))
 have hga := But.below (Grow.trans HG0.out HG8.out) Hbut.out (show w_.heap.size ≤ w_.heap.size + 1 by omega) (show w_.heap.size ≤ w8.heap.size by omega)
 have HGa := keep (But.below hga Hbut2.out (show w_.heap.size ≤ w_.heap.size + 2 by omega) (by simp; omega))
 clear hR8 hE8 hga
 go_region
 all_goals go_wp2_with fail
 all_goals refine bodyPost_ret (v := .tuple #[pgV Q (.slice ja Q.items.length jc), enV (k, p, s), .int .i64 qc]) ?_ rfl ((HPo.out _ _).2 ⟨_, rfl, HIt9.out.fits (Below.drew (Grow.refl _)), Below.drew HGa.out⟩)
 all_goals
  obtain ⟨s0, s1, s2, s3, s4, s5, _⟩ := pgres (Blk.drew HR9.out)
  have hx9 := Blk.drew Hset2.out
  obtain ⟨t0, t1, t2, _⟩ := enres (show Blk _ (w_.heap.size + 1 + 1) _ _ from hx9)
  simp [results, Try.results28, go_sem, s0, s1, s2, s3, s4, s5, t0, t1, t2, pgV, enV]
end Go.Proofs.Ytaninphcgeaepaa
namespace Go.Proofs.Ytaninphcgeaepaa
open Go.RowKit
attribute [local go_sem] givesF_none givesF_some evalF_tmp evalF_const evalF_global evalF_func lookL isB_bool isB_undef givesUpon_value givesUpon_skip givesUpon_enter
set_option maxRecDepth 100000 in
set_option maxHeartbeats 2000000 in
theorem need_new (P : Pg) (iv : Value) (n : Int) (item : List UInt8) (e : En) (w_ : World) (hin : PgIn w_ iv P) (hs : (item.length : Int) ≤ 140737488355328) (hopen : openOk P = true) (hlv : P.level = 0) (hde : decN item = (e, 0)) (hne : e ∉ ensN P) (hc : (insN P e).2 = 0) :
  Calls Try.prog 16 #[pgV P iv, .int .i64 n, .string (str item)] w_ fun x w' => x = .returned (.tuple #[.int .i64 0, .int .i64 0]) ∧ Below w_.heap.size w_ w' := by
 obtain ⟨w0, hw0⟩ : ∃ w0, w0 = w_.alloc (.cells (pgCells P iv).toArray 27) := ⟨_, rfl⟩
 have hg0 : Grow w_ w0 := by subst hw0; exact (Grow.refl w_).alloc _
 have hP0 : Blk w0 w_.heap.size 27 (pgCells P iv) := by subst hw0; exact Blk.new w_ _ _
 have hla := lay_new P iv item e w0 (hin.fits hg0) hs hopen hlv hde hne
 rw [hc] at hla
 unfold LayPost at hla
 generalize (insN P e).1 = Q at *
 obtain ⟨k, p, s⟩ := e
 unfold pgV enV at hla
 dsimp only at hla
 have HLa := keep hla
 have HG0 := keep hg0
 clear hla hin hopen hlv hde hne hc hg0
 unfold pgCells at hw0 hP0
 obtain ⟨p0, p1, p2, p3, p4, p5, _⟩ := pgres hP0
 clear hP0
 unfold pgV
 go_enter Try.func16, Try.ntmps16
 go_upto_region 1 with fail
 rw [← hw0]
 clear hw0
 go_wp2_with fail
 refine HLa.out.mono ?_
 rintro x w1 ⟨jv, rfl, hit, hb1⟩
 obtain ⟨ja, jc, rfl⟩ := itemsS_form hit.1
 clear p0 p1 p2 p3 p4 p5 hit
 have HG1 := keep (Grow.trans HG0.out hb1)
 clear hb1
 go_upto_region 2 with fail
 obtain ⟨w2, hw2⟩ : ∃ w2, w2 = (w1.alloc (.cells #[.int .i64 Q.lsn, .int .i64 Q.kind, .int .i64 Q.level, .int .i64 Q.right, .string (str Q.high), .slice ja Q.items.length jc] 27)).alloc (.cells #[.string (str k), .int .i64 p, .int .i64 s] 36) := ⟨_, rfl⟩
 have HG2 := keep (show Grow w_ w2 by subst hw2; exact (HG1.out.alloc _).alloc _)
 rw [← hw2]
 clear hw2
 go_wp2_with fail
 go_ret2
 exact ⟨rfl, HG2.out⟩
theorem indexFunc_nil (f : Value) (w_ : World) : Calls Try.prog 66 #[.slice none 0 0, f] w_ fun x w' => x = .returned (.int .i64 (-1)) ∧ Below w_.heap.size w_ w' := by
 go_enter Try.func66, Try.ntmps66
 go_wp2_with fail
 go_loopw [8] (fun i wr => i = .int .i64 0 ∧ Kept (Grow w_ wr)) (fun _ _ => 0)
 case atStart => exact ⟨rfl, keep (Grow.refl _)⟩
 case round =>
  obtain ⟨rfl, HG⟩ := hrel
  go_wp2_with fail
  go_ret
  exact ⟨rfl, HG.out⟩
theorem containsFunc_nil (f : Value) (w_ : World) : Calls Try.prog 54 #[.slice none 0 0, f] w_ fun x w' => x = .returned (.bool false) ∧ Below w_.heap.size w_ w' := by
 have HI := keep (fun u => indexFunc_nil f u)
 go_enter Try.func54, Try.ntmps54
 go_wp2_with fail
 refine (HI.out w_).mono ?_
 rintro x w1 ⟨rfl, hb⟩
 go_wp2_with fail
 go_ret
 exact ⟨rfl, hb⟩
theorem apart_nil (w_ : World) : Calls Try.prog 34 #[.slice none 0 0, .int .i64 0] w_ fun x w' => x = .returned (.bool true) ∧ Below w_.heap.size w_ w' := by
 have HC := keep (fun f u => containsFunc_nil f u)
 go_enter Try.func34, Try.ntmps34
 go_wp2_with fail
 refine (HC.out _ w_).mono ?_
 rintro x w1 ⟨rfl, hb⟩
 go_upto_region 3 with fail
 go_quiet (fail)
 go_wp2_with fail
 go_ret
 exact ⟨rfl, Grow.trans hb (below_drewN (Grow.refl _) _)⟩
theorem pr_new (P : Pg) (iv : Value) (w_ w0 : World) (h : w0 = (w_.alloc (.cells (pgCells P iv).toArray 27)).alloc (.cells #[.int .i64 0, .int .i64 0, .int .i64 0, .int .u8 0, .int .i64 0, .int .i64 0, .int .i64 0, .int .i64 0, .int .i64 0, .int .i64 0, .string ⟨#[]⟩, .slice none 0 0, .slice none 0 0, .slice none 0 0, .slice none 0 0, .slice none 0 0] 50)) :
  Grow w_ w0 ∧ Blk w0 w_.heap.size 27 (pgCells P iv) ∧ Blk w0 (w_.heap.size + 1) 50 [.int .i64 0, .int .i64 0, .int .i64 0, .int .u8 0, .int .i64 0, .int .i64 0, .int .i64 0, .int .i64 0, .int .i64 0, .int .i64 0, .string ⟨#[]⟩, .slice none 0 0, .slice none 0 0, .slice none 0 0, .slice none 0 0, .slice none 0 0] := by
 refine ⟨?_, ?_, ?_⟩
 ·subst h; exact ((Grow.refl w_).alloc _).alloc _
 ·have := (Blk.new w_ 27 (pgCells P iv)).alloc (.cells #[.int .i64 0, .int .i64 0, .int .i64 0, .int .u8 0, .int .i64 0, .int .i64 0, .int .i64 0, .int .i64 0, .int .i64 0, .int .i64 0, .string ⟨#[]⟩, .slice none 0 0, .slice none 0 0, .slice none 0 0, .slice none 0 0, .slice none 0 0] 50)
  subst h; exact this
 ·have := Blk.new (w_.alloc (.cells (pgCells P iv).toArray 27)) 50 [.int .i64 0, .int .i64 0, .int .i64 0, .int .u8 0, .int .i64 0, .int .i64 0, .int .i64 0, .int .i64 0, .int .i64 0, .int .i64 0, .string ⟨#[]⟩, .slice none 0 0, .slice none 0 0, .slice none 0 0, .slice none 0 0, .slice none 0 0]
  have e : (w_.alloc (.cells (pgCells P iv).toArray 27)).heap.size = w_.heap.size + 1 := by simp
  rw [e] at this
  subst h; exact this
set_option maxRecDepth 100000 in
set_option maxHeartbeats 4000000 in
theorem enter_new (P : Pg) (iv : Value) (n : Int) (item : List UInt8) (e : En) (w_ : World) (hin : PgIn w_ iv P) (hs : (item.length : Int) ≤ 140737488355328) (hopen : openOk P = true) (hlv : P.level = 0) (hde : decN item = (e, 0)) (hne : e ∉ ensN P) (hc : (insN P e).2 = 0) :
  Calls Try.prog 19 #[pgV P iv, .int .i64 n, .string (str item), .slice none 0 0] w_ fun x w' => x = .returned (.tuple #[recV 3 n (str item), .int .i64 0]) ∧ Below w_.heap.size w_ w' := by
 obtain ⟨w0, hw0⟩ : ∃ w0, w0 = (w_.alloc (.cells (pgCells P iv).toArray 27)).alloc (.cells #[.int .i64 0, .int .i64 0, .int .i64 0, .int .u8 0, .int .i64 0, .int .i64 0, .int .i64 0, .int .i64 0, .int .i64 0, .int .i64 0, .string ⟨#[]⟩, .slice none 0 0, .slice none 0 0, .slice none 0 0, .slice none 0 0, .slice none 0 0] 50) := ⟨_, rfl⟩
 obtain ⟨hg0, hP0, hR0⟩ := pr_new P iv w_ w0 hw0
 have hnd := need_new P iv n item e w0 (hin.fits hg0) hs hopen hlv hde hne hc
 have hap := fun (u : World) => apart_nil u
 unfold pgV at hnd
 have HNd := keep hnd
 have HAp := keep hap
 have HR0 := keep hR0
 have HG0 := keep hg0
 clear hnd hap hin hopen hlv hde hne hc hg0 hR0
 unfold pgCells at hw0 hP0
 obtain ⟨p0, p1, p2, p3, p4, p5, _⟩ := pgres hP0
 clear hP0
 unfold pgV
 go_enter Try.func19, Try.ntmps19
 go_upto_region 1 with fail
 rw [← hw0]
 clear hw0
 go_wp2_with fail
 refine HNd.out.mono ?_
 rintro x w1 ⟨rfl, hb1⟩
 clear p0 p1 p2 p3 p4 p5 HNd
 go_wp2_with fail
 refine (HAp.out w1).mono ?_
 rintro x w2 ⟨rfl, hb2⟩
 have HR2 := keep (HR0.out.fits (Grow.trans hb1 hb2))
 have HG2 := keep (Grow.trans HG0.out (Grow.trans hb1 hb2))
 clear hb1 hb2 HAp HR0
 go_upto_region 7 with fail
 go_wp2_with ((refine wpList_store_rec rfl _ _ rfl (w_.heap.size + 1) _ rfl rfl HR2.out rfl rfl rfl ?_); intro wz hset hbz; have Hset := keep hset; have Hbut := keep hbz; clear hset hbz)
 refine bodyPost_ret (v := .tuple #[recV 3 n (str item), .int .i64 0]) ?_ rfl ⟨rfl, But.below HG2.out Hbut.out (by omega) HG2.out.size⟩
 obtain ⟨⟨s0_, s1_, s2_, s3_, s4_, s5_, s6_, s7_, s8_, s9_, s10_, s11_, s12_, s13_, s14_, s15_⟩, _⟩ := recres Hset.out
 simp [results, Try.results19, go_sem, s0_, s1_, s2_, s3_, s4_, s5_, s6_, s7_, s8_, s9_, s10_, s11_, s12_, s13_, s14_, s15_, recV]
 try rfl
end Go.Proofs.Ytaninphcgeaepaa
namespace Go.Proofs.Ytaninphcgeaepaa
open Go.RowKit
attribute [local go_sem] givesF_none givesF_some evalF_tmp evalF_const evalF_global evalF_func lookL isB_bool isB_undef givesUpon_value givesUpon_skip givesUpon_enter
theorem prz_new (P : Pg) (iv : Value) (n : Int) (item : List UInt8) (w_ w0 : World) (h : w0 = ((w_.alloc (.cells (pgCells P iv).toArray 27)).alloc (.cells (recCells 3 n (str item)).toArray 50)).alloc (.cells #[.int .i64 0, .int .i64 0, .int .i64 0, .int .i64 0, .string ⟨#[]⟩, .slice none 0 0] 27)) :
  Grow w_ w0 ∧ Blk w0 w_.heap.size 27 (pgCells P iv) ∧ Blk w0 (w_.heap.size + 1) 50 (recCells 3 n (str item)) ∧ Blk w0 (w_.heap.size + 2) 27 [.int .i64 0, .int .i64 0, .int .i64 0, .int .i64 0, .string ⟨#[]⟩, .slice none 0 0] := by
 refine ⟨?_, ?_, ?_, ?_⟩
 ·subst h; exact (((Grow.refl w_).alloc _).alloc _).alloc _
 ·have := ((Blk.new w_ 27 (pgCells P iv)).alloc (.cells (recCells 3 n (str item)).toArray 50)).alloc (.cells #[.int .i64 0, .int .i64 0, .int .i64 0, .int .i64 0, .string ⟨#[]⟩, .slice none 0 0] 27)
  subst h; exact this
 ·have := (Blk.new (w_.alloc (.cells (pgCells P iv).toArray 27)) 50 (recCells 3 n (str item))).alloc (.cells #[.int .i64 0, .int .i64 0, .int .i64 0, .int .i64 0, .string ⟨#[]⟩, .slice none 0 0] 27)
  have e : (w_.alloc (.cells (pgCells P iv).toArray 27)).heap.size = w_.heap.size + 1 := by simp
  rw [e] at this
  subst h; exact this
 ·have := Blk.new ((w_.alloc (.cells (pgCells P iv).toArray 27)).alloc (.cells (recCells 3 n (str item)).toArray 50)) 27 [.int .i64 0, .int .i64 0, .int .i64 0, .int .i64 0, .string ⟨#[]⟩, .slice none 0 0]
  have e : ((w_.alloc (.cells (pgCells P iv).toArray 27)).alloc (.cells (recCells 3 n (str item)).toArray 50)).heap.size = w_.heap.size + 2 := by simp
  rw [e] at this
  subst h; exact this
set_option maxRecDepth 100000 in
set_option maxHeartbeats 4000000 in
theorem changed_new (P : Pg) (iv : Value) (n : Int) (item : List UInt8) (e : En) (w_ : World) (hin : PgIn w_ iv P) (hs : (item.length : Int) ≤ 140737488355328) (hlv : P.level = 0) (hde : decN item = (e, 0)) :
  Calls Try.prog 26 #[pgV P iv, recV 3 n (str item)] w_ (PgPost (insN P e).1 (insN P e).2 w_) := by
 obtain ⟨w0, hw0⟩ : ∃ w0, w0 = ((w_.alloc (.cells (pgCells P iv).toArray 27)).alloc (.cells (recCells 3 n (str item)).toArray 50)).alloc (.cells #[.int .i64 0, .int .i64 0, .int .i64 0, .int .i64 0, .string ⟨#[]⟩, .slice none 0 0] 27) := ⟨_, rfl⟩
 obtain ⟨hg0, hP0, hC0, hR0⟩ := prz_new P iv n item w_ w0 hw0
 have hdc := fun (u : World) => decode_any item u (by omega)
 have hins := fun (u : World) (hu : Grow w_ u) => insert_any P iv e u (hin.fits hu)
 have hpo : ∀ (x : Ending) (w' : World), PgPost (insN P e).1 (insN P e).2 w_ x w' ↔ (∃ iv, x = .returned (.tuple #[pgV (insN P e).1 iv, .int .i64 (insN P e).2]) ∧ ItemsC w' iv (insN P e).1.items ∧ Below w_.heap.size w_ w') := fun _ _ => Iff.rfl
 rw [hde] at hdc
 unfold PgPost at hins
 generalize insN P e = Y at *
 obtain ⟨Q, qc⟩ := Y
 obtain ⟨k, p, s⟩ := e
 dsimp only at hdc hins hpo
 unfold pgV at hins
 unfold enV at hdc hins
 dsimp only at hdc hins
 have hlv0 : ¬ (0 : Int) < P.level := by omega
 have HDc := keep hdc
 have HIns := keep hins
 have HPo := keep hpo
 have HP0 := keep hP0
 have HC0 := keep hC0
 have HR0 := keep hR0
 have HG0 := keep hg0
 have hz0 := hR0.lt
 clear hdc hins hpo hin hde hg0 hR0 hlv
 unfold pgCells recCells at hw0
 unfold pgCells at hP0
 unfold recCells at hC0
 obtain ⟨p0, p1, p2, p3, p4, p5, _⟩ := pgres hP0
 obtain ⟨⟨r0, r1, r2, r3, r4, r5, r6, r7, r8, r9, r10, r11, r12, r13, r14, r15⟩, _⟩ := recres hC0
 clear hP0 hC0
 unfold pgV recV
 go_enter Try.func26, Try.ntmps26
 go_upto_region 1 with fail
 rw [← hw0]
 clear hw0
 go_wp2_with fail
 refine (HDc.out w0).mono ?_
 rintro x w1 ⟨rfl, hb1⟩
 clear p0 p1 p2 p3 p4 p5 r0 r1 r2 r3 r4 r5 r6 r7 r8 r9 r10 r11 r12 r13 r14 r15 HDc
 go_upto_region 7 with fail
 obtain ⟨w2, hw2⟩ : ∃ w2, w2 = w1.alloc (.cells #[.string (str k), .int .i64 p, .int .i64 s] 36) := ⟨_, rfl⟩
 rw [← hw2]
 have hg2 : Grow w0 w2 := by subst hw2; exact Grow.alloc hb1 _
 have hX2 : Blk w2 w1.heap.size 36 [.string (str k), .int .i64 p, .int .i64 s] := by subst hw2; exact Blk.new w1 _ [_, _, _]
 have HG2 := keep hg2
 have hP2 := HP0.out.fits hg2
 have hC2 := HC0.out.fits hg2
 unfold pgCells at hP2
 unfold recCells at hC2
 obtain ⟨p0, p1, p2, p3, p4, p5, _⟩ := pgres hP2
 obtain ⟨⟨r0, r1, r2, r3, r4, r5, r6, r7, r8, r9, r10, r11, r12, r13, r14, r15⟩, _⟩ := recres hC2
 obtain ⟨c0, c1, c2, _⟩ := enres hX2
 clear hw2 hg2 hX2 hP2 hC2 hb1
 go_wp2_with fail
 refine (HIns.out w2 (Grow.trans HG0.out HG2.out)).mono ?_
 rintro x w3 ⟨jv, rfl, hit, hb3⟩
 obtain ⟨ja, jc, rfl⟩ := itemsS_form hit.1
 have HG3 := keep (Grow.trans HG2.out hb3)
 have HR3 := keep (HR0.out.fits HG3.out)
 have HIt3 := keep hit
 clear p0 p1 p2 p3 p4 p5 r0 r1 r2 r3 r4 r5 r6 r7 r8 r9 r10 r11 r12 r13 r14 r15 c0 c1 c2 hb3 hit HIns
 go_wp2_with ((refine wpList_store_pg rfl _ _ rfl (w_.heap.size + 2) _ rfl rfl HR3.out rfl rfl rfl ?_); intro wz hset hbz; have Hset := keep hset; have Hbut := keep hbz; clear hset hbz)
 have hga := Grow.trans HG0.out HG3.out
 refine bodyPost_ret (v := .tuple #[pgV Q (.slice ja Q.items.length jc), .int .i64 qc]) ?_ rfl ((HPo.out _ _).2 ⟨_, rfl, itemsC_but HIt3.out Hbut.out HR3.out (by decide), But.below hga Hbut.out (by omega) hga.size⟩)
 obtain ⟨s0, s1, s2, s3, s4, s5, _⟩ := pgres Hset.out
 simp [results, Try.results26, go_sem, s0, s1, s2, s3, s4, s5, pgV]
end Go.Proofs.Ytaninphcgeaepaa
namespace Go.Proofs.Ytaninphcgeaepaa
open Go.RowKit
attribute [local go_sem] givesF_none givesF_some evalF_tmp evalF_const evalF_global evalF_func lookL isB_bool isB_undef givesUpon_value givesUpon_skip givesUpon_enter
def belowB (tt key : List UInt8) : Bool := decide (tt = []) || Op.bytesLess key tt
def insideB (fr tt : List UInt8) (e : En) : Bool := !Op.bytesLess e.1 fr && belowB tt e.1
def OwnE (N : Nat) (w : World) (v : Value) (l : List En) : Prop := w.ownsRow N 36 3 v l.length (eCells l)
theorem OwnE.fits {N : Nat} {w w' : World} {v : Value} {l : List En} (h : OwnE N w v l) (g : Grow w w') : OwnE N w' v l := owns_fits h g
theorem OwnE.ens {N : Nat} {w : World} {v : Value} {l : List En} (h : OwnE N w v l) : EnsS w v l := own_rowO h
theorem en_mark (w : World) (k : List UInt8) (p s : Int) : Row (w.alloc (.cells #[.string (str k), .int .i64 p, .int .i64 s] 36)) 36 (.slice (some ⟨w.heap.size, 0, none⟩) 1 1) 1 (eCells [(k, p, s)]) :=
 RowS.weak (RowS.blk (Blk.new w 36 [.string (str k), .int .i64 p, .int .i64 s]) 1 1 _ 0 (by intro j hj; rw [Nat.zero_add]; rfl))
theorem wpList_push_en {ops : Array Oper} {rest : List Oper} {o : Oper} {a : Act} {Q : Exit → Act → World → Prop} {w : World} (hgd : o.guard = none) (s x : Operand)
  (ho : o.op = .call { callee := .builtin .append, args := #[s, x], argTypes := #[22, 22] }) (B : Nat) (l : List En) (e : En) (v0 v : Value) (hs : a.eval s = v0) (hx : a.eval x = v)
  (h0 : OwnE B w v0 l) (h : Row w 36 v 1 (eCells [e])) (hb : l.length ≤ 4398046510975) (hB : B ≤ w.heap.size) {n : Nat} {l1 : List En} (hn : l.length + 1 = n) (hl1 : l ++ [e] = l1)
  (hk : ∀ a' c w', OwnE B w' (.slice a' n c) l1 → Below B w w' → wpList Try.prog ops Q rest (a.put o.dst (.slice a' n c)) w') : wpList Try.prog ops Q (o :: rest) a w := by
 subst hn hl1
 obtain ⟨v', w', hr, h1, h2⟩ := append_more o.type B l [e] v0 v w h0 h (by simp) (by simp only [List.length_singleton]; omega) hB
 have h3 : OwnE B w' v' (l ++ [e]) := by unfold OwnE; rw [List.length_append]; exact h1
 obtain ⟨a', c, rfl⟩ := own_form h1
 exact wpList_upon_append hgd ho hs hx hr (hk a' c w' h3 (h2.2 hB))
set_option maxHeartbeats 1000000 in
theorem below_fn (tt key : List UInt8) (b : Nat) (w_ : World) (h : w_.cell? ⟨b, 0, none⟩ = some (.string (str tt))) :
  Calls Try.prog 24 #[.string (str key), .pointer (some ⟨b, 0, none⟩)] w_ fun x w' => x = .returned (.bool (belowB tt key)) ∧ Below w_.heap.size w_ w' := by
 unfold belowB
 go_enter Try.func24, Try.ntmps24
 cases tt with
 | nil =>
  have h1 : (str []).toList = [] := str_list []
  go_wp2_with fail
  go_ret
  exact ⟨by simp [], Grow.refl _⟩
 | cons c t =>
  have h1 : ¬ (str (c :: t)).toList = [] := by rw [str_list]; simp
  go_wp2_with fail
  go_ret
  refine ⟨?_, Grow.refl _⟩
  simp [str_list]
end Go.Proofs.Ytaninphcgeaepaa
namespace Go.Proofs.Ytaninphcgeaepaa
open Go.RowKit
attribute [local go_sem] givesF_none givesF_some evalF_tmp evalF_const evalF_global evalF_func lookL isB_bool isB_undef givesUpon_value givesUpon_skip givesUpon_enter
def hitsL (P : Pg) (fr tt : List UInt8) : List En := (entL P).filter (insideB fr tt)
def hitsM (P : Pg) (tt : List UInt8) : Bool := (decide (entC P = 0) && !decide (P.right = 0)) && belowB tt (decN P.high).1.1
def HitsPost (P : Pg) (fr tt : List UInt8) (w : World) (x : Ending) (w' : World) : Prop :=
 ∃ a c, x = .returned (.tuple #[.slice a (hitsL P fr tt).length c, .bool (hitsM P tt), .int .i64 (entC P)]) ∧ EnsS w' (.slice a (hitsL P fr tt).length c) (hitsL P fr tt) ∧ Below w.heap.size w w'
theorem filter_step {α : Type} (f : α → Bool) (l : List α) {k : Nat} (h : k < l.length) : (l.take (k + 1)).filter f = (l.take k).filter f ++ (if f l[k] then [l[k]] else []) := by
 rw [List.take_add_one, List.filter_append]
 simp [h, List.filter_cons]
theorem ent_cases (P : Pg) : (entC P = 140 ∧ entL P = [] ∧ (openOk P = false ∨ P.level ≠ 0)) ∨ (entC P = 0 ∧ openOk P = true ∧ P.level = 0 ∧ (entL P).length ≤ 255) := by
 have hl := entL_len P
 unfold entC
 cases h : entriesOk P with
 | false =>
  refine .inl ⟨rfl, by unfold entL; rw [h]; rfl, ?_⟩
  unfold entriesOk at h
  simp only [Bool.and_eq_false_iff, decide_eq_false_iff_not] at h
  exact h
 | true =>
  have h2 := h
  unfold entriesOk at h2
  simp only [Bool.and_eq_true, decide_eq_true_eq] at h2
  exact .inr ⟨rfl, h2.1, h2.2, hl⟩
def HitRel (L : List En) (f : En → Bool) (w1 : World) (x i : Value) (wr : World) : Prop :=
 ∃ k a cap, k ≤ L.length ∧ x = .slice a ((L.take k).filter f).length cap ∧ i = .int .i64 (k : Int) ∧ Kept (OwnE w1.heap.size wr (.slice a ((L.take k).filter f).length cap) ((L.take k).filter f)) ∧ Kept (Below w1.heap.size w1 wr)
set_option maxRecDepth 100000 in
set_option maxHeartbeats 4000000 in
theorem hits_any (P : Pg) (iv : Value) (fr tt : List UInt8) (w_ : World) (hin : PgIn w_ iv P) :
  Calls Try.prog 10 #[pgV P iv, .string (str fr), .string (str tt)] w_ (HitsPost P fr tt w_) := by
 have hmf : ∀ (fn : Fn) (first cap : Array Value) (w : World), (Instr.makeFunc fn first cap).run Try.prog w = .ok (.func fn first cap) w := fun _ _ _ _ => rfl
 have hen := fun (u : World) (hu : Grow w_ u) => (entries_node P iv u (hin.fits hu)).mono fun x w' h => ent_uni h
 have hde := fun (u : World) => decode_any P.high u (by have := hin.2.2.1; omega)
 have hfa := ent_cases P
 have hm : hitsM P tt = ((decide (entC P = 0) && !decide (P.right = 0)) && belowB tt (decN P.high).1.1) := rfl
 have hl : hitsL P fr tt = (entL P).filter (insideB fr tt) := rfl
 have hpo : ∀ (x : Ending) (w' : World), HitsPost P fr tt w_ x w' ↔ (∃ a c, x = .returned (.tuple #[.slice a (hitsL P fr tt).length c, .bool (hitsM P tt), .int .i64 (entC P)]) ∧ EnsS w' (.slice a (hitsL P fr tt).length c) (hitsL P fr tt) ∧ Below w_.heap.size w_ w') := fun _ _ => Iff.rfl
 have hin2 : ∀ gk gp gs, insideB fr tt (gk, gp, gs) = (!Op.bytesLess gk fr && belowB tt gk) := fun _ _ _ => rfl
 generalize insideB fr tt = f at *
 generalize hitsM P tt = M at *
 generalize hitsL P fr tt = Y at *
 generalize entL P = L at *
 generalize entC P = C at *
 generalize decN P.high = D at *
 obtain ⟨⟨dk, dp, ds⟩, dc⟩ := D
 dsimp only at hm hde
 unfold pgV at hen
 unfold enV at hde
 dsimp only at hde
 obtain ⟨w0, hw0⟩ : ∃ w0, w0 = (w_.alloc (.cells (pgCells P iv).toArray 27)).alloc (.cells #[.string (str tt)] 9) := ⟨_, rfl⟩
 have hg0 : Grow w_ w0 := by subst hw0; exact ((Grow.refl w_).alloc _).alloc _
 have hP0 : Blk w0 w_.heap.size 27 (pgCells P iv) := by
  have := (Blk.new w_ 27 (pgCells P iv)).alloc (.cells #[.string (str tt)] 9)
  subst hw0; exact this
 have hT0 : Blk w0 (w_.heap.size + 1) 9 [.string (str tt)] := by
  have := Blk.new (w_.alloc (.cells (pgCells P iv).toArray 27)) 9 [.string (str tt)]
  have e : (w_.alloc (.cells (pgCells P iv).toArray 27)).heap.size = w_.heap.size + 1 := by simp
  rw [e] at this
  subst hw0; exact this
 have HEn := keep hen
 have HDe := keep hde
 have HPo := keep hpo
 have HIn2 := keep hin2
 have HM := keep hm
 have HL := keep hl
 have HP0 := keep hP0
 have HT0 := keep hT0
 have HG0 := keep hg0
 clear hen hde hpo hin2 hm hl hin hT0 hg0
 unfold pgCells at hw0 hP0
 obtain ⟨p0, p1, p2, p3, p4, p5, _⟩ := pgres hP0
 clear hP0
 unfold pgV
 go_enter Try.func10, Try.ntmps10
 go_upto_region 1 with fail
 rw [← hw0]
 clear hw0
 go_wp2_with fail
 refine (HEn.out w0 HG0.out).mono ?_
 rintro x w1 ⟨a, c, rfl, hes, hb1⟩
 have HG1 := keep hb1
 have HEs := keep hes
 clear p0 p1 p2 p3 p4 p5 hb1 hes HEn
 rcases hfa with ⟨rfl, rfl, _⟩ | ⟨rfl, _, _, h255⟩
 ·go_wp2_with fail
  go_ret3
  refine (HPo.out _ _).2 ⟨none, 0, ?_, ?_, Grow.trans HG0.out HG1.out⟩
  ·rw [HM.out, HL.out]; rfl
  ·rw [HL.out]; exact .inl ⟨rfl, rfl, _, _, rfl⟩
 ·go_wp2_with fail
  go_loopw [12, 28] (fun x i wr => HitRel L f w1 x i wr) (fun _ i _ => L.length - (intOf i).toNat)
  case atStart => exact show HitRel L f w1 _ _ _ from ⟨0, none, 0, Nat.zero_le _, rfl, rfl, keep (World.ownsRow_nil _ _ _ _), keep (Below.refl _ _)⟩
  case round =>
   obtain ⟨m, ra, rc, hm, rfl, rfl, HR, HGr⟩ := hrel
   have HG9 := keep (Grow.trans HG1.out HGr.out)
   by_cases hlt : m < L.length
   ·obtain ⟨ce, offe, cape, ee, hce⟩ := ens_at HEs.out hlt
    simp only [Value.slice.injEq] at ee
    obtain ⟨rfl, x1, x2⟩ := ee
    have hst := filter_step f L hlt
    obtain ⟨g, hgl⟩ : ∃ g, L[m] = g := ⟨_, rfl⟩
    rw [hgl] at hce hst
    obtain ⟨gk, gp, gs⟩ := g
    rw [HIn2.out] at hst
    have HSt := keep hst
    obtain ⟨c0, c1, c2⟩ := hce wr HGr.out
    have q2 : (m : Int) < (L.length : Int) := by omega
    have hfl : ((L.take m).filter f).length ≤ 255 := Nat.le_trans (List.length_filter_le _ _) (by rw [List.length_take]; omega)
    dsimp only at c0 c1 c2
    clear hce x1 x2 hst hgl
    generalize (L.take m).filter f = F at *
    go_upto_region 9 with fail
    obtain ⟨w5, hw5⟩ : ∃ w5, w5 = wr.alloc (.cells #[.string (str gk), .int .i64 gp, .int .i64 gs] 36) := ⟨_, rfl⟩
    rw [← hw5]
    have hg5 : Grow wr w5 := by subst hw5; exact (Grow.refl _).alloc _
    have hX5 : Blk w5 wr.heap.size 36 [.string (str gk), .int .i64 gp, .int .i64 gs] := by subst hw5; exact Blk.new wr _ [_, _, _]
    have HR5 := keep (HR.out.fits hg5)
    have HG5 := keep (Below.trans HGr.out (hg5.mono HGr.out.size))
    have HX5 := keep hX5
    have hcT := (HT0.out.fits (Grow.trans HG9.out hg5)).cell 0 (by simp)
    have HCt := keep hcT
    clear hw5 hg5 c0 c1 c2
    obtain ⟨c0, c1, c2, _⟩ := enres hX5
    clear hX5
    cases hb : Op.bytesLess gk fr with
    | true =>
     have hb2 : Op.bytesLess (str gk).toList (str fr).toList = true := by rw [str_list, str_list]; exact hb
     have HSt2 := keep (show (L.take (m + 1)).filter f = F by rw [HSt.out, hb]; simp)
     clear hb hcT
     go_wp2_with fail
     go_roundw
     case rel => exact show HitRel L f w1 _ _ _ from ⟨m + 1, ra, rc, by omega, by rw [HSt2.out], by first | go_num | simp, by rw [HSt2.out]; exact HR5, HG5⟩
     case measure => simp [intOf]; omega
    | false =>
     have hb2 : Op.bytesLess (str gk).toList (str fr).toList = false := by rw [str_list, str_list]; exact hb
     have hst2 : (L.take (m + 1)).filter f = F ++ (if belowB tt gk then [(gk, gp, gs)] else []) := by rw [HSt.out, hb]; simp
     have HSt2 := keep hst2
     have hbf := below_fn tt gk (w_.heap.size + 1) w5 HCt.out
     clear hb hst2
     generalize belowB tt gk = B at *
     have HBf := keep hbf
     clear hbf hcT
     go_wp2_with fail
     refine HBf.out.mono ?_
     rintro x w6 ⟨rfl, hb6⟩
     have HR6 := keep (HR5.out.fits hb6)
     have HG6 := keep (Below.trans HG5.out (hb6.mono HG5.out.size))
     have hX6 := HX5.out.fits hb6
     clear c0 c1 c2 hb6 hb2
     obtain ⟨c0, c1, c2, _⟩ := enres hX6
     have hxl := hX6.lt
     clear hX6
     cases B with
     | false =>
      have HSt3 := keep (show (L.take (m + 1)).filter f = F by rw [HSt2.out]; simp)
      go_wp2_with fail
      go_roundw
      case rel => exact show HitRel L f w1 _ _ _ from ⟨m + 1, ra, rc, by omega, by rw [HSt3.out], by first | go_num | simp, by rw [HSt3.out]; exact HR6, HG6⟩
      case measure => simp [intOf]; omega
     | true =>
      have HSt3 := keep (show (L.take (m + 1)).filter f = F ++ [(gk, gp, gs)] by rw [HSt2.out]; simp)
      have HS6 := keep HG6.out.size
      go_wp2_with ((at_builtin; go_must (refine wpList_push_en rfl _ _ rfl w1.heap.size F (gk, gp, gs) _ _ rfl rfl (HR6.out.fits ((Grow.refl _).alloc _)) (en_mark _ gk gp gs) (by omega) (by have := HS6.out; simp; omega) (n := F.length + 1) rfl rfl ?_); intro ra' rc' w7 hr7 hb7; have HR7 := keep hr7; have HG7 := keep (Below.trans HG6.out (Below.trans (((Grow.refl _).alloc _).mono HS6.out) hb7)); clear hr7 hb7))
      go_roundw
      case rel => exact show HitRel L f w1 _ _ _ from ⟨m + 1, ra', rc', by omega, by rw [HSt3.out, List.length_append]; rfl, by first | go_num | simp, by rw [HSt3.out, List.length_append]; exact HR7, HG7⟩
      case measure => simp [intOf]; omega
   ·have e : m = L.length := by omega
    subst e
    rw [List.take_length, ← HL.out] at HR
    rw [List.take_length, ← HL.out]
    have hP9 := HP0.out.fits HG9.out
    unfold pgCells at hP9
    obtain ⟨p0, p1, p2, p3, p4, p5, _⟩ := pgres hP9
    clear hP9
    by_cases hr : P.right = 0
    ·have HM2 := keep (show M = false by rw [HM.out, decide_eq_true hr]; simp)
     go_wp2_with fail
     go_ret3
     refine (HPo.out _ _).2 ⟨ra, rc, ?_, HR.out.ens, Grow.trans HG0.out HG9.out⟩
     rw [HM2.out]
     rfl
    ·have hm2 : M = belowB tt dk := by rw [HM.out, decide_eq_false hr]; simp
     have hbf := fun (u : World) (hu : Grow w0 u) => below_fn tt dk (w_.heap.size + 1) u ((HT0.out.fits hu).cell 0 (by simp))
     rw [← hm2] at hbf
     have HBf := keep hbf
     clear hbf hm2
     go_wp2_with fail
     refine (HDe.out wr).mono ?_
     rintro x w6 ⟨rfl, hb6⟩
     clear p0 p1 p2 p3 p4 p5 hr
     go_upto_region 15 with fail
     obtain ⟨w7, hw7⟩ : ∃ w7, w7 = w6.alloc (.cells #[.string (str dk), .int .i64 dp, .int .i64 ds] 36) := ⟨_, rfl⟩
     rw [← hw7]
     have hg7 : Grow wr w7 := by subst hw7; exact Grow.alloc hb6 _
     have hX7 : Blk w7 w6.heap.size 36 [.string (str dk), .int .i64 dp, .int .i64 ds] := by subst hw7; exact Blk.new w6 _ [_, _, _]
     have HG7 := keep (Grow.trans HG9.out hg7)
     have HR7 := keep (HR.out.fits hg7)
     clear hw7 hg7 hb6
     obtain ⟨c0, c1, c2, _⟩ := enres hX7
     clear hX7
     go_wp2_with fail
     refine (HBf.out w7 HG7.out).mono ?_
     rintro x w8 ⟨rfl, hb8⟩
     go_wp2_with fail
     go_ret3
     exact (HPo.out _ _).2 ⟨ra, rc, rfl, (HR7.out.fits hb8).ens, Grow.trans HG0.out (Grow.trans HG7.out hb8)⟩
end Go.Proofs.Ytaninphcgeaepaa
namespace Go.Proofs.Ytaninphcgeaepaa
open Go.RowKit
def IsC (C cs : List Value) (_ : World) : Prop := cs = C
theorem isC_lasts (C : List Value) (t : Nat) : Lasts t (IsC C) := fun _ _ _ _ h => h
theorem fill_sixteen {N b : Nat} {C : List Value} {u v : World} (h : Fill N 50 (IsC C) u v) (hb : ∃ cs : List Value, cs.length = 16 ∧ Blk u b 50 cs) : ∃ cs : List Value, cs.length = 16 ∧ Blk v b 50 cs := by
 obtain ⟨cs, h1, h2⟩ := hb
 obtain ⟨cs', h3, h4⟩ := h.some h2
 exact ⟨cs', h3.trans h1, h4⟩
theorem isC_stays {N b : Nat} {C : List Value} {u v : World} (h : Fill N 50 (IsC C) u v) (hb : Blk u b 50 C) : Blk v b 50 C := by
 rcases h.page b C hb with h1 | ⟨cs', _, h2, h1⟩
 ·exact h1
 ·rw [show cs' = C from h2] at h1; exact h1
theorem len16 {l : List Value} (h : l.length = 16) : ∃ a0 a1 a2 a3 a4 a5 a6 a7 a8 a9 a10 a11 a12 a13 a14 a15, l = [a0, a1, a2, a3, a4, a5, a6, a7, a8, a9, a10, a11, a12, a13, a14, a15] := by
 match l, h with
 | [a0, a1, a2, a3, a4, a5, a6, a7, a8, a9, a10, a11, a12, a13, a14, a15], _ => exact ⟨a0, a1, a2, a3, a4, a5, a6, a7, a8, a9, a10, a11, a12, a13, a14, a15, rfl⟩
def lk17 (j : Nat) : Nat := if j = 17 then 16 else j
end Go.Proofs.Ytaninphcgeaepaa
