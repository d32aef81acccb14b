import Derived.Test.YtmhepfehcakmjaaGreatKAy6
import Derived.Test.YtmhepfehcakmjaaGreatKOpn2
import Derived.Test.YtmhepfehcakmjaaGreatKRd3
import Derived.Test.YtmhepfehcakmjaaGreatKInv1
import Derived.Test.YtmhepfehcakmjaaGreatKQSame1
namespace Go.Proofs.YtmhepfehcakmjaaGreat
open Go.RowKit
attribute [local go_sem] givesV lookV knAt givesF_none givesF_some evalF_tmp evalF_const evalF_global evalF_func lookL isB_bool isB_undef givesUpon_value givesUpon_skip givesUpon_enter
theorem img_range {w : World} {T : Nat} {v : Value} {l : List Img} (h : Row w T v l.length (l.flatMap imC)) {k : Nat} (hk : k < l.length) : ∃ c off cap, v = .slice (some ⟨c, off, none⟩) l.length cap ∧ ∀ u, Grow w u → u.rangeAt c (off + k * 7) (imC l[k]) := by
 rcases h with ⟨h0, _⟩ | ⟨c, off, cap, e, h3⟩
 ·omega
 ·refine ⟨c, off, cap, e, fun u hu j x hx => ?_⟩
  obtain ⟨hj, rfl⟩ := List.getElem?_eq_some_iff.1 hx
  have hj7 : j < 7 := by simpa [imC] using hj
  have hlen := flat_length imC 7 imC_length l
  have hlt : k * 7 + j < (l.flatMap imC).length := by
   rw [hlen]
   have : (k + 1) * 7 ≤ l.length * 7 := Nat.mul_le_mul_right _ hk
   omega
  have h5 := flat_get imC 7 imC_length l k hk j hj7
  rw [List.getElem?_eq_getElem hlt, List.getElem?_eq_getElem hj] at h5
  have h6 := h3 _ hlt
  rw [Nat.add_assoc, Below.cell hu (World.block_lt_of_cell? w _ h6), h6]
  simpa using h5
theorem range_drop1 {u : World} {b o : Nat} {x : Value} {cs : List Value} (h : u.rangeAt b o (x :: cs)) : u.rangeAt b (o + 1) cs := by
 intro j v hv
 have := h (j + 1) v (by simpa using hv)
 rw [show o + 1 + j = o + (j + 1) by omega]
 exact this
set_option maxRecDepth 100000 in
set_option maxHeartbeats 4000000 in
theorem do1_any (m : Img) (n : Int) (cb : Nat) (w_ : World) (h : Blk w_ cb 3 [.int .i64 n]) : Calls Tryz.prog 25 #[.agg (imC m).toArray, .pointer (some ⟨cb, 0, none⟩)] w_ fun x w' => x = .returned (.bool (m.page == n)) ∧ Below w_.heap.size w_ w' := by
 obtain ⟨w0, hw0⟩ : ∃ w0, w0 = w_.alloc (.cells (imC m).toArray 44) := ⟨_, rfl⟩
 have hg0 : Grow w_ w0 := by subst hw0; exact (Grow.refl _).alloc _
 have hB : Blk w0 w_.heap.size 44 (imC m) := by subst hw0; exact Blk.new w_ _ _
 have c0 := (h.fits hg0).cell 0 (by simp)
 have b0 := hB.cell 0 (by simp [imC])
 simp only [imC, List.getElem_cons_zero] at c0 b0
 have HG := keep hg0
 unfold imC at hw0
 clear hg0 hB h
 unfold imC
 go_enter Tryz.func25, Tryz.ntmps25
 go_upto_region 1 with fail
 rw [← hw0]
 clear hw0
 go_wp2_with fail
 go_ret
 exact ⟨rfl, HG.out⟩
set_option maxRecDepth 100000 in
set_option maxHeartbeats 4000000 in
theorem indexImg_any (l : List Img) (v : Value) (n : Int) (cb : Nat) (w_ : World) (h : Row w_ 44 v l.length (l.flatMap imC)) (hb : Blk w_ cb 3 [.int .i64 n]) (hl : (l.length : Int) ≤ 17592186043904) :
  Calls Tryz.prog 24 #[v, .func (.func 25) #[] #[.pointer (some ⟨cb, 0, none⟩)]] w_ fun x w' => ((∃ k, ∃ hk : k < l.length, l.find? (fun m => m.page == n) = some l[k] ∧ x = .returned (.int .i64 (k : Nat))) ∨ (l.find? (fun m => m.page == n) = none ∧ x = .returned (.int .i64 (-1)))) ∧ Below w_.heap.size w_ w' := by
 obtain ⟨ia, ic, rfl⟩ := row_slice h
 have HI0 := keep h
 have HB := keep hb
 have HLl := keep hl
 have hcf : ∀ (args : Array Value) (u : World), (callFunc 25 args).run Tryz.prog u = .ok (.enter 25 args) u := fun _ _ => rfl
 clear h hb hl
 go_enter Tryz.func24, Tryz.ntmps24
 go_wp2_with fail
 go_loopw [8] (fun i wr => ∃ n' : Nat, n' ≤ l.length ∧ i = .int .i64 n' ∧ Kept (∀ m ∈ l.take n', (m.page == n) = false) ∧ Kept (Grow w_ wr)) (fun i _ => l.length - (intOf i).toNat)
 case atStart => exact ⟨0, Nat.zero_le _, rfl, keep (by simp), keep (Grow.refl _)⟩
 case round =>
  obtain ⟨k, hk, rfl, HA, HG⟩ := hrel
  by_cases hlt : k < l.length
  ·obtain ⟨c1, off1, cap1, e1, hc1⟩ := img_range HI0.out hlt
   simp only [Value.slice.injEq] at e1
   obtain ⟨rfl, -, rfl⟩ := e1
   have HRg := keep (hc1 wr HG.out)
   have ht : l.take (k + 1) = l.take k ++ [l[k]] := by rw [List.take_succ_eq_append_getElem hlt]
   have hfd : (l[k].page == n) = true → l.find? (fun m => m.page == n) = some l[k] := by
    intro hp
    rw [List.find?_eq_some_iff_append]
    refine ⟨hp, l.take k, l.drop (k + 1), ?_, fun a ha => by have := HA.out a ha; simp [this]⟩
    rw [← List.drop_eq_getElem_cons hlt, List.take_append_drop]
   have HLt := keep hlt
   have hd := do1_any l[k] n cb
   have HFd := keep hfd
   have HT := keep ht
   clear hc1 hfd ht
   generalize hle : l[k] = e at *
   have HD := keep (hd wr (HB.out.fits HG.out))
   have HLe := keep hle
   clear hd hle
   go_wp2_with (refine wpList_load_mid rfl _ _ rfl c1 (off1 + k * 7) rfl (imC e) _ HRg.out underImg (by kernel_rfl) (by rw [sizeImage]; rfl) ?_)
   refine HD.out.mono ?_
   rintro x w1 ⟨rfl, hb1⟩
   have HG1 := keep (Grow.trans HG.out hb1)
   clear hb1
   cases hp : (e.page == n) with
   | true =>
    have HFe := keep (HFd.out hp)
    clear hp
    go_wp2_with fail
    go_ret
    exact ⟨.inl ⟨k, HLt.out, by rw [HFe.out, HLe.out], rfl⟩, HG1.out⟩
   | false =>
    have HPf := keep hp
    have ew : wrap64 ((k : Int) + 1) = (k : Int) + 1 := by have h1 := HLt.out; have h2 := HLl.out; unfold wrap64; omega
    clear hp
    go_wp2_with fail
    go_roundw
    case rel => exact ⟨k + 1, by have := HLt.out; omega, by rw [ew]; rfl, keep (by
     rw [HT.out]
     intro x hx
     rcases List.mem_append.1 hx with hx | hx
     ·exact HA.out x hx
     ·have : x = e := by simpa using hx
      rw [this]; exact HPf.out), HG1⟩
    case measure => have := HLt.out; rw [ew]; simp [intOf]; omega
  ·have e : k = l.length := by omega
   subst e
   have HN := keep (show l.find? (fun m => m.page == n) = none by
    rw [List.find?_eq_none]
    intro x hx
    have := HA.out x (by rw [List.take_length]; exact hx)
    simp [this])
   go_wp2_with fail
   go_ret
   exact ⟨.inr ⟨HN.out, rfl⟩, HG.out⟩
def deedN (m : Int) (P : Pg) (R : Rc) : Pg × Int :=
 if R.kind = 1 then insD P R else if R.kind = 2 then markD P R else if R.kind = 6 then undoD P R else if R.kind = 3 then enterD P R else if R.kind = 4 then leaveD P R
 else if R.kind = 7 then setS m P R.xid 2 else if R.kind = 8 then setS m P R.xid 3 else if R.kind = 9 then cleanGo P R.slots else if R.kind = 10 then freezeD P R else cutS m P R.new
def hasDeed (k : Int) : Bool := decide (k = 1) || decide (k = 2) || decide (k = 6) || decide (k = 3) || decide (k = 4) || decide (k = 7) || decide (k = 8) || decide (k = 9) || decide (k = 10) || decide (k = 11)
def doN (m : Int) (P : Pg) (n : Int) (R : Rc) : Pg × Int :=
 match R.images.find? (fun x => x.page == n) with
 | some x => ({ x.body with lsn := R.lsn }, 0)
 | none => if hasDeed R.kind = false ∨ R.lsn ≤ P.lsn ∨ n ≠ R.page then (P, 0) else if (deedN m P R).2 ≠ 0 then (zeroP, (deedN m P R).2) else ({ (deedN m P R).1 with lsn := R.lsn }, 0)
def deedV (c2 c3 : Nat) (k : Int) : Value := (((deedL c2 c3).find? (fun p => p.1 == k)).map (·.2)).getD .nilFunc
theorem deed_no (c2 c3 : Nat) (k : Int) (h : hasDeed k = false) : deedV c2 c3 k = .nilFunc := by
 simp only [hasDeed, Bool.or_eq_false_iff, decide_eq_false_iff_not] at h
 obtain ⟨⟨⟨⟨⟨⟨⟨⟨⟨h1, h2⟩, h3⟩, h4⟩, h5⟩, h6⟩, h7⟩, h8⟩, h9⟩, h10⟩ := h
 have e : (deedL c2 c3).find? (fun p => p.1 == k) = none := by
  rw [List.find?_eq_none]
  intro p hp
  simp only [deedL, List.mem_cons, List.not_mem_nil, or_false] at hp
  rcases hp with rfl | rfl | rfl | rfl | rfl | rfl | rfl | rfl | rfl | rfl <;> simp <;> omega
 unfold deedV
 rw [e]
 rfl
def DoesV (m : Int) (R : Rc) (V : RcV) (fv : Value) (w : World) : Prop := ∃ (k : Nat) (cap : Array Value), (cap = #[] ∨ ∃ cb, cap = #[.pointer (some ⟨cb, 0, none⟩)]) ∧ fv = .func (.func k) #[] cap ∧ (∀ (args : Array Value) (u : World), (callFunc k args).run Tryz.prog u = .ok (.enter k args) u) ∧
 ∀ (P : Pg) (iv : Value) (u : World), Grow w u → PgIn u iv P → P.items.length ≤ 8796093021952 → RcIn u R V → Calls Tryz.prog k (#[.int .i64 m, pgV P iv, rcV R V] ++ cap) u (CpgPost (deedN m P R).1 (deedN m P R).2 u)
set_option maxRecDepth 100000 in
theorem deed_yes (m : Int) (R : Rc) (V : RcV) (c2 c3 : Nat) (w : World) (h : hasDeed R.kind = true) (h2 : Blk w c2 96 [.int .u8 2]) (h3 : Blk w c3 96 [.int .u8 3]) : DoesV m R V (deedV c2 c3 R.kind) w := by
 simp only [hasDeed, Bool.or_eq_true, decide_eq_true_eq] at h
 obtain ⟨kk, hkk⟩ : ∃ k, R.kind = k := ⟨_, rfl⟩
 have hd : ∀ (P : Pg), deedN m P R = if kk = 1 then insD P R else if kk = 2 then markD P R else if kk = 6 then undoD P R else if kk = 3 then enterD P R else if kk = 4 then leaveD P R
   else if kk = 7 then setS m P R.xid 2 else if kk = 8 then setS m P R.xid 3 else if kk = 9 then cleanGo P R.slots else if kk = 10 then freezeD P R else cutS m P R.new := by intro P; rw [← hkk]; rfl
 unfold DoesV
 simp only [hd]
 rw [hkk] at h ⊢
 clear hd hkk
 rcases h with ((((((((rfl | rfl) | rfl) | rfl) | rfl) | rfl) | rfl) | rfl) | rfl) | rfl
 ·exact ⟨_, _, .inl rfl, rfl, fun _ _ => rfl, fun P iv u hu h1 h4 h5 => insert16_any m P iv R V u h1 h4 h5⟩
 ·exact ⟨_, _, .inl rfl, rfl, fun _ _ => rfl, fun P iv u hu h1 h4 h5 => mark_any m P iv R V u h1 h4 h5⟩
 ·exact ⟨_, _, .inl rfl, rfl, fun _ _ => rfl, fun P iv u hu h1 h4 h5 => undo_any m P iv R V u h1 h4 h5⟩
 ·exact ⟨_, _, .inl rfl, rfl, fun _ _ => rfl, fun P iv u hu h1 h4 h5 => enter_any m P iv R V u h1 h4 h5⟩
 ·exact ⟨_, _, .inl rfl, rfl, fun _ _ => rfl, fun P iv u hu h1 h4 h5 => leave_any m P iv R V u h1 h4 h5⟩
 ·exact ⟨_, _, .inr ⟨_, rfl⟩, rfl, fun _ _ => rfl, fun P iv u hu h1 h4 h5 => settle1_any m P iv R V 2 (by decide) c2 u h1 (h2.fits hu)⟩
 ·exact ⟨_, _, .inr ⟨_, rfl⟩, rfl, fun _ _ => rfl, fun P iv u hu h1 h4 h5 => settle1_any m P iv R V 3 (by decide) c3 u h1 (h3.fits hu)⟩
 ·exact ⟨_, _, .inl rfl, rfl, fun _ _ => rfl, fun P iv u hu h1 h4 h5 => clean_any m P iv R V u h1 h4 h5⟩
 ·exact ⟨_, _, .inl rfl, rfl, fun _ _ => rfl, fun P iv u hu h1 h4 h5 => freeze16_any m P iv R V u h1 h4 h5⟩
 ·exact ⟨_, _, .inl rfl, rfl, fun _ _ => rfl, fun P iv u hu h1 h4 h5 => cut16_any m P iv R V u h1 h4 h5⟩
end Go.Proofs.YtmhepfehcakmjaaGreat
namespace Go.Proofs.YtmhepfehcakmjaaGreat
open Go.RowKit
attribute [local go_sem] givesV lookV knAt givesF_none givesF_some evalF_tmp evalF_const evalF_global evalF_func lookL isB_bool isB_undef givesUpon_value givesUpon_skip givesUpon_enter
theorem do_new (P : Pg) (iv : Value) (n : Int) (R : Rc) (V : RcV) (w_ w0 : World) (h : w0 = (((w_.alloc (.cells (pgCells P iv).toArray 24)).alloc (.cells #[.int .i64 n] 3)).alloc (.cells (rcC R V).toArray 33)).alloc (.cells #[.int .i64 0, .int .i64 0, .int .i64 0, .int .i64 0, .string ⟨#[]⟩, .slice none 0 0] 24)) :
  Grow w_ w0 ∧ Blk w0 w_.heap.size 24 (pgCells P iv) ∧ Blk w0 (w_.heap.size + 1) 3 [.int .i64 n] ∧ Blk w0 (w_.heap.size + 2) 33 (rcC R V) ∧ Blk w0 (w_.heap.size + 3) 24 [.int .i64 0, .int .i64 0, .int .i64 0, .int .i64 0, .string ⟨#[]⟩, .slice none 0 0] := by
 have e1 : (w_.alloc (.cells (pgCells P iv).toArray 24)).heap.size = w_.heap.size + 1 := by simp
 have e2 : ((w_.alloc (.cells (pgCells P iv).toArray 24)).alloc (.cells #[.int .i64 n] 3)).heap.size = w_.heap.size + 2 := by simp
 have e3 : (((w_.alloc (.cells (pgCells P iv).toArray 24)).alloc (.cells #[.int .i64 n] 3)).alloc (.cells (rcC R V).toArray 33)).heap.size = w_.heap.size + 3 := by simp
 refine ⟨?_, ?_, ?_, ?_, ?_⟩
 ·subst h; exact ((((Grow.refl w_).alloc _).alloc _).alloc _).alloc _
 ·subst h; exact (((Blk.new w_ _ _).alloc _).alloc _).alloc _
 ·have := Blk.new (w_.alloc (.cells (pgCells P iv).toArray 24)) 3 [.int .i64 n]
  rw [e1] at this
  subst h; exact (this.alloc _).alloc _
 ·have := Blk.new ((w_.alloc (.cells (pgCells P iv).toArray 24)).alloc (.cells #[.int .i64 n] 3)) 33 (rcC R V)
  rw [e2] at this
  subst h; exact this.alloc _
 ·have := Blk.new (((w_.alloc (.cells (pgCells P iv).toArray 24)).alloc (.cells #[.int .i64 n] 3)).alloc (.cells (rcC R V).toArray 33)) 24 [.int .i64 0, .int .i64 0, .int .i64 0, .int .i64 0, .string ⟨#[]⟩, .slice none 0 0]
  rw [e3] at this
  subst h; exact this
def Stamp (b : Nat) (l : List (List UInt8)) (u v : World) : Prop := But b u v ∧ ∀ a0 a1 a2 a3 a4 a5, Blk u b 24 [a0, a1, a2, a3, a4, a5] → ∃ c5, Blk v b 24 [a0, a1, a2, a3, a4, c5] ∧ (c5 = a5 ∨ ItemsS v c5 l)
theorem Stamp.refl {b : Nat} {l : List (List UInt8)} (u : World) : Stamp b l u u := ⟨But.refl b u, fun _ _ _ _ _ a5 h => ⟨a5, h, .inl rfl⟩⟩
theorem Stamp.trans {b : Nat} {l : List (List UInt8)} {u v w : World} (h : Stamp b l u v) (k : Stamp b l v w) : Stamp b l u w := by
 refine ⟨But.trans h.1 k.1, fun a0 a1 a2 a3 a4 a5 ha => ?_⟩
 obtain ⟨c5, hc, h5⟩ := h.2 _ _ _ _ _ _ ha
 obtain ⟨d5, hd, k5⟩ := k.2 _ _ _ _ _ _ hc
 refine ⟨d5, hd, ?_⟩
 rcases k5 with rfl | k5
 ·rcases h5 with rfl | h5
  ·exact .inl rfl
  ·exact .inr (h5.but k.1 (ne_blk hc (by decide)))
 ·exact .inr k5
theorem Stamp.grow {b : Nat} {l : List (List UInt8)} {u v : World} (h : Grow u v) : Stamp b l u v := ⟨but_grow h, fun _ _ _ _ _ a5 ha => ⟨a5, ha.fits h, .inl rfl⟩⟩
def HasB (b : Nat) (u : World) : Prop := ∃ a0 a1 a2 a3 a4 a5, Blk u b 24 [a0, a1, a2, a3, a4, a5]
theorem HasB.stamp {b : Nat} {l : List (List UInt8)} {u v : World} (h : Stamp b l u v) (k : HasB b u) : HasB b v := by
 obtain ⟨a0, a1, a2, a3, a4, a5, ha⟩ := k
 obtain ⟨c5, hc, _⟩ := h.2 _ _ _ _ _ _ ha
 exact ⟨_, _, _, _, _, _, hc⟩
theorem items_stamp {b : Nat} {l m : List (List UInt8)} {u v : World} {iv : Value} (h : Stamp b l u v) (k : HasB b u) (hi : ItemsS u iv m) : ItemsS v iv m := by
 obtain ⟨a0, a1, a2, a3, a4, a5, ha⟩ := k
 exact hi.but h.1 (ne_blk ha (by decide))
theorem cpg_eq {Z1 Q : Pg} {Z2 c : Int} {iv : Value} {w u : World} (h : (Z1, Z2) = (Q, c)) (hi : ItemsS u iv Q.items) (hb : Below w.heap.size w u) : CpgPost Z1 Z2 w (.returned (.tuple #[pgV Q iv, .int .i64 c])) u := by
 cases h
 exact ⟨_, rfl, hi, hb⟩
set_option maxRecDepth 100000 in
set_option maxHeartbeats 8000000 in
theorem do_any (m : Int) (P : Pg) (iv : Value) (n : Int) (R : Rc) (V : RcV) (w_ : World) (hin : PgIn w_ iv P) (hl : P.items.length ≤ 8796093021952) (hr : RcIn w_ R V) :
  Calls Tryz.prog 8 #[.int .i64 m, pgV P iv, .int .i64 n, rcV R V] w_ (CpgPost (doN m P n R).1 (doN m P n R).2 w_) := by
 obtain ⟨w0, hw0⟩ : ∃ w0, w0 = (((w_.alloc (.cells (pgCells P iv).toArray 24)).alloc (.cells #[.int .i64 n] 3)).alloc (.cells (rcC R V).toArray 33)).alloc (.cells #[.int .i64 0, .int .i64 0, .int .i64 0, .int .i64 0, .string ⟨#[]⟩, .slice none 0 0] 24) := ⟨_, rfl⟩
 obtain ⟨hg0, hP0, hN0, hC0, hZ0⟩ := do_new P iv n R V w_ w0 hw0
 obtain ⟨ia, ic, rfl⟩ := items_form hin.1
 obtain ⟨Z, hZ⟩ : ∃ Z, doN m P n R = Z := ⟨_, rfl⟩
 rw [hZ]
 have hix := indexImg_any R.images (.slice V.ia R.images.length V.ic) n (w_.heap.size + 1) w0 (Row.fits hr.imgs hg0) hN0 hr.imgl
 have HIx := keep hix
 have HIn := keep (hin.fits hg0)
 have HR := keep (hr.fits hg0)
 have HL := keep hl
 have HZe := keep hZ
 have HG0 := keep hg0
 have HP := keep (fun (u : World) (hu : Grow w0 u) => pgres (hP0.fits hu))
 have HC := keep (fun (u : World) (hu : Grow w0 u) => recres (hC0.fits hu))
 have HNb := keep hN0
 have HPb := keep hP0
 have HCb := keep hC0
 have HZ := keep hZ0
 have hlt := hZ0.lt
 unfold pgCells rcC at hw0
 have hmf : ∀ (fn : Fn) (first cap : Array Value) (w : World), (Instr.makeFunc fn first cap).run Tryz.prog w = .ok (.func fn first cap) w := fun _ _ _ _ => rfl
 clear hin hr hl hZ hg0 hP0 hC0 hZ0 hN0 hix
 obtain ⟨Z1, Z2⟩ := Z
 unfold pgV rcV
 go_enter Tryz.func8, Tryz.ntmps8
 go_upto_region 1 with fail
 rw [← hw0]
 clear hw0
 obtain ⟨⟨c0, c1, c2, c3, c4, c5, c6, c7, c8, c9, c10, c11, c12, c13, c14, c15⟩, _⟩ := HC.out w0 (Grow.refl _)
 go_wp2_with fail
 refine HIx.out.mono ?_
 rintro x w1 ⟨hcs, hb1⟩
 have HG1 := keep (show Grow w0 w1 from hb1)
 clear c0 c1 c2 c3 c4 c5 c6 c7 c8 c9 c10 c11 c12 c13 c14 c15 hb1 HIx
 rcases hcs with ⟨k, hk, hf, rfl⟩ | ⟨hf, rfl⟩
 ·have e1 : decide ((0 : Int) ≤ (k : Int)) = true := decide_eq_true (by omega)
  obtain ⟨c, off, cap, e5, hrg⟩ := img_range HR.out.imgs hk
  simp only [Value.slice.injEq] at e5
  obtain ⟨x1, -, x2⟩ := e5
  obtain ⟨⟨c0, c1, c2, c3, c4, c5, c6, c7, c8, c9, c10, c11, c12, c13, c14, c15⟩, _⟩ := HC.out w1 HG1.out
  rw [x1, x2] at c13
  have hev := HR.out.each R.images[k] (List.getElem_mem hk)
  have hrr := hrg w1 HG1.out
  have hz := HZe.out
  unfold doN at hz
  rw [hf] at hz
  generalize R.images[k] = im at *
  obtain ⟨ipg, body, biv⟩ := im
  dsimp only at hev hz
  obtain ⟨va, vc, e6⟩ := items_form hev.1.1
  subst e6
  have HRg := keep (range_drop1 (show w1.rangeAt c (off + k * 7) (.int .i64 ipg :: [.int .i64 body.lsn, .int .i64 body.kind, .int .i64 body.level, .int .i64 body.right, .string (str body.high), .slice va body.items.length vc]) from hrr))
  have HRes := keep hz.symm
  have HEv := keep hev
  clear hrg hrr hev hz hf x1 x2
  go_upto_region 4 with (refine wpList_load_mid rfl _ _ rfl c (off + k * 7 + 1) rfl _ _ HRg.out underPg (by kernel_rfl) (by rw [sizePage]; rfl) ?_)
  obtain ⟨w2, hw2⟩ : ∃ w2, w2 = w1.alloc (.cells #[.int .i64 body.lsn, .int .i64 body.kind, .int .i64 body.level, .int .i64 body.right, .string (str body.high), .slice va body.items.length vc] 24) := ⟨_, rfl⟩
  rw [← hw2]
  have hg2 : Grow w1 w2 := by subst hw2; exact (Grow.refl _).alloc _
  have hB2 : Blk w2 w1.heap.size 24 [.int .i64 body.lsn, .int .i64 body.kind, .int .i64 body.level, .int .i64 body.right, .string (str body.high), .slice va body.items.length vc] := by subst hw2; exact Blk.new w1 _ [_, _, _, _, _, _]
  have HG2 := keep (Grow.trans HG1.out hg2)
  have HB2 := keep hB2
  have hbq : w_.heap.size + 3 < w1.heap.size := by have h1 := HG1.out.size; omega
  have hb0 : w0.heap.size ≤ w1.heap.size := HG1.out.size
  generalize w1.heap.size = b at *
  have HCl := keep (fun (v : Value) (u : World) (hu : Items u v body.items) => clone_any v body.items u hu (by have := HEv.out.2; omega))
  have HIt := keep (fun (u : World) (hu : But b w2.drew u) => (show Items u (.slice va body.items.length vc) body.items from Row.fits HEv.out.1.1 (But.below (Grow.trans HG2.out (Grow.undrew (Grow.refl w2.drew))) hu (by have := HG0.out.size; omega) (Grow.trans HG2.out (Grow.undrew (Grow.refl w2.drew))).size)))
  have HCw := keep (fun (u : World) (hu : But b w2.drew u) => recres ((HCb.out.fits HG2.out).drew.but hu (by omega)))
  clear hw2 hg2 hB2 c0 c1 c2 c3 c4 c5 c6 c7 c8 c9 c10 c11 c12 c13 c14 c15
  refine rgx (N := 7) (by kernel_rfl) (Stamp b body.items) (Stamp.refl _) (fun _ _ _ => Stamp.trans) (by kernel_rfl) rfl rfl ?_
  intro a0 ha0
  have hsz : a0.tmps.size = 75 := (size_at ha0).trans rfl
  have s7 := slot_at ha0 7 rfl
  have s11 := slot_at ha0 11 rfl
  have HA0 := keep ha0
  clear ha0
  apply lxv hsz (Stamp.refl) (by kernel_rfl) rfl
  ·intro xs w hw K hK
   go_simp
   exact hK
  refine lxs hsz (fun v u => HasB b u ∧ (v = .slice va body.items.length vc ∨ ItemsS u v body.items)) (fun _ _ _ g h => ⟨h.1.stamp g, h.2.imp id fun k => items_stamp g h.1 k⟩) [] (by kernel_rfl) rfl ?_ ?_
  ·intro xs w hw hp K hK
   obtain ⟨c5, hB9, h5⟩ := hw.2 _ _ _ _ _ _ HB2.out.drew
   have q5 := hB9.cell 5 (by simp)
   simp only [List.getElem_cons_zero, List.getElem_cons_succ] at q5
   go_simp
   exact hK _ _ ⟨⟨_, _, _, _, _, _, hB9⟩, h5⟩ (Stamp.refl _)
  refine lxs hsz (fun v u => HasB b u ∧ ItemsS u v body.items) (fun _ _ _ g h => ⟨h.1.stamp g, items_stamp g h.1 h.2⟩) [(1, true)] (by kernel_rfl) rfl ?_ ?_
  ·intro xs w hw hp K hK
   simp only [hzv] at hp
   go_simp
   exact (HCl.out _ w (hp.2.elim (fun e => by rw [e]; exact HIt.out w hw.1) fun k => k.weak)).mono fun e w' ⟨v', h1, h2, h3⟩ => ⟨v', h1, hK _ _ ⟨hp.1.stamp (Stamp.grow (l := body.items) h3), (OwnS.items (l := body.items) h2).1⟩ (Stamp.grow h3)⟩
  apply lxv hsz (Stamp.refl) (by kernel_rfl) rfl
  ·intro xs w hw K hK
   go_simp
   exact hK
  apply lxv hsz (Stamp.refl) (by kernel_rfl) rfl
  ·intro xs w hw K hK
   obtain ⟨⟨c0, c1, c2, c3, c4, c5, c6, c7, c8, c9, c10, c11, c12, c13, c14, c15⟩, _⟩ := HCw.out w hw.1
   go_simp
   exact hK
  apply lxv hsz (Stamp.refl) (by kernel_rfl) rfl
  ·intro xs w hw K hK
   go_simp
   exact hK
  refine lxn hsz (fun u => ∃ c5, Blk u b 24 [.int .i64 body.lsn, .int .i64 body.kind, .int .i64 body.level, .int .i64 body.right, .string (str body.high), c5] ∧ ItemsS u c5 body.items) (fun u v g ⟨c5, h1, h2⟩ => (g.2 _ _ _ _ _ _ h1).elim fun d5 hd => ⟨d5, hd.1, hd.2.elim (fun e => by rw [e]; exact h2.but g.1 (ne_blk h1 (by decide))) id⟩) [(2, true)] (by kernel_rfl) rfl ?_ ?_
  ·intro xs w hw hp K hK
   simp only [hzv] at hp
   obtain ⟨c5, hB9, h5⟩ := hw.2 _ _ _ _ _ _ HB2.out.drew
   obtain ⟨a9, c9, h29⟩ := itemsS_form hp.2
   have hi9 := hp.2
   rw [h29] at hi9
   have q5 := hB9.cell 5 (by simp)
   simp only [List.getElem_cons_zero, List.getElem_cons_succ] at q5
   have z5 := hB9.free 5
   have hs5 := hB9.set 5 (.slice a9 body.items.length c9)
   simp only [List.set_cons_succ, List.set_cons_zero] at hs5
   have hk5 := (But.refl b w).setCell 5 (.slice a9 body.items.length c9)
   have Hs5 := keep hs5
   have Hk5 := keep hk5
   have Hi5 := keep (hi9.but hk5 (ne_blk hB9 (by decide)))
   clear hs5 hk5 hi9 hB9 h5
   go_simp
   exact hK _ _ ⟨_, Hs5.out, Hi5.out⟩ ⟨Hk5.out, fun _ _ _ _ _ _ ha => ⟨_, by have hs := ha.set 5 (.slice a9 body.items.length c9); simp only [List.set_cons_succ, List.set_cons_zero] at hs; exact hs, .inr Hi5.out⟩⟩
  refine rgd [(6, false)] (by kernel_rfl) rfl ?_
  intro xs w hw hp
  have ha0 := HA0.out
  clear HA0 hsz s7 s11
  simp only [hzv] at hp
  have hq6 := hp
  clear hp
  subst ha0
  simp only [putV]
  obtain ⟨c5', hq, hi⟩ := hq6
  have hu9 := But.below (Grow.trans HG2.out (Grow.undrew (Grow.refl w2.drew))) hw.1 hb0 (Grow.trans HG2.out (Grow.undrew (Grow.refl w2.drew))).size
  obtain ⟨a9, c9, rfl⟩ := itemsS_form hi
  have HG4 := keep hu9
  have HJ4 := keep hi
  have hQ5 := hq.set 0 (.int .i64 R.lsn)
  have hk5 := (But.refl b w).setCell 0 (.int .i64 R.lsn)
  have hj5 := hi.but hk5 (ne_blk hq (by decide))
  have hz5 := (HZ.out.below hu9 (by omega)).but hk5 (by omega)
  simp only [List.set_cons_zero] at hQ5
  obtain ⟨p0, p1, p2, p3, p4, p5, f0, f1, f2, f3, f4, f5⟩ := pgres hq
  obtain ⟨⟨c0, c1, c2, c3, c4, c5, c6, c7, c8, c9, c10, c11, c12, c13, c14, c15⟩, _⟩ := HC.out w hu9
  clear hq hi hw hu9 HCw HIt HCl
  simp only [List.drop_succ_cons, List.drop_zero]
  go_frame
  go_upto_region 5 with fail
  obtain ⟨w5, hw5⟩ : ∃ w5, w5 = w.setCell ⟨b, 0, none⟩ (.int .i64 R.lsn) := ⟨_, rfl⟩
  rw [← hw5]
  rw [← hw5] at hQ5 hk5 hj5 hz5
  have hGz := But.below (Grow.trans HG0.out HG4.out) hk5 (by omega) (Grow.trans HG0.out HG4.out).size
  have HJ5 := keep hj5
  have HZx := keep hz5
  have HGz := keep hGz
  clear hw5 hk5 hj5 hz5 hGz p0 p1 p2 p3 p4 p5 c0 c1 c2 c3 c4 c5 c6 c7 c8 c9 c10 c11 c12 c13 c14 c15 f0 f1 f2 f3 f4 f5
  obtain ⟨p0, p1, p2, p3, p4, p5, f0, f1, f2, f3, f4, f5⟩ := pgres hQ5
  clear hQ5
  go_wp2_with ((refine wpList_store_box sizePage rfl _ _ rfl (w_.heap.size + 3) _ rfl rfl HZx.out rfl rfl rfl ?_); intro wz hset hbz; have Hset := keep hset; have Hbut := keep hbz; clear hset hbz)
  refine bodyPost_ret (v := .tuple #[pgV ({ body with lsn := R.lsn } : Pg) (.slice a9 body.items.length c9), .int .i64 (0)]) ?_ rfl (cpg_eq HRes.out (HJ5.out.but Hbut.out (ne_blk HZx.out (by decide))) (But.below HGz.out Hbut.out (by omega) HGz.out.size))
  exact deed_res Tryz.results8 _ _ _ _ ({ body with lsn := R.lsn } : Pg) _ rfl rfl Hset.out
 ·have hz := HZe.out
  unfold doN at hz
  rw [hf] at hz
  dsimp only at hz
  have HY0 := keep hz
  clear hf hz
  go_upto_region 6 with fail
  refine rgv 3 (by kernel_rfl) (by kernel_rfl) rfl rfl ?_
  intro a0 ha0
  have hsz : a0.tmps.size = 75 := (size_at ha0).trans rfl
  have s7 := slot_at ha0 7 rfl
  have HA0 := keep ha0
  clear ha0
  refine lxs hsz (fun v u => ∃ r c2 c3, v = .map (some r) ∧ KMap u r (deedL c2 c3) ∧ Blk u c2 96 [.int .u8 2] ∧ Blk u c3 96 [.int .u8 3]) (fun _ _ _ g ⟨r, c2, c3, h1, h2, h3, h4⟩ => ⟨r, c2, c3, h1, h2.fits g, h3.fits g, h4.fits g⟩) [] (by kernel_rfl) rfl ?_ ?_
  ·intro xs w hw hp K hK
   go_simp
   refine (deeds_any w).mono ?_
   rintro e w' ⟨r, c2, c3, rfl, h2, h3, h4, h5⟩
   exact ⟨_, rfl, hK _ _ ⟨r, c2, c3, rfl, h2, h3, h4⟩ h5⟩
  apply lxv hsz Grow.refl (by kernel_rfl) rfl
  ·intro xs w hw K hK
   go_simp
   exact hK
  apply lxv hsz Grow.refl (by kernel_rfl) rfl
  ·intro xs w hw K hK
   obtain ⟨⟨c0, c1, c2, c3, c4, c5, c6, c7, c8, c9, c10, c11, c12, c13, c14, c15⟩, _⟩ := HC.out w (Grow.trans HG1.out hw.undrew)
   go_simp
   exact hK
  refine rgd [(0, true)] (by kernel_rfl) rfl ?_
  intro xs w hw hp
  have ha0 := HA0.out
  clear HA0 hsz s7
  simp only [hzv] at hp
  have hd := hp
  clear hp
  subst ha0
  simp only [putV]
  obtain ⟨r, k2, k3, h0, hkm, hs2, hs3⟩ := hd
  have HG2 := keep (Grow.trans HG1.out hw.undrew)
  rw [h0]
  have hlk := run_look_k hkm R.kind
  obtain ⟨fv, hfv⟩ : ∃ fv, (((deedL k2 k3).find? (fun p => p.1 == R.kind)).map (·.2)).getD .nilFunc = fv := ⟨_, rfl⟩
  rw [hfv] at hlk
  generalize w = w2 at *
  clear hw hkm h0 HG1
  obtain ⟨⟨c0, c1, c2, c3, c4, c5, c6, c7, c8, c9, c10, c11, c12, c13, c14, c15⟩, _⟩ := HC.out w2 HG2.out
  obtain ⟨p0, p1, p2, p3, p4, p5, _⟩ := HP.out w2 HG2.out
  have hn2 := (HNb.out.fits HG2.out).cell 0 (by simp)
  simp only [List.getElem_cons_zero] at hn2
  simp only [List.drop_succ_cons, List.drop_zero]
  go_frame
  cases hhd : hasDeed R.kind with
  | false =>
   have hnil := deed_no k2 k3 R.kind hhd
   unfold deedV at hnil
   rw [hfv] at hnil
   subst hnil
   have HRes := keep (show (Z1, Z2) = (P, 0) by rw [← HY0.out, if_pos (.inl hhd)])
   have hnf : ∀ w : World, (binOp .eql 82 .nilFunc .nilFunc).run Tryz.prog w = .ok (.bool true) w := fun _ => rfl
   clear hfv hs2 hs3
   go_upto_region 8 with fail
   clear p0 p1 p2 p3 p4 p5 c0 c1 c2 c3 c4 c5 c6 c7 c8 c9 c10 c11 c12 c13 c14 c15 hlk hn2
   obtain ⟨p0, p1, p2, p3, p4, p5, _⟩ := HP.out w2 HG2.out
   have HCl := keep (clone_any (.slice ia P.items.length ic) P.items w2 (Row.fits HIn.out.1 HG2.out) (by have := HL.out; omega))
   go_wp2_with fail
   refine HCl.out.mono ?_
   rintro y w4 ⟨v', rfl, ho, hb4⟩
   have ho : OwnS w2.heap.size w4 v' P.items := ho
   obtain ⟨a', c', rfl⟩ := ho.form
   have HG4 := keep (Grow.trans HG2.out hb4)
   have hP4 := HPb.out.fits HG4.out
   have hP5 := hP4.set 5 (.slice a' P.items.length c')
   have hk5 := (But.refl w_.heap.size w4).setCell 5 (.slice a' P.items.length c')
   have hj5 := ho.items.1.but hk5 (ne_blk hP4 (by decide))
   have hz5 := (HZ.out.fits HG4.out).but hk5 (by omega)
   have hGz := But.below (Grow.trans HG0.out HG4.out) hk5 (Nat.le_refl _) (Grow.trans HG0.out HG4.out).size
   unfold pgCells at hP4 hP5
   simp only [List.set_cons_succ, List.set_cons_zero] at hP5
   clear p0 p1 p2 p3 p4 p5 hb4 ho HCl
   obtain ⟨p0, p1, p2, p3, p4, p5, f0, f1, f2, f3, f4, f5⟩ := pgres hP4
   go_upto_region 9 with fail
   obtain ⟨w5, hw5⟩ : ∃ w5, w5 = w4.setCell ⟨w_.heap.size, 5, none⟩ (.slice a' P.items.length c') := ⟨_, rfl⟩
   rw [← hw5]
   rw [← hw5] at hP5 hk5 hj5 hz5 hGz
   have HJ5 := keep hj5
   have HZx := keep hz5
   have HGz := keep hGz
   clear hw5 hk5 hj5 hz5 hGz hP4 p0 p1 p2 p3 p4 p5 f0 f1 f2 f3 f4 f5
   obtain ⟨p0, p1, p2, p3, p4, p5, f0, f1, f2, f3, f4, f5⟩ := pgres hP5
   clear hP5
   go_wp2_with ((refine wpList_store_box sizePage rfl _ _ rfl (w_.heap.size + 3) _ rfl rfl HZx.out rfl rfl rfl ?_); intro wz hset hbz; have Hset := keep hset; have Hbut := keep hbz; clear hset hbz)
   refine bodyPost_ret (v := .tuple #[pgV P (.slice a' P.items.length c'), .int .i64 (0)]) ?_ rfl (cpg_eq HRes.out (HJ5.out.but Hbut.out (ne_blk HZx.out (by decide))) (But.below HGz.out Hbut.out (by omega) HGz.out.size))
   exact deed_res Tryz.results8 _ _ _ _ P _ rfl rfl Hset.out
  | true =>
   obtain ⟨fk, cp, hcp, hv, hcf, hde⟩ := deed_yes m R V k2 k3 w2 hhd hs2 hs3
   unfold deedV at hv
   rw [hfv] at hv
   subst hv
   have hnf : ∀ w : World, (binOp .eql 82 (.func (.func fk) #[] cp) .nilFunc).run Tryz.prog w = .ok (.bool false) w := fun _ => rfl
   clear hfv hs2 hs3
   by_cases hA : R.lsn ≤ P.lsn
   ·have e1 : decide (R.lsn ≤ P.lsn) = true := decide_eq_true hA
    have HRes := keep (show (Z1, Z2) = (P, 0) by rw [← HY0.out, if_pos (.inr (.inl hA))])
    clear hA hde hcf
    go_upto_region 8 with fail
    clear p0 p1 p2 p3 p4 p5 c0 c1 c2 c3 c4 c5 c6 c7 c8 c9 c10 c11 c12 c13 c14 c15 hlk hn2
    obtain ⟨p0, p1, p2, p3, p4, p5, _⟩ := HP.out w2 HG2.out
    have HCl := keep (clone_any (.slice ia P.items.length ic) P.items w2 (Row.fits HIn.out.1 HG2.out) (by have := HL.out; omega))
    go_wp2_with fail
    refine HCl.out.mono ?_
    rintro y w4 ⟨v', rfl, ho, hb4⟩
    have ho : OwnS w2.heap.size w4 v' P.items := ho
    obtain ⟨a', c', rfl⟩ := ho.form
    have HG4 := keep (Grow.trans HG2.out hb4)
    have hP4 := HPb.out.fits HG4.out
    have hP5 := hP4.set 5 (.slice a' P.items.length c')
    have hk5 := (But.refl w_.heap.size w4).setCell 5 (.slice a' P.items.length c')
    have hj5 := ho.items.1.but hk5 (ne_blk hP4 (by decide))
    have hz5 := (HZ.out.fits HG4.out).but hk5 (by omega)
    have hGz := But.below (Grow.trans HG0.out HG4.out) hk5 (Nat.le_refl _) (Grow.trans HG0.out HG4.out).size
    unfold pgCells at hP4 hP5
    simp only [List.set_cons_succ, List.set_cons_zero] at hP5
    clear p0 p1 p2 p3 p4 p5 hb4 ho HCl
    obtain ⟨p0, p1, p2, p3, p4, p5, f0, f1, f2, f3, f4, f5⟩ := pgres hP4
    go_upto_region 9 with fail
    obtain ⟨w5, hw5⟩ : ∃ w5, w5 = w4.setCell ⟨w_.heap.size, 5, none⟩ (.slice a' P.items.length c') := ⟨_, rfl⟩
    rw [← hw5]
    rw [← hw5] at hP5 hk5 hj5 hz5 hGz
    have HJ5 := keep hj5
    have HZx := keep hz5
    have HGz := keep hGz
    clear hw5 hk5 hj5 hz5 hGz hP4 p0 p1 p2 p3 p4 p5 f0 f1 f2 f3 f4 f5
    obtain ⟨p0, p1, p2, p3, p4, p5, f0, f1, f2, f3, f4, f5⟩ := pgres hP5
    clear hP5
    go_wp2_with ((refine wpList_store_box sizePage rfl _ _ rfl (w_.heap.size + 3) _ rfl rfl HZx.out rfl rfl rfl ?_); intro wz hset hbz; have Hset := keep hset; have Hbut := keep hbz; clear hset hbz)
    refine bodyPost_ret (v := .tuple #[pgV P (.slice a' P.items.length c'), .int .i64 (0)]) ?_ rfl (cpg_eq HRes.out (HJ5.out.but Hbut.out (ne_blk HZx.out (by decide))) (But.below HGz.out Hbut.out (by omega) HGz.out.size))
    exact deed_res Tryz.results8 _ _ _ _ P _ rfl rfl Hset.out
   ·have e1 : decide (R.lsn ≤ P.lsn) = false := decide_eq_false hA
    by_cases hB : n = R.page
    ·have e2 : (n != R.page) = false := by simp [hB]
     have hy := HY0.out
     rw [if_neg (fun h => h.elim (fun h => by rw [hhd] at h; cases h) fun h => h.elim hA fun h => h hB)] at hy
     have HY := keep hy
     have hca := hde P (.slice ia P.items.length ic) w2 (Grow.refl _) (HIn.out.fits HG2.out) HL.out (HR.out.fits HG2.out)
     generalize deedN m P R = D at *
     obtain ⟨D1, D2⟩ := D
     unfold CpgPost pgV rcV at hca
     have HCb2 := keep (HCb.out.fits HG2.out)
     unfold rcC at HCb2
     clear hA hB hy hde
     rcases hcp with rfl | ⟨cb, rfl⟩
     ·have HCall := keep hca
      clear hca
      go_upto_region 10 with fail
      clear hlk hn2
      go_wp2_with (refine wpList_load_box sizeRecord underRec (by kernel_rfl) rfl _ rfl (w_.heap.size + 2) rfl HCb2.out rfl ?_)
      refine HCall.out.mono ?_
      rintro y w3 ⟨jv, rfl, hj, hb3⟩
      obtain ⟨ja, jc, rfl⟩ := itemsS_form hj
      clear p0 p1 p2 p3 p4 p5 c0 c1 c2 c3 c4 c5 c6 c7 c8 c9 c10 c11 c12 c13 c14 c15 HCall
      go_upto_region 11 with fail
      obtain ⟨w4, hw4⟩ : ∃ w4, w4 = w3.alloc (.cells #[.int .i64 D1.lsn, .int .i64 D1.kind, .int .i64 D1.level, .int .i64 D1.right, .string (str D1.high), .slice ja D1.items.length jc] 24) := ⟨_, rfl⟩
      rw [← hw4]
      have hg4 : Grow w3 w4 := by subst hw4; exact (Grow.refl _).alloc _
      have hQ4 : Blk w4 w3.heap.size 24 (pgCells D1 (.slice ja D1.items.length jc)) := by subst hw4; exact Blk.new w3 _ [_, _, _, _, _, _]
      have HG4 := keep (Grow.trans HG2.out (Grow.trans hb3 hg4))
      have HJ4 := keep (RowS.fits hj hg4)
      have hbq : w_.heap.size + 3 < w3.heap.size := by have h1 := HG2.out.size; have h3 := hb3.size; omega
      have HQ4 := keep hQ4
      generalize w3.heap.size = b at *
      clear hw4 hg4 hQ4 hb3 hj
      by_cases hcd : D2 = 0
      ·subst hcd
       have HRes := keep (show (Z1, Z2) = (({ D1 with lsn := R.lsn } : Pg), 0) by rw [← HY.out, if_neg (by simp)])
       obtain ⟨⟨c0, c1, c2, c3, c4, c5, c6, c7, c8, c9, c10, c11, c12, c13, c14, c15⟩, _⟩ := HC.out w4 HG4.out
       have hQ5 := HQ4.out.set 0 (.int .i64 R.lsn)
       have hk5 := (But.refl b w4).setCell 0 (.int .i64 R.lsn)
       have hj5 := HJ4.out.but hk5 (ne_blk HQ4.out (by decide))
       have hz5 := (HZ.out.fits HG4.out).but hk5 (by omega)
       have hq4 := HQ4.out
       unfold pgCells at hq4 hQ5
       simp only [List.set_cons_zero] at hQ5
       obtain ⟨p0, p1, p2, p3, p4, p5, f0, f1, f2, f3, f4, f5⟩ := pgres hq4
       clear hq4
       go_upto_region 14 with fail
       obtain ⟨w5, hw5⟩ : ∃ w5, w5 = w4.setCell ⟨b, 0, none⟩ (.int .i64 R.lsn) := ⟨_, rfl⟩
       rw [← hw5]
       rw [← hw5] at hQ5 hk5 hj5 hz5
       have hGz := But.below (Grow.trans HG0.out HG4.out) hk5 (by omega) (Grow.trans HG0.out HG4.out).size
       have HJ5 := keep hj5
       have HZx := keep hz5
       have HGz := keep hGz
       clear hw5 hk5 hj5 hz5 hGz p0 p1 p2 p3 p4 p5 c0 c1 c2 c3 c4 c5 c6 c7 c8 c9 c10 c11 c12 c13 c14 c15 f0 f1 f2 f3 f4 f5
       obtain ⟨p0, p1, p2, p3, p4, p5, f0, f1, f2, f3, f4, f5⟩ := pgres hQ5
       clear hQ5
       go_wp2_with ((refine wpList_store_box sizePage rfl _ _ rfl (w_.heap.size + 3) _ rfl rfl HZx.out rfl rfl rfl ?_); intro wz hset hbz; have Hset := keep hset; have Hbut := keep hbz; clear hset hbz)
       refine bodyPost_ret (v := .tuple #[pgV ({ D1 with lsn := R.lsn } : Pg) (.slice ja D1.items.length jc), .int .i64 (0)]) ?_ rfl (cpg_eq HRes.out (HJ5.out.but Hbut.out (ne_blk HZx.out (by decide))) (But.below HGz.out Hbut.out (by omega) HGz.out.size))
       exact deed_res Tryz.results8 _ _ _ _ ({ D1 with lsn := R.lsn } : Pg) _ rfl rfl Hset.out
      ·have e6 : (D2 != 0) = true := by simpa using hcd
       have HRes := keep (show (Z1, Z2) = (zeroP, D2) by rw [← HY.out, if_pos hcd])
       have HZx := keep (HZ.out.fits HG4.out)
       clear hcd
       go_wp2_with ((refine wpList_store_box sizePage rfl _ _ rfl (w_.heap.size + 3) _ rfl rfl HZx.out rfl rfl rfl ?_); intro wz hset hbz; have Hset := keep hset; have Hbut := keep hbz; clear hset hbz)
       refine bodyPost_ret (v := .tuple #[pgV zeroP (.slice none 0 0), .int .i64 D2]) ?_ rfl (cpg_zero HRes.out (But.below (Grow.trans HG0.out HG4.out) Hbut.out (by omega) (Grow.trans HG0.out HG4.out).size))
       exact deed_res Tryz.results8 _ _ _ _ zeroP _ rfl rfl Hset.out
     ·have HCall := keep hca
      clear hca
      go_upto_region 10 with fail
      clear hlk hn2
      go_wp2_with (refine wpList_load_box sizeRecord underRec (by kernel_rfl) rfl _ rfl (w_.heap.size + 2) rfl HCb2.out rfl ?_)
      refine HCall.out.mono ?_
      rintro y w3 ⟨jv, rfl, hj, hb3⟩
      obtain ⟨ja, jc, rfl⟩ := itemsS_form hj
      clear p0 p1 p2 p3 p4 p5 c0 c1 c2 c3 c4 c5 c6 c7 c8 c9 c10 c11 c12 c13 c14 c15 HCall
      go_upto_region 11 with fail
      obtain ⟨w4, hw4⟩ : ∃ w4, w4 = w3.alloc (.cells #[.int .i64 D1.lsn, .int .i64 D1.kind, .int .i64 D1.level, .int .i64 D1.right, .string (str D1.high), .slice ja D1.items.length jc] 24) := ⟨_, rfl⟩
      rw [← hw4]
      have hg4 : Grow w3 w4 := by subst hw4; exact (Grow.refl _).alloc _
      have hQ4 : Blk w4 w3.heap.size 24 (pgCells D1 (.slice ja D1.items.length jc)) := by subst hw4; exact Blk.new w3 _ [_, _, _, _, _, _]
      have HG4 := keep (Grow.trans HG2.out (Grow.trans hb3 hg4))
      have HJ4 := keep (RowS.fits hj hg4)
      have hbq : w_.heap.size + 3 < w3.heap.size := by have h1 := HG2.out.size; have h3 := hb3.size; omega
      have HQ4 := keep hQ4
      generalize w3.heap.size = b at *
      clear hw4 hg4 hQ4 hb3 hj
      by_cases hcd : D2 = 0
      ·subst hcd
       have HRes := keep (show (Z1, Z2) = (({ D1 with lsn := R.lsn } : Pg), 0) by rw [← HY.out, if_neg (by simp)])
       obtain ⟨⟨c0, c1, c2, c3, c4, c5, c6, c7, c8, c9, c10, c11, c12, c13, c14, c15⟩, _⟩ := HC.out w4 HG4.out
       have hQ5 := HQ4.out.set 0 (.int .i64 R.lsn)
       have hk5 := (But.refl b w4).setCell 0 (.int .i64 R.lsn)
       have hj5 := HJ4.out.but hk5 (ne_blk HQ4.out (by decide))
       have hz5 := (HZ.out.fits HG4.out).but hk5 (by omega)
       have hq4 := HQ4.out
       unfold pgCells at hq4 hQ5
       simp only [List.set_cons_zero] at hQ5
       obtain ⟨p0, p1, p2, p3, p4, p5, f0, f1, f2, f3, f4, f5⟩ := pgres hq4
       clear hq4
       go_upto_region 14 with fail
       obtain ⟨w5, hw5⟩ : ∃ w5, w5 = w4.setCell ⟨b, 0, none⟩ (.int .i64 R.lsn) := ⟨_, rfl⟩
       rw [← hw5]
       rw [← hw5] at hQ5 hk5 hj5 hz5
       have hGz := But.below (Grow.trans HG0.out HG4.out) hk5 (by omega) (Grow.trans HG0.out HG4.out).size
       have HJ5 := keep hj5
       have HZx := keep hz5
       have HGz := keep hGz
       clear hw5 hk5 hj5 hz5 hGz p0 p1 p2 p3 p4 p5 c0 c1 c2 c3 c4 c5 c6 c7 c8 c9 c10 c11 c12 c13 c14 c15 f0 f1 f2 f3 f4 f5
       obtain ⟨p0, p1, p2, p3, p4, p5, f0, f1, f2, f3, f4, f5⟩ := pgres hQ5
       clear hQ5
       go_wp2_with ((refine wpList_store_box sizePage rfl _ _ rfl (w_.heap.size + 3) _ rfl rfl HZx.out rfl rfl rfl ?_); intro wz hset hbz; have Hset := keep hset; have Hbut := keep hbz; clear hset hbz)
       refine bodyPost_ret (v := .tuple #[pgV ({ D1 with lsn := R.lsn } : Pg) (.slice ja D1.items.length jc), .int .i64 (0)]) ?_ rfl (cpg_eq HRes.out (HJ5.out.but Hbut.out (ne_blk HZx.out (by decide))) (But.below HGz.out Hbut.out (by omega) HGz.out.size))
       exact deed_res Tryz.results8 _ _ _ _ ({ D1 with lsn := R.lsn } : Pg) _ rfl rfl Hset.out
      ·have e6 : (D2 != 0) = true := by simpa using hcd
       have HRes := keep (show (Z1, Z2) = (zeroP, D2) by rw [← HY.out, if_pos hcd])
       have HZx := keep (HZ.out.fits HG4.out)
       clear hcd
       go_wp2_with ((refine wpList_store_box sizePage rfl _ _ rfl (w_.heap.size + 3) _ rfl rfl HZx.out rfl rfl rfl ?_); intro wz hset hbz; have Hset := keep hset; have Hbut := keep hbz; clear hset hbz)
       refine bodyPost_ret (v := .tuple #[pgV zeroP (.slice none 0 0), .int .i64 D2]) ?_ rfl (cpg_zero HRes.out (But.below (Grow.trans HG0.out HG4.out) Hbut.out (by omega) (Grow.trans HG0.out HG4.out).size))
       exact deed_res Tryz.results8 _ _ _ _ zeroP _ rfl rfl Hset.out
    ·have e2 : (n != R.page) = true := by simp [hB]
     have HRes := keep (show (Z1, Z2) = (P, 0) by rw [← HY0.out, if_pos (.inr (.inr hB))])
     clear hA hB hde hcf
     go_upto_region 8 with fail
     clear p0 p1 p2 p3 p4 p5 c0 c1 c2 c3 c4 c5 c6 c7 c8 c9 c10 c11 c12 c13 c14 c15 hlk hn2
     obtain ⟨p0, p1, p2, p3, p4, p5, _⟩ := HP.out w2 HG2.out
     have HCl := keep (clone_any (.slice ia P.items.length ic) P.items w2 (Row.fits HIn.out.1 HG2.out) (by have := HL.out; omega))
     go_wp2_with fail
     refine HCl.out.mono ?_
     rintro y w4 ⟨v', rfl, ho, hb4⟩
     have ho : OwnS w2.heap.size w4 v' P.items := ho
     obtain ⟨a', c', rfl⟩ := ho.form
     have HG4 := keep (Grow.trans HG2.out hb4)
     have hP4 := HPb.out.fits HG4.out
     have hP5 := hP4.set 5 (.slice a' P.items.length c')
     have hk5 := (But.refl w_.heap.size w4).setCell 5 (.slice a' P.items.length c')
     have hj5 := ho.items.1.but hk5 (ne_blk hP4 (by decide))
     have hz5 := (HZ.out.fits HG4.out).but hk5 (by omega)
     have hGz := But.below (Grow.trans HG0.out HG4.out) hk5 (Nat.le_refl _) (Grow.trans HG0.out HG4.out).size
     unfold pgCells at hP4 hP5
     simp only [List.set_cons_succ, List.set_cons_zero] at hP5
     clear p0 p1 p2 p3 p4 p5 hb4 ho HCl
     obtain ⟨p0, p1, p2, p3, p4, p5, f0, f1, f2, f3, f4, f5⟩ := pgres hP4
     go_upto_region 9 with fail
     obtain ⟨w5, hw5⟩ : ∃ w5, w5 = w4.setCell ⟨w_.heap.size, 5, none⟩ (.slice a' P.items.length c') := ⟨_, rfl⟩
     rw [← hw5]
     rw [← hw5] at hP5 hk5 hj5 hz5 hGz
     have HJ5 := keep hj5
     have HZx := keep hz5
     have HGz := keep hGz
     clear hw5 hk5 hj5 hz5 hGz hP4 p0 p1 p2 p3 p4 p5 f0 f1 f2 f3 f4 f5
     obtain ⟨p0, p1, p2, p3, p4, p5, f0, f1, f2, f3, f4, f5⟩ := pgres hP5
     clear hP5
     go_wp2_with ((refine wpList_store_box sizePage rfl _ _ rfl (w_.heap.size + 3) _ rfl rfl HZx.out rfl rfl rfl ?_); intro wz hset hbz; have Hset := keep hset; have Hbut := keep hbz; clear hset hbz)
     refine bodyPost_ret (v := .tuple #[pgV P (.slice a' P.items.length c'), .int .i64 (0)]) ?_ rfl (cpg_eq HRes.out (HJ5.out.but Hbut.out (ne_blk HZx.out (by decide))) (But.below HGz.out Hbut.out (by omega) HGz.out.size))
     exact deed_res Tryz.results8 _ _ _ _ P _ rfl rfl Hset.out
end Go.Proofs.YtmhepfehcakmjaaGreat
namespace Go.Proofs.YtmhepfehcakmjaaGreat
open Go.RowKit
attribute [local go_sem] givesV lookV knAt givesF_none givesF_some evalF_tmp evalF_const evalF_global evalF_func lookL isB_bool isB_undef givesUpon_value givesUpon_skip givesUpon_enter
def zeroR : Rc := ⟨0, 0, 0, 0, 0, 0, 0, 0, 0, 0, [], [], [], []⟩
def zeroV : RcV := ⟨none, 0, none, 0, none, 0, none, 0, 0, none, 0, 0⟩
end Go.Proofs.YtmhepfehcakmjaaGreat
namespace Go.Proofs.YtmhepfehcakmjaaGreat
open Go.RowKit
def Gd (X : Pg × Int) : Prop := (X.2 ≠ 0 → X.1 = zeroP) ∧ (X.2 = 0 → PgS X.1)
theorem pgS_zero : PgS zeroP := ⟨fun x hx => (by simp [zeroP] at hx), by simp [zeroP], by simp [zeroP], by simp [zeroP]⟩
theorem gd_zero (c : Int) : Gd (zeroP, c) := ⟨fun _ => rfl, fun _ => pgS_zero⟩
theorem gd_of {P : Pg} (h : PgS P) : Gd (P, 0) := ⟨fun h0 => absurd rfl h0, fun _ => h⟩
theorem gd_turned (P : Pg) (l : List (List UInt8)) (h : P.lsn ≤ 9223372036854775807) : Gd (turnedN P l) := by
 unfold turnedN
 split
 ·rename_i hf
  refine gd_of ?_
  simp only [fitsP, Bool.and_eq_true, decide_eq_true_eq] at hf
  obtain ⟨h1, h2⟩ := hf
  unfold sizeP at h2
  dsimp only at h1 h2
  refine ⟨fun x hx => ?_, by dsimp only; omega, by dsimp only; omega, h⟩
  have := sumL_ge l x hx
  omega
 ·exact gd_zero 3
theorem gd_with (P : Pg) (i : Int) (x : List UInt8) (h : PgS P) : Gd (withN P i x) := by
 unfold withN
 split
 ·exact gd_turned P _ h.2.2.2
 ·exact gd_zero 1
theorem gd_put (P : Pg) (i : Nat) (x : List UInt8) (h : PgS P) : Gd (putN P i x) := gd_turned P _ h.2.2.2
theorem gd_ins (P : Pg) (e : En) (h : PgS P) : Gd (insN P e) := by
 unfold insN
 split
 ·split
  ·exact gd_zero _
  ·exact gd_put P _ _ h
 ·exact gd_zero _
theorem gd_post (P : Pg) (e : En) (c : Int) (h : PgS P) : Gd (postN P e c) := by
 unfold postN
 split
 ·split
  ·exact gd_zero _
  ·exact gd_put P _ _ h
 ·exact gd_zero _
theorem pgS_out (P : Pg) (k : Nat) (h : PgS P) : PgS (outP P k) := by
 unfold outP
 refine ⟨fun x hx => ?_, h.2.1, ?_, h.2.2.2⟩
 ·rcases List.mem_append.1 hx with hx | hx
  ·exact h.1 x (List.mem_of_mem_take hx)
  ·exact h.1 x (List.mem_of_mem_drop hx)
 ·have := h.2.2.1
  simp only [List.length_append, List.length_take, List.length_drop]
  omega
theorem gd_rem (P : Pg) (e : En) (h : PgS P) : Gd (remN P e) := by
 unfold remN
 split
 ·exact gd_of (pgS_out P _ h)
 ·exact gd_zero _
theorem pgS_made (n : Nat) (l : List UInt8) (lsn : Int) (hl : (l.length : Int) ≤ 140737488355328) (h : lsn ≤ 9223372036854775807) : PgS (madeP n l lsn) := by
 refine ⟨fun x hx => ?_, by simp [madeP], by simp [madeP], h⟩
 simp only [madeP, List.mem_cons, List.not_mem_nil, or_false] at hx
 rcases hx with rfl | rfl
 ·have := sev_length n; omega
 ·exact hl
theorem getD_len (P : Pg) (i : Nat) (h : PgS P) : ((P.items.getD i []).length : Int) ≤ 140737488355328 := by
 rw [List.getD_eq_getElem?_getD]
 cases hi : P.items[i]? with
 | none => simp
 | some x => exact h.1 x (List.mem_of_getElem? hi)
theorem gd_set (m : Int) (P : Pg) (x : Int) (s : Nat) (h : PgS P) : Gd (setS m P x s) := by
 unfold setS
 split
 ·split
  ·exact gd_of (pgS_made _ _ _ (by rw [putS_length]; exact getD_len P 1 h) h.2.2.2)
  ·exact gd_zero _
 ·exact gd_zero _
theorem gd_cut (m : Int) (P : Pg) (x : Int) (h : PgS P) : Gd (cutS m P x) := by
 unfold cutS
 split
 ·split
  ·exact gd_of (pgS_made _ _ _ (by rw [clrS_length]; exact getD_len P 1 h) h.2.2.2)
  ·exact gd_zero _
 ·exact gd_zero _
theorem gd_turn (P : Pg) (i : Int) (ch : Tup → Int × Bool × Bool) (h : PgS P) : Gd (turnD P i ch) := by
 unfold turnD
 split
 ·cases decS (P.items.getD i.toNat []) with
  | none => exact gd_zero _
  | some T =>
   dsimp only
   split
   ·exact gd_zero _
   ·split
    ·exact gd_zero _
    ·exact gd_with P _ _ h
 ·exact gd_zero _
theorem gd_insD (P : Pg) (R : Rc) (h : PgS P) : Gd (insD P R) := by
 unfold insD
 split
 ·exact gd_zero _
 ·split
  ·exact gd_put P _ _ h
  ·split
   ·exact gd_zero _
   ·exact gd_with P _ _ h
theorem gd_undo (P : Pg) (R : Rc) (h : PgS P) : Gd (undoD P R) := by
 unfold undoD
 split
 ·exact gd_turn P _ _ h
 ·split
  ·split
   ·exact gd_zero _
   ·exact gd_with P _ _ h
  ·exact gd_zero _
theorem gd_enter (P : Pg) (R : Rc) (h : PgS P) : Gd (enterD P R) := by
 unfold enterD
 split
 ·split
  ·exact gd_zero _
  ·exact gd_post P _ _ h
 ·split
  ·exact gd_zero _
  ·exact gd_ins P _ h
theorem gd_leave (P : Pg) (R : Rc) (h : PgS P) : Gd (leaveD P R) := by
 unfold leaveD
 split
 ·exact gd_zero _
 ·exact gd_rem P _ h
theorem gd_clean (l : List Int) : ∀ P : Pg, PgS P → Gd (cleanGo P l) := by
 induction l with
 | nil => intro P h; exact gd_of h
 | cons s l ih =>
  intro P h
  unfold cleanGo
  split
  ·split
   ·exact gd_zero _
   ·rename_i h0
    exact ih _ ((gd_with P s [] h).2 (Decidable.byContradiction h0))
  ·exact gd_zero _
theorem gd_frz (i0 : Bool) (l : List Int) : ∀ P : Pg, PgS P → Gd (frzGo i0 P l) := by
 induction l with
 | nil => intro P h; exact gd_of h
 | cons s l ih =>
  intro P h
  unfold frzGo
  split
  ·exact gd_zero _
  ·rename_i h0
   exact ih _ ((gd_turn P s (chFrz i0) h).2 (Decidable.byContradiction h0))
theorem gd_freeze (P : Pg) (R : Rc) (h : PgS P) : Gd (freezeD P R) := by
 have e : freezeD P R = if (frzGo true P R.slots).2 ≠ 0 then (zeroP, (frzGo true P R.slots).2) else (if (frzGo false (frzGo true P R.slots).1 R.more).2 ≠ 0 then (zeroP, (frzGo false (frzGo true P R.slots).1 R.more).2) else ((frzGo false (frzGo true P R.slots).1 R.more).1, 0)) := rfl
 rw [e]
 split
 ·exact gd_zero _
 ·rename_i h0
  have h1 := (gd_frz true R.slots P h).2 (Decidable.byContradiction h0)
  split
  ·exact gd_zero _
  ·rename_i h2
   exact gd_of ((gd_frz false R.more _ h1).2 (Decidable.byContradiction h2))
theorem gd_deed (m : Int) (P : Pg) (R : Rc) (h : PgS P) : Gd (deedN m P R) := by
 unfold deedN
 repeat' split
 ·exact gd_insD P R h
 ·exact gd_turn P _ _ h
 ·exact gd_undo P R h
 ·exact gd_enter P R h
 ·exact gd_leave P R h
 ·exact gd_set m P _ _ h
 ·exact gd_set m P _ _ h
 ·exact gd_clean _ P h
 ·exact gd_freeze P R h
 ·exact gd_cut m P _ h
theorem pgS_lsn {P : Pg} (h : PgS P) {l : Int} (hl : l ≤ 9223372036854775807) : PgS { P with lsn := l } := ⟨h.1, h.2.1, h.2.2.1, hl⟩
theorem gd_do (m : Int) (P : Pg) (n : Int) (R : Rc) (h : PgS P) (hi : ∀ x ∈ R.images, PgS x.body) (hl : R.lsn ≤ 9223372036854775807) : Gd (doN m P n R) := by
 unfold doN
 cases hf : R.images.find? (fun x => x.page == n) with
 | some x => exact gd_of (pgS_lsn (hi x (List.mem_of_find?_eq_some hf)) hl)
 | none =>
  dsimp only
  split
  ·exact gd_of h
  ·split
   ·exact gd_zero _
   ·rename_i h0
    exact gd_of (pgS_lsn ((gd_deed m P R h).2 (Decidable.byContradiction h0)) hl)
theorem do_lsn (m : Int) (P : Pg) (n : Int) (R : Rc) (h : (doN m P n R).2 = 0) : (doN m P n R).1.lsn = P.lsn ∨ (doN m P n R).1.lsn = R.lsn := by
 unfold doN at h ⊢
 cases hf : R.images.find? (fun x => x.page == n) with
 | some x => exact .inr rfl
 | none =>
  rw [hf] at h
  dsimp only at h ⊢
  by_cases hc : hasDeed R.kind = false ∨ R.lsn ≤ P.lsn ∨ n ≠ R.page
  ·rw [if_pos hc]; exact .inl rfl
  ·rw [if_neg hc] at h ⊢
   by_cases h0 : (deedN m P R).2 ≠ 0
   ·rw [if_pos h0] at h
    exact absurd h h0
   ·rw [if_neg h0]; exact .inr rfl
end Go.Proofs.YtmhepfehcakmjaaGreat
namespace Go.Proofs.YtmhepfehcakmjaaGreat
open Go.RowKit
theorem ofS_pair (a b : UInt8) : ofS [a, b] = a.toNat * 256 + b.toNat := by
 have := a.toNat_lt; have := b.toNat_lt
 simp only [ofS, ofGo]; omega
theorem ofS_big {n : Nat} (h : n < 65536) : ofS (bigS n 2) = n := by
 have e : bigS n 2 = [UInt8.ofNat (n / 256 % 256), UInt8.ofNat (n % 256)] := by
  unfold bigS
  simp [List.range, List.range.loop]
 rw [e, ofS_pair]
 simp only [UInt8.toNat_ofNat']
 omega
theorem dec_enc {a b : Nat} {f : Bool} {k v : List UInt8} (h : tupOk a b (str k) (str v) = true) : decS (tupS a b f k v) = some ⟨a, b, f, k, v⟩ := by
 unfold tupOk fitsB at h
 simp only [Bool.and_eq_true, decide_eq_true_eq, str_size] at h
 obtain ⟨⟨⟨⟨⟨h1, h2⟩, h3⟩, h4⟩, h5, h6⟩, h7⟩ := h
 have h5 : 0 < k.length := of_decide_eq_true h5
 have h6 : k.length ≤ 24 := of_decide_eq_true h6
 have h7 : v.length ≤ 64 := of_decide_eq_true h7
 have ha := ofS_big (n := a) (by omega)
 have hb := ofS_big (n := b) (by omega)
 have la := bigS_length a 2
 have lb := bigS_length b 2
 obtain ⟨a1, a0, ea⟩ : ∃ x y, bigS a 2 = [x, y] := by
  match hq : bigS a 2, la with
  | [x, y], _ => exact ⟨x, y, rfl⟩
 obtain ⟨b1, b0, eb⟩ : ∃ x y, bigS b 2 = [x, y] := by
  match hq : bigS b 2, lb with
  | [x, y], _ => exact ⟨x, y, rfl⟩
 rw [ea] at ha
 rw [eb] at hb
 have hfl : bigS (if f then 3 else 1) 1 = [UInt8.ofNat (if f then 3 else 1)] := by cases f <;> rfl
 have ht : tupS a b f k v = UInt8.ofNat (if f then 3 else 1) :: a1 :: a0 :: b1 :: b0 :: (txt k ++ txt v) := by
  unfold tupS
  rw [hfl, ea, eb]
  rfl
 have hk : decKey (tupS a b f k v) = (k, txt v, 0) := by
  unfold decKey
  rw [ht]
  show rdTextS 24 (txt k ++ txt v) = _
  exact rdTextS_sev 24 k (txt v) (by omega) (by omega)
 have hv : decVal (tupS a b f k v) = (v, [], 0) := by
  unfold decVal rdText2
  rw [hk, if_pos rfl]
  have := rdTextS_sev 64 v [] (by omega) (by omega)
  rw [List.append_nil] at this
  exact this
 have hp : decParts (tupS a b f k v) = ⟨a, b, f, k, v⟩ := by
  unfold decParts
  rw [hk, hv, ht]
  have e1 : ((UInt8.ofNat (if f = true then 3 else 1) :: a1 :: a0 :: b1 :: b0 :: (txt k ++ txt v)).tail.take 2) = [a1, a0] := rfl
  have e2 : (((UInt8.ofNat (if f = true then 3 else 1) :: a1 :: a0 :: b1 :: b0 :: (txt k ++ txt v)).drop 3).take 2) = [b1, b0] := rfl
  have e3 : (((UInt8.ofNat (if f = true then 3 else 1) :: a1 :: a0 :: b1 :: b0 :: (txt k ++ txt v)).getD 0 0).toNat % 4 / 2 == 1) = f := by
   show ((UInt8.ofNat (if f = true then 3 else 1)).toNat % 4 / 2 == 1) = f
   cases f <;> decide
  rw [e1, e2, e3, ha, hb]
 have hne : k ≠ [] := by intro e; rw [e] at h5; simp at h5
 have hok : decOk (tupS a b f k v) = true := by
  unfold decOk
  rw [hp, hk, hv]
  have hl : 5 ≤ (tupS a b f k v).length := by rw [ht]; simp
  have h0 : ((tupS a b f k v).getD 0 0).toNat = 1 ∨ ((tupS a b f k v).getD 0 0).toNat = 3 := by
   rw [ht]
   cases f
   ·exact .inl rfl
   ·exact .inr rfl
  simp only [hne, h0, hl, decide_true, Bool.and_true, ne_eq, not_false_eq_true, Bool.and_eq_true, decide_eq_true_eq]
  refine ⟨⟨⟨trivial, ?_⟩, ?_⟩, ?_⟩ <;> omega
 unfold decS
 rw [if_pos hok, hp]
theorem getD_get (l : List (List UInt8)) (i : Nat) (hi : i < l.length) : l.getD i [] = l[i] := by
 rw [List.getD_eq_getElem?_getD, List.getElem?_eq_getElem hi]; rfl
theorem with_ok {P : Pg} {i : Int} {x : List UInt8} (h : (withN P i x).2 = 0) : ∃ k : Nat, i = k ∧ k < P.items.length ∧ withN P i x = ({ P with items := P.items.set k x }, 0) ∧ fitsP { P with items := P.items.set k x } = true := by
 unfold withN at h ⊢
 by_cases h1 : 0 ≤ i ∧ i < P.items.length
 ·obtain ⟨k, rfl⟩ := Int.eq_ofNat_of_zero_le h1.1
  rw [if_pos h1, Int.toNat_natCast] at h ⊢
  unfold turnedN at h ⊢
  by_cases hf : fitsP { P with items := P.items.set k x } = true
  ·rw [if_pos hf]
   exact ⟨k, rfl, by omega, rfl, hf⟩
  ·rw [if_neg hf] at h
   exact absurd h (by decide)
 ·rw [if_neg h1] at h
  exact absurd h (by decide)
theorem getD_set_ne (l : List (List UInt8)) (i j : Nat) (x : List UInt8) (h : i ≠ j) : (l.set i x).getD j [] = l.getD j [] := by
 rw [List.getD_eq_getElem?_getD, List.getD_eq_getElem?_getD, List.getElem?_set_ne h]
structure BackOk (P : Pg) (R : Rc) (later : Int) (B : Pg) : Prop where
 lsn : B.lsn = later
 mark : R.kind = 2 → { B with lsn := P.lsn } = P
 ins : R.kind ≠ 2 → ∃ (k : Nat) (T : Tup), R.slot = k ∧ decS R.data = some T ∧ k < B.items.length ∧ B.items.length ≤ 255 ∧ B.items.length = max P.items.length (k + 1) ∧ keyS (B.items.getD k []) = (T.key, true) ∧ stateS (B.items.getD k []) = 2 ∧ ((B.items.getD k []).length : Int) ≤ 100 ∧ ∀ j, j < P.items.length → j ≠ k → B.items.getD j [] = P.items.getD j []
end Go.Proofs.YtmhepfehcakmjaaGreat
namespace Go.Proofs.YtmhepfehcakmjaaGreat.Vac
open Go.RowKit
theorem turn_done {P : Pg} {s : Int} {ch : Tup → Int × Bool × Bool} (h : (turnD P s ch).2 = 0) : ∃ (k : Nat) (T : Tup) (n : Nat) (y : List UInt8), s = k ∧ k < P.items.length ∧ decS (P.items.getD k []) = some T ∧ (ch T).1 = n ∧
  turnD P s ch = ({ P with items := P.items.set k y }, 0) ∧ decS y = some ⟨T.xmin, n, (ch T).2.1, T.key, T.val⟩ := by
 unfold turnD at h ⊢
 by_cases h1 : 0 ≤ s ∧ s < P.items.length
 case neg => rw [if_neg h1] at h; exact absurd h (by decide)
 obtain ⟨k, rfl⟩ := Int.eq_ofNat_of_zero_le h1.1
 rw [if_pos h1, Int.toNat_natCast] at h
 rw [if_pos h1, Int.toNat_natCast]
 have hkl : k < P.items.length := by omega
 cases hd : decS (P.items.getD k []) with
 | none => rw [hd] at h; exact absurd (show (110 : Int) = 0 from h) (by decide)
 | some T =>
  rw [hd] at h
  dsimp only at h ⊢
  by_cases hc0 : (ch T).2.2 = false
  case pos => rw [if_pos hc0] at h; exact absurd h (by decide)
  rw [if_neg hc0] at h
  rw [if_neg hc0]
  by_cases he : (encTI T.xmin (ch T).1 (ch T).2.1 T.key T.val).2 ≠ 0
  ·rw [if_pos he] at h; exact absurd h he
  rw [if_neg he] at h
  rw [if_neg he]
  have hok : tupOk T.xmin (ch T).1 (str T.key) (str T.val) = true := by
   refine Classical.byContradiction fun hx => he ?_
   unfold encTI
   rw [if_neg hx]
   decide
  obtain ⟨n, hnn⟩ : ∃ n : Nat, (ch T).1 = n := by
   unfold tupOk at hok
   simp only [Bool.and_eq_true, decide_eq_true_eq] at hok
   exact ⟨(ch T).1.toNat, by omega⟩
  rw [hnn] at hok
  have e1 : (encTI T.xmin (ch T).1 (ch T).2.1 T.key T.val).1 = tupS T.xmin n (ch T).2.1 T.key T.val := by
   unfold encTI
   rw [hnn, if_pos hok]
   rfl
  rw [e1] at h ⊢
  obtain ⟨k', hk', hlt, hw, hf⟩ := with_ok h
  have ek : k' = k := by omega
  subst ek
  exact ⟨k', T, n, _, rfl, hkl, hd, hnn, hw, dec_enc hok⟩
theorem frz_done (i0 : Bool) (l : List Int) : ∀ P : Pg, l.Nodup → (frzGo i0 P l).2 = 0 → (frzGo i0 P l).1.kind = P.kind ∧ (frzGo i0 P l).1.lsn = P.lsn ∧ (frzGo i0 P l).1.items.length = P.items.length ∧
  (∀ j : Nat, (j : Int) ∉ l → (frzGo i0 P l).1.items.getD j [] = P.items.getD j []) ∧
  (∀ j : Nat, (j : Int) ∈ l → ∃ (T : Tup) (n : Nat), decS (P.items.getD j []) = some T ∧ (chFrz i0 T).1 = n ∧ decS ((frzGo i0 P l).1.items.getD j []) = some ⟨T.xmin, n, (chFrz i0 T).2.1, T.key, T.val⟩) := by
 induction l with
 | nil => intro P _ _; exact ⟨rfl, rfl, rfl, fun _ _ => rfl, fun j hj => (by cases hj)⟩
 | cons s l ih =>
  intro P hn h
  rw [frzGo] at h ⊢
  by_cases h0 : (turnD P s (chFrz i0)).2 ≠ 0
  ·rw [if_pos h0] at h; exact absurd h h0
  rw [if_neg h0] at h
  rw [if_neg h0]
  obtain ⟨k, T, n, y, rfl, hk, hd, hc, ht, hy⟩ := turn_done (Decidable.byContradiction h0 : (turnD P s (chFrz i0)).2 = 0)
  rw [ht] at h ⊢
  dsimp only at h ⊢
  obtain ⟨hnk, hnl⟩ := List.nodup_cons.1 hn
  obtain ⟨i1, i2, i3, i4, i5⟩ := ih _ hnl h
  refine ⟨i1, i2, by rw [i3]; dsimp only; rw [List.length_set], fun j hj => ?_, fun j hj => ?_⟩
  ·rw [i4 j (fun hm => hj (List.mem_cons_of_mem _ hm))]
   exact getD_set_ne _ _ _ _ (fun e => hj (by rw [e]; exact List.mem_cons_self ..))
  ·by_cases e : j = k
   ·subst e
    rw [i4 j hnk]
    refine ⟨T, n, hd, hc, ?_⟩
    dsimp only
    rw [getD_get _ _ (by rw [List.length_set]; exact hk), List.getElem_set_self]
    exact hy
   ·have hm : (j : Int) ∈ l := by
     rcases List.mem_cons.1 hj with h | h
     ·exact absurd (Int.ofNat_inj.1 h) e
     ·exact h
    obtain ⟨T', n', a1, a2, a3⟩ := i5 j hm
    dsimp only at a1
    rw [getD_set_ne _ _ _ _ (Ne.symm e)] at a1
    exact ⟨T', n', a1, a2, a3⟩
theorem clean_done (l : List Int) : ∀ P : Pg, (cleanGo P l).2 = 0 → (cleanGo P l).1.kind = P.kind ∧ (cleanGo P l).1.items.length = P.items.length ∧
  (∀ j : Nat, (cleanGo P l).1.items.getD j [] = if (j : Int) ∈ l then [] else P.items.getD j []) := by
 induction l with
 | nil => intro P _; exact ⟨rfl, rfl, fun j => (by simp [cleanGo])⟩
 | cons s l ih =>
  intro P h
  rw [cleanGo] at h ⊢
  by_cases h1 : 0 ≤ s ∧ s < P.items.length
  case neg => rw [if_neg h1] at h; exact absurd h (by decide)
  rw [if_pos h1] at h
  rw [if_pos h1]
  by_cases h0 : (withN P s []).2 ≠ 0
  ·rw [if_pos h0] at h; exact absurd h h0
  rw [if_neg h0] at h
  rw [if_neg h0]
  obtain ⟨k, rfl, hk, hw, -⟩ := with_ok (Decidable.byContradiction h0 : (withN P s []).2 = 0)
  rw [hw] at h ⊢
  dsimp only at h ⊢
  obtain ⟨i1, i2, i3⟩ := ih _ h
  refine ⟨i1, by rw [i2]; dsimp only; rw [List.length_set], fun j => ?_⟩
  rw [i3 j]
  dsimp only
  by_cases e : j = k
  ·subst e
   rw [if_pos (List.mem_cons_self ..)]
   split
   ·rfl
   ·rw [getD_get _ _ (by rw [List.length_set]; exact hk), List.getElem_set_self]
  ·rw [getD_set_ne _ _ _ _ (Ne.symm e)]
   have : ((j : Int) ∈ (k : Int) :: l) ↔ (j : Int) ∈ l := by
    constructor
    ·intro h
     rcases List.mem_cons.1 h with h | h
     ·exact absurd (Int.ofNat_inj.1 h) e
     ·exact h
    ·exact List.mem_cons_of_mem _
   simp only [this]
def goneI (v : Vw) (h : Int) (l : List UInt8) : Bool := stateS l == 2 || (stateS l == 3 && goneB v ((decS l).getD noTup) h)
def frI (v : Vw) (h : Int) (l : List UInt8) : Bool := stateS l == 3 && !goneB v ((decS l).getD noTup) h && oldB v ((decS l).getD noTup) h
def offI (v : Vw) (h : Int) (l : List UInt8) : Bool := stateS l == 3 && !goneB v ((decS l).getD noTup) h && offB v ((decS l).getD noTup)
theorem step_eq (v : Vw) (h pg : Int) (a : Wk) (j : Nat) (l : List UInt8) : stepW v h pg a j l = ⟨if frI v h l then a.fr ++ [(j : Int)] else a.fr, if offI v h l then a.off ++ [(j : Int)] else a.off, if goneI v h l then a.gone ++ [((keyS l).1, pg, (j : Int))] else a.gone⟩ := by
 unfold stepW frI offI goneI
 by_cases h2 : stateS l = 2
 ·simp [h2]
 ·by_cases h3 : stateS l = 3
  ·have hk : (keyS l).1 = ((decS l).getD noTup).key := by
    unfold keyS
    have : (decS l).isSome = true := by
     unfold stateS at h3
     cases hd : (decS l).isSome with
     | true => rfl
     | false => rw [hd] at h3; split at h3 <;> simp at h3; split at h3 <;> simp at h3
    rw [if_pos this]
   cases hg : goneB v ((decS l).getD noTup) h <;> simp [h3, hk]
  ·simp [h2, h3]
theorem sort_eq (v : Vw) (h pg : Int) (items : List (List UInt8)) (k : Nat) : sortK v h pg items k = ⟨((List.range k).filter fun j => frI v h (items.getD j [])).map Int.ofNat, ((List.range k).filter fun j => offI v h (items.getD j [])).map Int.ofNat,
  ((List.range k).filter fun j => goneI v h (items.getD j [])).map fun j => ((keyS (items.getD j [])).1, pg, (j : Int))⟩ := by
 induction k with
 | zero => rfl
 | succ k ih =>
  rw [sortK, step_eq, ih, List.range_succ]
  simp only [List.filter_append, List.map_append, List.filter_cons, List.filter_nil]
  congr 1
  ·split <;> simp
  ·split <;> simp
  ·split <;> simp
theorem mem_ofNat {p : Nat → Bool} {k j : Nat} : (j : Int) ∈ ((List.range k).filter p).map Int.ofNat ↔ j < k ∧ p j = true := by
 rw [List.mem_map]
 constructor
 ·rintro ⟨i, hi, e⟩
  have : i = j := Int.ofNat_inj.1 e
  subst this
  simpa using hi
 ·rintro ⟨h1, h2⟩
  exact ⟨j, by simp [h1, h2], rfl⟩
theorem nodup_ofNat {p : Nat → Bool} {k : Nat} : (((List.range k).filter p).map Int.ofNat).Nodup := by
 rw [List.nodup_iff_pairwise_ne, List.pairwise_map]
 exact (List.nodup_range.filter p).imp fun h e => h (Int.ofNat_inj.1 e)
theorem state_some {l : List UInt8} {T : Tup} (h : decS l = some T) : stateS l = 3 := by
 unfold stateS
 rw [h]
 have : l.isEmpty = false := by
  cases l with
  | nil => exact absurd h (by simp [decS, decOk])
  | cons _ _ => rfl
 rw [this]
 rfl
theorem slot_frozen (v : Vw) (h : Int) (x x1 x2 : List UInt8)
  (h1 : frI v h x = false → x1 = x) (h2 : frI v h x = true → ∃ (T : Tup) (n : Nat), decS x = some T ∧ (chFrz true T).1 = n ∧ decS x1 = some ⟨T.xmin, n, (chFrz true T).2.1, T.key, T.val⟩)
  (h3 : offI v h x = false → x2 = x1) (h4 : offI v h x = true → ∃ (T : Tup) (n : Nat), decS x1 = some T ∧ (chFrz false T).1 = n ∧ decS x2 = some ⟨T.xmin, n, (chFrz false T).2.1, T.key, T.val⟩) :
  frI v h x2 = false ∧ offI v h x2 = false ∧ goneI v h x2 = goneI v h x := by
 cases hf : frI v h x with
 | false =>
  have e1 := h1 hf
  subst e1
  cases ho : offI v h x1 with
  | false =>
   have e2 := h3 ho
   subst e2
   exact ⟨hf, ho, rfl⟩
  | true =>
   obtain ⟨T, n, d1, d2, d3⟩ := h4 ho
   have hn : n = 0 := by
    have : (0 : Int) = n := d2
    omega
   subst hn
   have e3 : (chFrz false T).2.1 = T.frozen := rfl
   rw [e3] at d3
   unfold frI offI goneI at *
   rw [state_some d1, d1] at hf ho
   rw [state_some d3, d3, state_some d1, d1]
   unfold goneB oldB offB at *
   simp only [Option.getD_some] at *
   generalize statusS v T.xmin = a at *
   generalize statusS v T.xmax = b at *
   generalize beforeB v.m T.xmin h = c at *
   generalize beforeB v.m T.xmax h = d at *
   revert hf ho
   cases T.frozen <;> cases c <;> cases d <;> simp <;> intros <;> simp_all
 | true =>
  obtain ⟨T, n, d1, d2, d3⟩ := h2 hf
  have hn : n = T.xmax := by
   have : (T.xmax : Int) = n := d2
   omega
  subst hn
  have e3 : (chFrz true T).2.1 = true := rfl
  rw [e3] at d3
  cases ho : offI v h x with
  | false =>
   have e2 := h3 ho
   subst e2
   unfold frI offI goneI at *
   rw [state_some d1, d1] at hf ho
   rw [state_some d3, d3, state_some d1, d1]
   unfold goneB oldB offB at *
   simp only [Option.getD_some] at *
   generalize statusS v T.xmin = a at *
   generalize statusS v T.xmax = b at *
   generalize beforeB v.m T.xmin h = c at *
   generalize beforeB v.m T.xmax h = d at *
   revert hf ho
   cases T.frozen <;> cases c <;> cases d <;> simp <;> intros <;> simp_all
  | true =>
   obtain ⟨T', n', c1, c2, c3⟩ := h4 ho
   rw [d3] at c1
   simp only [Option.some.injEq] at c1
   subst c1
   have hn' : n' = 0 := by
    have : (0 : Int) = n' := c2
    omega
   subst hn'
   have e4 : (chFrz false (⟨T.xmin, T.xmax, true, T.key, T.val⟩ : Tup)).2.1 = true := rfl
   rw [e4] at c3
   unfold frI offI goneI at *
   rw [state_some d1, d1] at hf ho
   rw [state_some c3, c3, state_some d1, d1]
   unfold goneB oldB offB at *
   simp only [Option.getD_some] at *
   generalize statusS v T.xmin = a at *
   generalize statusS v T.xmax = b at *
   generalize beforeB v.m T.xmin h = c at *
   generalize beforeB v.m T.xmax h = d at *
   revert hf ho
   cases T.frozen <;> cases c <;> cases d <;> simp <;> intros <;> simp_all
structure Quiet (v : Vw) (h : Int) (P Q : Pg) : Prop where
 kind : Q.kind = P.kind
 len : Q.items.length = P.items.length
 fr : ∀ j, frI v h (Q.items.getD j []) = false
 off : ∀ j, offI v h (Q.items.getD j []) = false
 gone : ∀ j, goneI v h (Q.items.getD j []) = goneI v h (P.items.getD j [])
theorem filter_none {α : Type} (l : List α) : l.filter (fun _ => false) = [] := by simp
theorem beyond {l : List (List UInt8)} {j : Nat} (h : ¬ j < l.length) : l.getD j [] = [] := by
 rw [List.getD_eq_getElem?_getD, List.getElem?_eq_none (by omega)]
 rfl
theorem quiet_frozen (v : Vw) (h pg : Int) (P : Pg) (hk : P.kind = 2) (R : Rc) (hs : R.slots = (sortS v h pg P).fr) (hm : R.more = (sortS v h pg P).off) (h0 : (freezeD P R).2 = 0) : Quiet v h P (freezeD P R).1 := by
 have e : freezeD P R = if (frzGo true P R.slots).2 ≠ 0 then (zeroP, (frzGo true P R.slots).2) else (if (frzGo false (frzGo true P R.slots).1 R.more).2 ≠ 0 then (zeroP, (frzGo false (frzGo true P R.slots).1 R.more).2) else ((frzGo false (frzGo true P R.slots).1 R.more).1, 0)) := rfl
 rw [e] at h0 ⊢
 by_cases c1 : (frzGo true P R.slots).2 ≠ 0
 ·rw [if_pos c1] at h0; exact absurd h0 c1
 rw [if_neg c1] at h0 ⊢
 by_cases c2 : (frzGo false (frzGo true P R.slots).1 R.more).2 ≠ 0
 ·rw [if_pos c2] at h0; exact absurd h0 c2
 rw [if_neg c2]
 dsimp only
 have es : R.slots = ((List.range P.items.length).filter fun j => frI v h (P.items.getD j [])).map Int.ofNat := by rw [hs]; unfold sortS; rw [if_pos hk, sort_eq]
 have em : R.more = ((List.range P.items.length).filter fun j => offI v h (P.items.getD j [])).map Int.ofNat := by rw [hm]; unfold sortS; rw [if_pos hk, sort_eq]
 obtain ⟨a1, -, a3, a4, a5⟩ := frz_done true R.slots P (by rw [es]; exact nodup_ofNat) (Decidable.byContradiction c1)
 obtain ⟨b1, -, b3, b4, b5⟩ := frz_done false R.more _ (by rw [em]; exact nodup_ofNat) (Decidable.byContradiction c2)
 have key : ∀ j, frI v h ((frzGo false (frzGo true P R.slots).1 R.more).1.items.getD j []) = false ∧ offI v h ((frzGo false (frzGo true P R.slots).1 R.more).1.items.getD j []) = false ∧ goneI v h ((frzGo false (frzGo true P R.slots).1 R.more).1.items.getD j []) = goneI v h (P.items.getD j []) := by
  intro j
  by_cases hj : j < P.items.length
  case neg =>
   rw [beyond (l := P.items) hj, beyond (by rw [b3, a3]; exact hj)]
   exact ⟨rfl, rfl, rfl⟩
  refine slot_frozen v h _ ((frzGo true P R.slots).1.items.getD j []) _ (fun hx => a4 j ?_) (fun hx => a5 j ?_) (fun hx => b4 j ?_) (fun hx => b5 j ?_)
  ·rw [es, mem_ofNat]; rintro ⟨-, hy⟩; rw [hx] at hy; cases hy
  ·rw [es, mem_ofNat]; exact ⟨hj, hx⟩
  ·rw [em, mem_ofNat]; rintro ⟨-, hy⟩; rw [hx] at hy; cases hy
  ·rw [em, mem_ofNat]; exact ⟨hj, hx⟩
 exact ⟨by rw [b1, a1], by rw [b3, a3], fun j => (key j).1, fun j => (key j).2.1, fun j => (key j).2.2⟩
theorem quiet_none (v : Vw) (h pg : Int) (P : Pg) (hk : P.kind = 2) (h1 : (sortS v h pg P).fr = []) (h2 : (sortS v h pg P).off = []) : Quiet v h P P := by
 have hh := quiet_frozen v h pg P hk ⟨0, 0, 0, 0, 0, 0, 0, 0, 0, 0, [], [], [], []⟩ h1.symm h2.symm rfl
 exact hh
theorem quiet_lsn {v : Vw} {h : Int} {P Q : Pg} (q : Quiet v h P Q) (l : Int) : Quiet v h P { Q with lsn := l } := ⟨q.kind, q.len, q.fr, q.off, q.gone⟩
theorem quiet_sort {v : Vw} {h : Int} {P Q : Pg} (pg : Int) (hk : P.kind = 2) (q : Quiet v h P Q) : (sortS v h pg Q).fr = [] ∧ (sortS v h pg Q).off = [] ∧ (sortS v h pg Q).gone.length = (sortS v h pg P).gone.length := by
 unfold sortS
 rw [if_pos hk, if_pos (q.kind.trans hk), sort_eq, sort_eq, q.len]
 dsimp only
 simp only [q.fr, q.off, q.gone, List.length_map, filter_none, List.map_nil, and_self]
theorem quiet_clean {v : Vw} {h : Int} {P Q : Pg} (pg : Int) (hk : P.kind = 2) (q : Quiet v h P Q) (S : List Int) (hS : S = (sortS v h pg P).gone.map (·.2.2)) (h0 : (cleanGo Q S).2 = 0) : ∀ l : Int, sortS v h pg { (cleanGo Q S).1 with lsn := l } = ⟨[], [], []⟩ := by
 intro l
 obtain ⟨a1, a2, a3⟩ := clean_done S Q h0
 have es : S = ((List.range P.items.length).filter fun j => goneI v h (P.items.getD j [])).map Int.ofNat := by
  rw [hS]; unfold sortS; rw [if_pos hk, sort_eq, List.map_map]; rfl
 have key : ∀ j, frI v h ((cleanGo Q S).1.items.getD j []) = false ∧ offI v h ((cleanGo Q S).1.items.getD j []) = false ∧ goneI v h ((cleanGo Q S).1.items.getD j []) = false := by
  intro j
  rw [a3 j]
  by_cases hj : (j : Int) ∈ S
  ·rw [if_pos hj]; exact ⟨rfl, rfl, rfl⟩
  ·rw [if_neg hj]
   refine ⟨q.fr j, q.off j, ?_⟩
   rw [q.gone j]
   by_cases hl : j < P.items.length
   ·cases hg : goneI v h (P.items.getD j []) with
    | false => rfl
    | true => exact absurd (by rw [es, mem_ofNat]; exact ⟨hl, hg⟩) hj
   ·rw [beyond hl]; rfl
 unfold sortS
 dsimp only
 rw [if_pos (a1.trans (q.kind.trans hk)), sort_eq]
 simp only [(fun j => (key j).1 : ∀ j, _), (fun j => (key j).2.1 : ∀ j, _), (fun j => (key j).2.2 : ∀ j, _), filter_none, List.map_nil]
theorem quiet_bare {v : Vw} {h : Int} {P Q : Pg} (pg : Int) (hk : P.kind = 2) (q : Quiet v h P Q) (hg : (sortS v h pg P).gone = []) : sortS v h pg Q = ⟨[], [], []⟩ := by
 obtain ⟨h1, h2, h3⟩ := quiet_sort pg hk q
 rw [hg] at h3
 have h4 := List.eq_nil_of_length_eq_zero h3
 generalize sortS v h pg Q = K at *
 obtain ⟨a, b, c⟩ := K
 dsimp only at h1 h2 h4
 rw [h1, h2, h4]
end Go.Proofs.YtmhepfehcakmjaaGreat.Vac
