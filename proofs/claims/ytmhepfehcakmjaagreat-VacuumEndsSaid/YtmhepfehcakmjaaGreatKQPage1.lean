import Derived.Test.YtmhepfehcakmjaaGreatKQSame1
import Derived.Deep.Cut
namespace Go.Proofs.YtmhepfehcakmjaaGreat.Vac
open Go.RowKit
theorem cell_kept {B : Nat} {w w' : World} {p : Addr} {v : Value} (h : Below B w w') (hB : w.heap.size ≤ B) (hc : w.cell? p = some v) : w'.cell? p = some v :=
 (h.cell (Nat.lt_of_lt_of_le (World.block_lt_of_cell? w p hc) hB)).trans hc
structure Sl where
 kind : Int
 xmin : Int
 xmax : Int
 frozen : Bool
 key : List UInt8
 val : List UInt8
 raw : List UInt8
def sl0 : Sl := ⟨0, 0, 0, false, [], [], []⟩
def slCell (x : Sl) : List Value := [.int .i64 x.kind, .int .i64 x.xmin, .int .i64 x.xmax, .bool x.frozen, .string (str x.key), .string (str x.val), .string (str x.raw)]
def slCells (l : List Sl) : List Value := l.flatMap slCell
def encS (x : Sl) : List UInt8 × Int := if tupOk x.xmin x.xmax (str x.key) (str x.val) then (tupS x.xmin.toNat x.xmax.toNat x.frozen x.key x.val, 0) else ([], 110)
def deadSS (key : List UInt8) : List UInt8 × Int := if fitsB (str key) then (deadS key, 0) else ([], 110)
def slotS (x : Sl) : List UInt8 :=
 if x.kind = 0 then [] else if x.kind = 1 then (deadSS x.key).1 else if x.kind = 2 then (if (encS x).2 = 0 then (encS x).1 else x.raw) else x.raw
def pageOf (items : List (List UInt8)) : Pg := { lsn := 1, kind := 2, level := 0, right := 0, high := [], items := items }
def pageS (l : List Sl) : Pg := pageOf (l.map slotS)
theorem enc_any (x : Sl) (w : World) : Calls Tryz.prog 40 #[.agg #[.int .i64 x.xmin, .int .i64 x.xmax, .bool x.frozen, .string (str x.key), .string (str x.val)]] w fun e w' =>
  e = .returned (.tuple #[.string (str (encS x).1), .int .i64 (encS x).2]) ∧ Below w.heap.size w w' := by
 cases h : tupOk x.xmin x.xmax (str x.key) (str x.val) with
 | false =>
  have e : encS x = ([], 110) := by unfold encS; rw [h]; rfl
  rw [e]
  exact enc_bad x.xmin x.xmax x.frozen (str x.key) (str x.val) w h
 | true =>
  have e : encS x = (tupS x.xmin.toNat x.xmax.toNat x.frozen x.key x.val, 0) := by unfold encS; rw [h]; rfl
  rw [e]
  obtain ⟨kind, xmin, xmax, frozen, key, val, raw⟩ := x
  have h' := h
  simp only [tupOk, Bool.and_eq_true, decide_eq_true_eq] at h'
  obtain ⟨⟨⟨⟨⟨h1, h2⟩, h3⟩, h4⟩, h5⟩, h7⟩ := h'
  obtain ⟨n, rfl⟩ := Int.eq_ofNat_of_zero_le (show 0 ≤ xmin by omega)
  obtain ⟨m, rfl⟩ := Int.eq_ofNat_of_zero_le h3
  cases frozen with
  | true => exact enc_yes n m (str key) (str val) w h
  | false => exact enc_no n m (str key) (str val) w h
theorem dead_any (key : List UInt8) (w : World) : Calls Tryz.prog 39 #[.string (str key)] w fun e w' =>
  e = .returned (.tuple #[.string (str (deadSS key).1), .int .i64 (deadSS key).2]) ∧ Below w.heap.size w w' := by
 cases h : fitsB (str key) with
 | false =>
  have e : deadSS key = ([], 110) := by unfold deadSS; rw [h]; rfl
  rw [e]
  refine (dead_bad (str key) w h).mono ?_
  rintro e w' ⟨rfl, rfl⟩
  exact ⟨rfl, Below.refl _ _⟩
 | true =>
  have e : deadSS key = (deadS key, 0) := by unfold deadSS; rw [h]; rfl
  rw [e]
  exact dead_ok (str key) w h
theorem slots_get {w : World} {lv : Value} {l : List Sl} (h : Row w 100 lv l.length (slCells l)) :
  ∃ a cap, lv = .slice a l.length cap ∧ ∀ j, j < l.length → ∃ c off, a = some ⟨c, off, none⟩ ∧ ∀ i v, (slCell (l.getD j sl0))[i]? = some v → w.cell? ⟨c, off + j * 7 + i, none⟩ = some v := by
 have hlen : ∀ l : List Sl, (slCells l).length = l.length * 7 := by
  intro l; induction l with
  | nil => rfl
  | cons x l ih => simp only [slCells, List.flatMap_cons, List.length_append, List.length_cons] at ih ⊢; rw [ih]; simp [slCell]; omega
 have hget : ∀ (l : List Sl) (j : Nat), j < l.length → ∀ i (hi : i < 7), (slCells l)[j * 7 + i]? = some ((slCell (l.getD j sl0))[i]'(by simpa [slCell] using hi)) := by
  intro l; induction l with
  | nil => intro j hj; simp at hj
  | cons x l ih =>
   intro j hj i hi
   have h7 : (slCell x).length = 7 := rfl
   cases j with
   | zero =>
    simp only [slCells, List.flatMap_cons, Nat.zero_mul, Nat.zero_add, List.getD_cons_zero]
    rw [List.getElem?_append_left (by omega)]
    exact List.getElem?_eq_getElem (by omega)
   | succ j =>
    have := ih j (by simpa using hj) i hi
    simp only [slCells, List.flatMap_cons, List.getD_cons_succ] at this ⊢
    rw [List.getElem?_append_right (by omega), h7]
    have e : (j + 1) * 7 + i - 7 = j * 7 + i := by omega
    rw [e]
    exact this
 rcases h with ⟨h1, _, a, cap, h2⟩ | ⟨c, off, cap, h1, h3⟩
 ·exact ⟨a, cap, by rw [h2, h1], fun j hj => by omega⟩
 ·refine ⟨_, _, h1, fun j hj => ⟨c, off, rfl, fun i v hv => ?_⟩⟩
  have hi : i < 7 := by
   have := (List.getElem?_eq_some_iff.1 hv).1
   simpa [slCell] using this
  have hb : j * 7 + i < (slCells l).length := by rw [hlen]; omega
  have h4 := hget l j hj i hi
  rw [← List.getElem?_eq_getElem, hv, List.getElem?_eq_getElem hb] at h4
  rw [Nat.add_assoc]
  exact (h3 (j * 7 + i) hb).trans h4
structure PgAt (w : World) (b : Nat) (items : List (List UInt8)) (iv : Value) : Prop where
 blk : Blk w b 24 (pgCells (pageOf items) iv)
 own : w.ownsRow (b + 1) 9 1 iv items.length (sCells items)
theorem PgAt.fits {w w' : World} {b : Nat} {l : List (List UInt8)} {iv : Value} (h : PgAt w b l iv) (g : Grow w w') : PgAt w' b l iv := ⟨h.blk.fits g, owns_fits h.own g⟩
theorem PgAt.stands {w w1 : World} {b : Nat} {l : List (List UInt8)} {iv : Value} (h : PgAt w b l iv) {o : Obj} {row : Option Nat} (hg : (w.alloc o).grownBy w1 row) (hr : ∀ g, row = some g → b + 1 ≤ g) : Blk w1 b 24 (pgCells (pageOf l) iv) := by
 have h1 := h.blk.alloc o
 have hl := h1.lt
 unfold Blk at *
 rw [hg.block b hl (fun e => by have := hr b e.symm; omega)]
 exact h1
theorem PgAt.push {w w1 : World} {b : Nat} {l : List (List UInt8)} {iv v' : Value} (h : PgAt w b l iv) {o : Obj} (hg : (w.alloc o).grownBy w1 iv.ownBlock) {x : List UInt8}
  (hown : w1.ownsRow (b + 1) 9 1 v' (l.length + 1) (sCells l ++ [.string (str x)])) : PgAt (w1.setCell ⟨b, 5, none⟩ v') b (l ++ [x]) v' := by
 have hB := h.stands hg (fun g e => (h.own.lt g e).1)
 refine ⟨hB.set 5 v', own_set ?_ (by omega)⟩
 simpa [sCells] using hown
theorem infoString : (Tryz.prog.info? 9).map (fun i => (i.zero, i.size, i.bytes)) = some (some (.string ⟨#[]⟩), 1, 16) := by kernel_rfl
theorem cell_kepte_str (w : World) (x : Value) (t : TypeId) : ∀ j u, [x][j]? = some u → (w.alloc (.cells #[x] t)).cell? ((⟨w.heap.size, 0, none⟩ : Addr).add j) = some u := cell_one_new w x t
set_option maxRecDepth 100000 in
set_option maxHeartbeats 2000000 in
theorem page_any (lv : Value) (l : List Sl) (w_ : World) (hl : Row w_ 100 lv l.length (slCells l)) (hlen : (l.length : Int) ≤ 1759218604441) :
  Calls Tryz.prog 19 #[lv] w_ fun e w' => ∃ iv, e = .returned (pgV (pageS l) iv) ∧ Items w' iv (pageS l).items ∧ Below w_.heap.size w_ w' := by
 obtain ⟨sa, sc, rfl, hget⟩ := slots_get hl
 obtain ⟨w0, hw0⟩ : ∃ w0, w0 = (w_.alloc (.cells #[.int .i64 0, .int .i64 0, .int .i64 0, .int .i64 0, .string ⟨#[]⟩, .slice none 0 0] 24)).alloc (.cells #[.int .i64 1, .int .i64 2, .int .i64 0, .int .i64 0, .string ⟨#[]⟩, .slice none 0 0] 24) := ⟨_, rfl⟩
 have hg0 : Grow w_ w0 := by subst hw0; exact ((Grow.refl w_).alloc _).alloc _
 have hR0 : Blk w0 w_.heap.size 24 pg0 := by subst hw0; exact (Blk.new w_ _ pg0).alloc _
 obtain ⟨b, hb⟩ : ∃ b, b = w_.heap.size + 1 := ⟨_, rfl⟩
 have hP0 : PgAt w0 b [] (.slice none 0 0) := by
  refine ⟨?_, World.ownsRow_nil _ _ _ _⟩
  have := Blk.new (w_.alloc (.cells #[.int .i64 0, .int .i64 0, .int .i64 0, .int .i64 0, .string ⟨#[]⟩, .slice none 0 0] 24)) 24 (pgCells (pageOf []) (.slice none 0 0))
  have e : (w_.alloc (.cells #[.int .i64 0, .int .i64 0, .int .i64 0, .int .i64 0, .string ⟨#[]⟩, .slice none 0 0] 24)).heap.size = b := by rw [hb]; simp
  rw [e] at this
  subst hw0; exact this
 obtain ⟨iS, hiS, hzS0, hzS1, hzS2⟩ := info_parts infoString
 have Hget := keep hget
 have HLen := keep hlen
 have HB := keep hb
 clear hl hget
 go_enter Tryz.func19, Tryz.ntmps19
 go_upto_region 2 with fail
 rw [← hw0]
 rw [← hb]
 clear hw0 hb
 go_wp2_with fail
 go_loopw [4] (fun i wr => ∃ n : Nat, n ≤ l.length ∧ i = .int .i64 n ∧ (∃ iv, PgAt wr b ((l.take n).map slotS) iv) ∧ Below b w0 wr) (fun i _ => l.length - (intOf i).toNat)
 case atStart => exact ⟨0, Nat.zero_le _, rfl, ⟨_, hP0⟩, Below.refl _ _⟩
 case round =>
  obtain ⟨n, hn, rfl, ⟨iv, hP⟩, hG⟩ := hrel
  by_cases hlt : n < l.length
  ·obtain ⟨c, off, rfl, hc⟩ := Hget.out n hlt
   have hstep : (l.take (n + 1)).map slotS = (l.take n).map slotS ++ [slotS (l.getD n sl0)] := by
    rw [List.take_add_one, List.map_append]; simp [hlt]
   have hil : ((l.take n).map slotS).length ≤ n := by simp; omega
   generalize (l.take n).map slotS = I at *
   generalize l.getD n sl0 = X at *
   have he := fun u => enc_any X u
   have hd := fun u => dead_any X.key u
   obtain ⟨K, xmin, xmax, frozen, key, val, raw⟩ := X
   have hgr : Grow w_ wr := Below.trans hg0 (hG.mono (by have := HB.out; omega))
   have s0 := cell_kept hgr (Nat.le_refl _) (hc 0 _ rfl)
   have s1 := cell_kept hgr (Nat.le_refl _) (hc 1 _ rfl)
   have s2 := cell_kept hgr (Nat.le_refl _) (hc 2 _ rfl)
   have s3 := cell_kept hgr (Nat.le_refl _) (hc 3 _ rfl)
   have s4 := cell_kept hgr (Nat.le_refl _) (hc 4 _ rfl)
   have s5 := cell_kept hgr (Nat.le_refl _) (hc 5 _ rfl)
   have s6 := cell_kept hgr (Nat.le_refl _) (hc 6 _ rfl)
   simp only [Nat.add_zero] at s0
   have hsl : slotS ⟨K, xmin, xmax, frozen, key, val, raw⟩ = if K = 0 then [] else if K = 1 then (deadSS key).1 else if K = 2 then (if (encS ⟨K, xmin, xmax, frozen, key, val, raw⟩).2 = 0 then (encS ⟨K, xmin, xmax, frozen, key, val, raw⟩).1 else raw) else raw := rfl
   rw [hsl] at hstep
   dsimp only at he hd
   clear hsl
   generalize encS ⟨K, xmin, xmax, frozen, key, val, raw⟩ = E at *
   generalize deadSS key = D at *
   have HKl : Kept (I.length < 1759218604441) := keep (by have := HLen.out; omega)
   have HStep := keep hstep
   have He := keep he
   have Hd := keep hd
   clear hstep he hd hc hil hgr
   by_cases h0 : K = 0
   ·subst h0
    have hs := HStep.out
    rw [if_pos rfl] at hs
    have HStep := keep hs
    clear hs
    go_wp2_with fail
    refine (free_any _).mono ?_
    rintro e x1 ⟨rfl, rfl⟩
    obtain ⟨p0, p1, p2, p3, p4, p5, q0, q1, q2, q3, q4, q5⟩ := pgres hP.blk
    go_wp2_with ((at_builtin; go_must (refine wpList_append_own_at _ rfl _ _ 22 rfl (b + 1) 9 iS (.string ⟨#[]⟩) 1 16 Tryz.underlying22 hiS hzS0 hzS1 hzS2 rfl (by decide) _ _ _ rfl (hP.own.alloc _) ⟨wr.heap.size, 0, none⟩ 1 1 [.string (str [])] rfl rfl (cell_kepte_str _ _ _) (by intro u hu; simp at hu; subst hu; rfl) (by have := HKl.out; (try dsimp only at *); unfold maxLen; omega) (by have := HKl.out; (try dsimp only at *); omega) (by have := hP.blk.lt; simp; omega) ?_); intro v' xa hown' hgrow _ hat; obtain ⟨a', cap', rfl⟩ := own_form hown'; have hSt := hP.stands hgrow (fun g e => (hP.own.lt g e).1); obtain ⟨u0, u1, u2, u3, u4, u5, t0, t1, t2, t3, t4, t5⟩ := pgres hSt; have hPa := hP.push hgrow (x := []) hown'; have hGa := round_below (i := 5) (v' := .slice a' (I.length + 1) cap') hG (Nat.le_of_lt hP.blk.lt) hgrow (fun g e => (hP.own.lt g e).1); have HPa := keep hPa; have HGa := keep hGa; clear hPa hGa hSt))
    go_roundw
    case rel =>
     refine ⟨n + 1, by omega, by go_num, ?_, HGa.out⟩
     rw [HStep.out]
     exact ⟨_, HPa.out⟩
    case measure => simp [intOf]; omega
   ·by_cases h1 : K = 1
    ·subst h1
     have hs := HStep.out
     rw [if_neg (by decide), if_pos rfl] at hs
     have HStep := keep hs
     clear hs
     go_wp2_with fail
     refine (Hd.out _).mono ?_
     rintro e x1 ⟨rfl, hb1⟩
     have hP1 := hP.fits hb1
     have hG1 := Below.trans hG (Below.mono hb1 (Nat.le_of_lt hP.blk.lt))
     obtain ⟨p0, p1, p2, p3, p4, p5, q0, q1, q2, q3, q4, q5⟩ := pgres hP1.blk
     go_wp2_with ((at_builtin; go_must (refine wpList_append_own_at _ rfl _ _ 22 rfl (b + 1) 9 iS (.string ⟨#[]⟩) 1 16 Tryz.underlying22 hiS hzS0 hzS1 hzS2 rfl (by decide) _ _ _ rfl (hP1.own.alloc _) ⟨x1.heap.size, 0, none⟩ 1 1 [.string (str D.1)] rfl rfl (cell_kepte_str _ _ _) (by intro u hu; simp at hu; subst hu; rfl) (by have := HKl.out; (try dsimp only at *); unfold maxLen; omega) (by have := HKl.out; (try dsimp only at *); omega) (by have := hP1.blk.lt; simp; omega) ?_); intro v' xa hown' hgrow _ hat; obtain ⟨a', cap', rfl⟩ := own_form hown'; have hSt := hP1.stands hgrow (fun g e => (hP1.own.lt g e).1); obtain ⟨u0, u1, u2, u3, u4, u5, t0, t1, t2, t3, t4, t5⟩ := pgres hSt; have hPa := hP1.push hgrow (x := D.1) hown'; have hGa := round_below (i := 5) (v' := .slice a' (I.length + 1) cap') hG1 (Nat.le_of_lt hP1.blk.lt) hgrow (fun g e => (hP1.own.lt g e).1); have HPa := keep hPa; have HGa := keep hGa; clear hPa hGa hSt))
     go_roundw
     case rel =>
      refine ⟨n + 1, by omega, by go_num, ?_, HGa.out⟩
      rw [HStep.out]
      exact ⟨_, HPa.out⟩
     case measure => simp [intOf]; omega
    ·by_cases h2 : K = 2
     ·subst h2
      have hs := HStep.out
      rw [if_neg (by decide), if_neg (by decide), if_pos rfl] at hs
      have HStep := keep hs
      clear hs
      go_wp2_with fail
      refine (He.out _).mono ?_
      rintro e x1 ⟨rfl, hb1⟩
      have hP1 := hP.fits hb1
      have hG1 := Below.trans hG (Below.mono hb1 (Nat.le_of_lt hP.blk.lt))
      obtain ⟨p0, p1, p2, p3, p4, p5, q0, q1, q2, q3, q4, q5⟩ := pgres hP1.blk
      by_cases hE : E.2 = 0
      ·have hs := HStep.out
       rw [if_pos hE] at hs
       have HStep := keep hs
       clear hs
       have qE : (E.2 == 0) = true := by simp [hE]
       clear hE
       go_wp2_with ((at_builtin; go_must (refine wpList_append_own_at _ rfl _ _ 22 rfl (b + 1) 9 iS (.string ⟨#[]⟩) 1 16 Tryz.underlying22 hiS hzS0 hzS1 hzS2 rfl (by decide) _ _ _ rfl (hP1.own.alloc _) ⟨x1.heap.size, 0, none⟩ 1 1 [.string (str E.1)] rfl rfl (cell_kepte_str _ _ _) (by intro u hu; simp at hu; subst hu; rfl) (by have := HKl.out; (try dsimp only at *); unfold maxLen; omega) (by have := HKl.out; (try dsimp only at *); omega) (by have := hP1.blk.lt; simp; omega) ?_); intro v' xa hown' hgrow _ hat; obtain ⟨a', cap', rfl⟩ := own_form hown'; have hSt := hP1.stands hgrow (fun g e => (hP1.own.lt g e).1); obtain ⟨u0, u1, u2, u3, u4, u5, t0, t1, t2, t3, t4, t5⟩ := pgres hSt; have hPa := hP1.push hgrow (x := E.1) hown'; have hGa := round_below (i := 5) (v' := .slice a' (I.length + 1) cap') hG1 (Nat.le_of_lt hP1.blk.lt) hgrow (fun g e => (hP1.own.lt g e).1); have HPa := keep hPa; have HGa := keep hGa; clear hPa hGa hSt))
       go_roundw
       case rel =>
        refine ⟨n + 1, by omega, by go_num, ?_, HGa.out⟩
        rw [HStep.out]
        exact ⟨_, HPa.out⟩
       case measure => simp [intOf]; omega
      ·have hs := HStep.out
       rw [if_neg hE] at hs
       have HStep := keep hs
       clear hs
       have qE : (E.2 == 0) = false := by simp [hE]
       clear hE
       go_wp2_with ((at_builtin; go_must (refine wpList_append_own_at _ rfl _ _ 22 rfl (b + 1) 9 iS (.string ⟨#[]⟩) 1 16 Tryz.underlying22 hiS hzS0 hzS1 hzS2 rfl (by decide) _ _ _ rfl (hP1.own.alloc _) ⟨x1.heap.size, 0, none⟩ 1 1 [.string (str raw)] rfl rfl (cell_kepte_str _ _ _) (by intro u hu; simp at hu; subst hu; rfl) (by have := HKl.out; (try dsimp only at *); unfold maxLen; omega) (by have := HKl.out; (try dsimp only at *); omega) (by have := hP1.blk.lt; simp; omega) ?_); intro v' xa hown' hgrow _ hat; obtain ⟨a', cap', rfl⟩ := own_form hown'; have hSt := hP1.stands hgrow (fun g e => (hP1.own.lt g e).1); obtain ⟨u0, u1, u2, u3, u4, u5, t0, t1, t2, t3, t4, t5⟩ := pgres hSt; have hPa := hP1.push hgrow (x := raw) hown'; have hGa := round_below (i := 5) (v' := .slice a' (I.length + 1) cap') hG1 (Nat.le_of_lt hP1.blk.lt) hgrow (fun g e => (hP1.own.lt g e).1); have HPa := keep hPa; have HGa := keep hGa; clear hPa hGa hSt))
       go_roundw
       case rel =>
        refine ⟨n + 1, by omega, by go_num, ?_, HGa.out⟩
        rw [HStep.out]
        exact ⟨_, HPa.out⟩
       case measure => simp [intOf]; omega
     ·have q0 : (K == 0) = false := by simp [h0]
      have q1 : (K == 1) = false := by simp [h1]
      have q2 : (K == 2) = false := by simp [h2]
      have hs := HStep.out
      rw [if_neg h0, if_neg h1, if_neg h2] at hs
      have HStep := keep hs
      clear hs
      clear h0 h1 h2
      obtain ⟨p0, p1, p2, p3, p4, p5, q0, q1, q2, q3, q4, q5⟩ := pgres hP.blk
      go_wp2_with ((at_builtin; go_must (refine wpList_append_own_at _ rfl _ _ 22 rfl (b + 1) 9 iS (.string ⟨#[]⟩) 1 16 Tryz.underlying22 hiS hzS0 hzS1 hzS2 rfl (by decide) _ _ _ rfl (hP.own.alloc _) ⟨wr.heap.size, 0, none⟩ 1 1 [.string (str raw)] rfl rfl (cell_kepte_str _ _ _) (by intro u hu; simp at hu; subst hu; rfl) (by have := HKl.out; (try dsimp only at *); unfold maxLen; omega) (by have := HKl.out; (try dsimp only at *); omega) (by have := hP.blk.lt; simp; omega) ?_); intro v' xa hown' hgrow _ hat; obtain ⟨a', cap', rfl⟩ := own_form hown'; have hSt := hP.stands hgrow (fun g e => (hP.own.lt g e).1); obtain ⟨u0, u1, u2, u3, u4, u5, t0, t1, t2, t3, t4, t5⟩ := pgres hSt; have hPa := hP.push hgrow (x := raw) hown'; have hGa := round_below (i := 5) (v' := .slice a' (I.length + 1) cap') hG (Nat.le_of_lt hP.blk.lt) hgrow (fun g e => (hP.own.lt g e).1); have HPa := keep hPa; have HGa := keep hGa; clear hPa hGa hSt))
      go_roundw
      case rel =>
       refine ⟨n + 1, by omega, by go_num, ?_, HGa.out⟩
       rw [HStep.out]
       exact ⟨_, HPa.out⟩
      case measure => simp [intOf]; omega
  ·have e : n = l.length := by omega
   subst e
   rw [List.take_length] at hP
   have hb0 := HB.out
   have hR := hR0.below hG (by omega)
   have hS : pageS l = pageOf (l.map slotS) := rfl
   have hsl : (l.map slotS).length = l.length := by simp
   generalize l.map slotS = I at *
   have HS := keep hS
   obtain ⟨ia, ic, rfl⟩ := own_form hP.own
   obtain ⟨p0, p1, p2, p3, p4, p5, q0, q1, q2, q3, q4, q5⟩ := pgres hP.blk
   obtain ⟨r0, r1, r2, r3, r4, r5, f0, f1, f2, f3, f4, f5⟩ := pgres hR
   have Hset := keep (pgset hR (.int .i64 1) (.int .i64 2) (.int .i64 0) (.int .i64 0) (.string (str [])) (.slice ia I.length ic))
   have Hbut := keep (pgbut wr w_.heap.size (.int .i64 1) (.int .i64 2) (.int .i64 0) (.int .i64 0) (.string (str [])) (.slice ia I.length ic))
   have HIt := keep (items_but (own_row hP.own) Hbut.out hR (by decide))
   have HG := keep (But.below (Below.trans hg0 (Below.mono hG (by omega))) Hbut.out (Nat.le_refl _) (by have := hR.lt; omega))
   unfold pageOf at p0 p1 p2 p3 p4
   clear hP hG hR hR0 hS hsl hb0
   go_wp2_with fail
   rw [HS.out]
   refine bodyPost_ret (v := pgV (pageOf I) (.slice ia I.length ic)) ?_ rfl ⟨_, rfl, HIt.out.weak, HG.out⟩
   obtain ⟨s0, s1, s2, s3, s4, s5, _⟩ := pgres Hset.out
   simp [results, Tryz.results19, go_sem, s0, s1, s2, s3, s4, s5, pgV, pageOf]
end Go.Proofs.YtmhepfehcakmjaaGreat.Vac
