import Derived.Test.YtmhepfehcakmjaaGreatKOwn2
import Derived.Test.YtmhepfehcakmjaaGreatKOp2
import Derived.Test.YtmhepfehcakmjaaGreatKLexm
namespace Go.Proofs.YtmhepfehcakmjaaGreat
open Go.RowKit
attribute [local go_sem] givesF_none givesF_some evalF_tmp evalF_const evalF_global evalF_func lookL isB_bool isB_undef givesUpon_value givesUpon_skip givesUpon_enter
def From (N : Nat) (u v : World) : Prop := u.heap.size ≤ v.heap.size ∧ (N ≤ u.heap.size → Below N u v)
theorem From.refl (N : Nat) (u : World) : From N u u := ⟨Nat.le_refl _, fun _ => Below.refl _ _⟩
theorem From.grow {N : Nat} {u v : World} (h : Grow u v) : From N u v := ⟨h.size, fun hN => Below.mono h hN⟩
theorem From.trans {N : Nat} {u v w : World} (h : From N u v) (k : From N v w) : From N u w := ⟨Nat.le_trans h.1 k.1, fun hN => Below.trans (h.2 hN) (k.2 (Nat.le_trans hN h.1))⟩
theorem owns_low {w : World} {b B e s n : Nat} {v : Value} {xs : List Value} (h : w.ownsRow b e s v n xs) (hB : B ≤ b) : w.ownsRow B e s v n xs := by
 refine ⟨h.1, ?_⟩
 rcases h.2 with h2 | ⟨g, cap, cur, h1, h2, h3⟩
 ·exact .inl h2
 ·exact .inr ⟨g, cap, cur, h1, Nat.le_trans hB h2, h3⟩
theorem owns_capd {w : World} {B e s n : Nat} {v : Value} {xs : List Value} (h : w.ownsRow B e s v n xs) : Capd v := by
 rcases h.2 with ⟨rfl, _⟩ | ⟨g, cap, cur, rfl, _, _, hn, _⟩
 ·exact Nat.le_refl 0
 ·exact hn
theorem items_owned {w : World} {B n : Nat} {v : Value} {l : List (List UInt8)} (h : w.ownsRow B 9 1 v n (sCells l)) : ItemsC w v l := by
 have hn : n = l.length := by have := h.1; rw [sCells_length] at this; omega
 subst hn
 exact ⟨own_rowO h, owns_capd h⟩
def putN (P : Pg) (i : Nat) (x : List UInt8) : Pg × Int := turnedN P (P.items.take i ++ x :: P.items.drop i)
set_option maxRecDepth 100000 in
set_option maxHeartbeats 4000000 in
theorem put_any (P : Pg) (iv : Value) (i : Nat) (x : List UInt8) (w_ : World) (hi : Items w_ iv P.items) (hi2 : i ≤ P.items.length) (hs : ∀ y ∈ P.items, (y.length : Int) ≤ 140737488355328) (hx : (x.length : Int) ≤ 140737488355328) (hh : (P.high.length : Int) ≤ 140737488355328) (hl : P.items.length ≤ 8796093021980) :
  Calls Tryz.prog 75 #[pgV P iv, .int .i64 i, .string (str x)] w_ (PgPost (putN P i x).1 (putN P i x).2 w_) := by
 obtain ⟨w0, hw0⟩ : ∃ w0, w0 = (w_.alloc (.cells (pgCells P iv).toArray 24)).alloc (.cells #[.int .i64 0, .int .i64 0, .int .i64 0, .int .i64 0, .string ⟨#[]⟩, .slice none 0 0] 24) := ⟨_, rfl⟩
 have hg0 : Grow w_ w0 := by subst hw0; exact ((Grow.refl w_).alloc _).alloc _
 have hP0 : Blk w0 w_.heap.size 24 (pgCells P iv) := by subst hw0; exact (Blk.new w_ _ _).alloc _
 have hR0 : Blk w0 (w_.heap.size + 1) 24 [.int .i64 0, .int .i64 0, .int .i64 0, .int .i64 0, .string ⟨#[]⟩, .slice none 0 0] := by
  have := Blk.new (w_.alloc (.cells (pgCells P iv).toArray 24)) 24 [.int .i64 0, .int .i64 0, .int .i64 0, .int .i64 0, .string ⟨#[]⟩, .slice none 0 0]
  have e : (w_.alloc (.cells (pgCells P iv).toArray 24)).heap.size = w_.heap.size + 1 := by simp
  rw [e] at this
  subst hw0; exact this
 have hlt := hR0.lt
 obtain ⟨ia, ic, rfl⟩ := items_form hi
 have hsl : ∀ y ∈ P.items.take i ++ x :: P.items.drop i, (y.length : Int) ≤ 140737488355328 := by
  intro y hy
  rcases List.mem_append.1 hy with h | h
  ·exact hs y (List.mem_of_mem_take h)
  ·rcases List.mem_cons.1 h with rfl | h
   ·exact hx
   ·exact hs y (List.mem_of_mem_drop h)
 have hll : ((P.items.take i ++ x :: P.items.drop i).length : Int) ≤ 140737488355328 := by simp; omega
 have ht := fun (u : World) (v : Value) (hv : ItemsC u v (P.items.take i ++ x :: P.items.drop i)) => pturned_any P ia P.items.length ic v (P.items.take i ++ x :: P.items.drop i) u hv hsl hh hll
 have hd : putN P i x = turnedN P (P.items.take i ++ x :: P.items.drop i) := rfl
 rw [hd]
 clear hd
 generalize turnedN P (P.items.take i ++ x :: P.items.drop i) = R at *
 obtain ⟨Q, c⟩ := R
 dsimp only at ht
 unfold PgPost at ht
 have HT := keep ht
 have HP0 := keep (fun (u : World) (hu : From w0.heap.size w0.drew u) => Blk.below (w := w0.drew) hP0 (hu.2 (Nat.le_refl _)) hP0.lt)
 have HR0 := keep (fun (u : World) (hu : From w0.heap.size w0.drew u) => Blk.below (w := w0.drew) hR0 (hu.2 (Nat.le_refl _)) hR0.lt)
 have HI0 := keep (fun (u : World) (hu : From w0.heap.size w0.drew u) => (Row.fits (Row.fits hi hg0) (Grow.undrew (u := w0) (hu.2 (Nat.le_refl _))) : Items u _ P.items))
 have HL := keep (show P.items.length ≤ 8796093021981 by omega)
 have HLe := keep hi2
 have hle : ¬ ((P.items.length : Int) < (i : Int)) := by omega
 have HP := keep hP0
 clear ht hsl hll hi hs hR0
 unfold pgCells at hw0 hP0
 obtain ⟨p0, p1, p2, p3, p4, p5, _⟩ := pgres hP0
 unfold pgV
 go_enter Tryz.func75, Tryz.ntmps75
 go_upto_region 1 with fail
 rw [← hw0]
 clear hw0
 go_upto_region 3 with fail
 clear p0 p1 p2 p3 p4 p5 hP0
 refine wp_region_m_named (by kernel_rfl) 11 7 (fun j => decide (7 ≤ j)) (From w0.heap.size) (From.refl _ _) (fun _ _ => From.grow) (fun _ _ _ => From.trans) (by kernel_rfl)  (by kernel_rfl) [(18, 0), (19, 1), (20, 2), (21, 3), (22, 4), (23, 5), (24, 6), (25, 7), (26, 8), (27, 9), (28, 10)] (by kernel_rfl) [(0, true), (1, true), (2, true), (3, true), (4, true), (5, true), (6, true), (7, true), (8, true), (9, true), (10, true)] (by kernel_rfl) rfl rfl ?_
 intro a0 ha0
 have hsz : a0.tmps.size = 29 := (size_at ha0).trans rfl
 have s1 := slot_at ha0 1 rfl
 have s2 := slot_at ha0 2 rfl
 have s3 := slot_at ha0 3 rfl
 have HA0 := keep ha0
 clear ha0
 apply lexm_eq hsz [] [(19, 1), (20, 2), (21, 3), (22, 4), (23, 5), (24, 6), (25, 7), (27, 9), (28, 10)] none (by kernel_rfl) (by kernel_rfl) (by kernel_rfl) (by kernel_rfl) rfl (by decide)
 ·intro xs w hw hp K hK
  obtain ⟨p0, p1, p2, p3, p4, p5, _⟩ := pgres (HP0.out w hw)
  go_simp
  exact hK _ (Grow.refl _)
 apply lexm_eq hsz [] [(18, 0), (21, 3), (22, 4), (23, 5), (24, 6), (25, 7), (26, 8), (27, 9), (28, 10)] none (by kernel_rfl) (by kernel_rfl) (by kernel_rfl) (by kernel_rfl) rfl (by decide)
 ·intro xs w hw hp K hK
  go_simp
  exact hK _ (Grow.refl _)
 apply lexm_eq hsz [(1, true)] [(18, 0), (19, 1), (22, 4), (23, 5), (24, 6), (25, 7), (26, 8), (27, 9), (28, 10)] none (by kernel_rfl) (by kernel_rfl) (by kernel_rfl) (by kernel_rfl) rfl (by decide)
 ·intro xs w hw hp K hK
  simp only [hz] at hp
  obtain ⟨p0, p1, p2, p3, p4, p5, _⟩ := pgres (HP0.out w hw)
  go_simp
  exact hK _ (Grow.refl _)
 refine lexm_until hsz (fun v u => u.ownsRow w0.heap.size 9 1 v P.items.length (sCells P.items)) (fun _ _ _ g h => owns_fits h g) [(2, true)] [(18, 0), (19, 1), (20, 2), (22, 4), (23, 5), (24, 6), (26, 8), (27, 9), (28, 10)] none (by kernel_rfl) (by kernel_rfl) (by kernel_rfl) (by kernel_rfl) rfl (by decide) ?_ ?_
 ·intro xs w hw hp K hK
  simp only [hz] at hp
  go_simp
  exact (clone_any _ _ w (HI0.out w hw) HL.out).mono fun e w' ⟨v', h1, h2, h3⟩ => ⟨v', h1, hK _ _ (owns_low h2 (hw.2 (Nat.le_refl _)).size) h3⟩
 apply lexm_eq hsz [] [(18, 0), (19, 1), (20, 2), (21, 3), (23, 5), (24, 6), (26, 8), (27, 9), (28, 10)] none (by kernel_rfl) (by kernel_rfl) (by kernel_rfl) (by kernel_rfl) rfl (by decide)
 ·intro xs w hw hp K hK
  go_simp
  exact hK _ (Grow.refl _)
 apply lexm_eq hsz [] [(18, 0), (19, 1), (20, 2), (21, 3), (22, 4), (25, 7), (26, 8), (27, 9), (28, 10)] none (by kernel_rfl) (by kernel_rfl) (by kernel_rfl) (by kernel_rfl) rfl (by decide)
 ·intro xs w hw hp K hK
  go_simp
  exact hK _ (Grow.refl _)
 refine lexm_until hsz (fun v u => ∃ vb vc, v = .slice (some ⟨vb, 0, none⟩) 1 vc ∧ Blk u vb 9 [.string (str x)]) (fun _ _ _ g h => h.elim fun vb h => h.elim fun vc h => ⟨vb, vc, h.1, h.2.fits g⟩) [(5, true)] [(18, 0), (19, 1), (20, 2), (21, 3), (22, 4), (23, 5), (26, 8), (27, 9), (28, 10)] none (by kernel_rfl) (by kernel_rfl) (by kernel_rfl) (by kernel_rfl) rfl (by decide) ?_ ?_
 ·intro xs w hw hp K hK
  simp only [hz] at hp
  go_simp
  exact hK _ _ ⟨_, _, rfl, Blk.new w _ [_]⟩ ((Grow.refl _).alloc _)
 refine lexm_it rfl hsz (fun v u => u.ownsRow w0.heap.size 9 1 v (P.items.length + 1) (sCells (P.items.take i ++ x :: P.items.drop i))) (fun _ _ _ g h => owns_fits h g) [(3, true), (4, true), (6, true)] [(18, 0), (19, 1), (20, 2), (21, 3), (22, 4), (23, 5), (24, 6), (27, 9), (28, 10)] none (by kernel_rfl) (by kernel_rfl) (by kernel_rfl) (by kernel_rfl) rfl ?_ ?_
 ·intro xs w hw hp K hK
  simp only [hz] at hp
  obtain ⟨h3, h4, vb, vc, h6, hv⟩ := hp
  go_simp
  exact (insert_own w0.heap.size i vb vc (xs 3) P.items x w h3 HLe.out hv (hw.2 (Nat.le_refl _)).size HL.out).mono fun e w' ⟨v', h1, h2, h5⟩ => ⟨v', h1, hK _ _ h2 ⟨h5.size, fun _ => h5⟩⟩
 refine lexm_late rfl hsz (fun v u => ∃ iv, v = .tuple #[pgV Q iv, .int .i64 c] ∧ ItemsC u iv Q.items) (fun _ _ _ g h => h.elim fun iv h => ⟨iv, h.1, h.2.fits g⟩) [(0, true), (7, true)] [(18, 0), (19, 1), (20, 2), (21, 3), (22, 4), (23, 5), (24, 6), (25, 7)] none (by kernel_rfl) (by kernel_rfl) (by kernel_rfl) (by kernel_rfl) rfl (by decide) ?_ ?_
 ·intro xs w hw hp K hK
  simp only [hz] at hp
  obtain ⟨h0, h7⟩ := hp
  go_simp
  exact (HT.out w (xs 7) (items_owned h7)).mono fun e w' ⟨iv, h1, h2, h3⟩ => ⟨_, h1, hK _ _ ⟨iv, rfl, h2⟩ h3⟩
 refine lexm_late rfl hsz (fun v u => ∃ iv, v = pgV Q iv ∧ ItemsC u iv Q.items) (fun _ _ _ g h => h.elim fun iv h => ⟨iv, h.1, h.2.fits g⟩) [(8, true)] [(18, 0), (19, 1), (20, 2), (21, 3), (22, 4), (23, 5), (24, 6), (25, 7), (26, 8), (28, 10)] none (by kernel_rfl) (by kernel_rfl) (by kernel_rfl) (by kernel_rfl) rfl (by decide) ?_ ?_
 ·intro xs w hw hp K hK
  simp only [hz] at hp
  obtain ⟨iv8, h8, hit⟩ := hp
  go_simp
  exact hK _ _ ⟨iv8, rfl, hit⟩ (Grow.refl _)
 refine lexm_late rfl hsz (fun v _ => v = .int .i64 c) (fun _ _ _ _ h => h) [(8, true)] [(18, 0), (19, 1), (20, 2), (21, 3), (22, 4), (23, 5), (24, 6), (25, 7), (26, 8), (27, 9)] none (by kernel_rfl) (by kernel_rfl) (by kernel_rfl) (by kernel_rfl) rfl (by decide) ?_ ?_
 ·intro xs w hw hp K hK
  simp only [hz] at hp
  obtain ⟨iv8, h8, hit⟩ := hp
  go_simp
  exact hK _ _ rfl (Grow.refl _)
 intro xs w hw hp
 have ha0 := HA0.out
 clear HA0 hsz s1 s2 s3
 simp only [hz] at hp
 have h9 := hp.2.2.2.2.2.2.2.2.2.1
 have h10 := hp.2.2.2.2.2.2.2.2.2.2
 clear hp
 subst ha0
 simp only [putAll, h10]
 obtain ⟨iv9, h9, hit⟩ := h9
 simp only [h9]
 obtain ⟨qa, qc, rfl⟩ := itemsS_form hit.1
 have hR := HR0.out w hw
 have hb : Below w0.heap.size w0 w := Grow.undrew (u := w0) (hw.2 (Nat.le_refl _))
 have hbb : Below w_.heap.size w_ w := Below.trans hg0 (hb.mono (by omega))
 obtain ⟨r0, r1, r2, r3, r4, r5, f0, f1, f2, f3, f4, f5⟩ := pgres hR
 have Hset := keep (pgset hR (.int .i64 Q.lsn) (.int .i64 Q.kind) (.int .i64 Q.level) (.int .i64 Q.right) (.string (str Q.high)) (.slice qa Q.items.length qc))
 have Hbut := keep (pgbut w (w_.heap.size + 1) (.int .i64 Q.lsn) (.int .i64 Q.kind) (.int .i64 Q.level) (.int .i64 Q.right) (.string (str Q.high)) (.slice qa Q.items.length qc))
 have Hit := keep hit
 have HR := keep hR
 have Hbb := keep hbb
 have hlt2 := hR.lt
 clear hw h9 h10 hit hR hb hbb HR0 HI0 HP0 HT
 unfold pgV
 go_wp2_with fail
 refine bodyPost_ret (v := .tuple #[pgV Q (.slice qa Q.items.length qc), .int .i64 c]) ?_ rfl ⟨_, rfl, itemsC_but Hit.out Hbut.out HR.out (by decide), But.below Hbb.out Hbut.out (by omega) (by omega)⟩
 obtain ⟨s0, s1, s2, s3, s4, s5, _⟩ := pgres Hset.out
 simp [results, Tryz.results75, go_sem, s0, s1, s2, s3, s4, s5, pgV]
end Go.Proofs.YtmhepfehcakmjaaGreat
