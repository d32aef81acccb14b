import Derived.Test.YtcdapdcablnhpaaGreatKCg2
import Derived.Test.YtcdapdcablnhpaaGreatKBl1
import Derived.Test.YtcdapdcablnhpaaGreatKSp2
import Derived.Test.YtcdapdcablnhpaaGreatKLexn
import Derived.Test.YtcdapdcablnhpaaGreatKRu2
import Derived.Deep.CutRange
namespace Go.Proofs.YtcdapdcablnhpaaGreat
open Go.RowKit
def halfK (P : Pg) : Nat := (P.items.length + 1) / 2
def borderG (P : Pg) : En := (ensN P).getD (if P.level = 0 then halfK P - 1 else halfK P) leastE
def leftG (P : Pg) (r : Int) : Pg := { P with items := P.items.take (halfK P), right := r, high := enBytes (borderG P) [] }
def headG (P : Pg) : List UInt8 := enBytes leastE [(kidsN P).getD (halfK P) 0]
def rightI (P : Pg) : List (List UInt8) := if P.level = 0 then P.items.drop (halfK P) else headG P :: P.items.drop (halfK P + 1)
def rightG (P : Pg) : Pg := { P with items := rightI P }
theorem round_at {P : Pg} (h : openOk P = true) {j : Nat} (hj : j < P.items.length) : roundOk P.level (hiN P) (bdN P) j (itemN P.level (P.items.getD (j - 1) [])) (itemN P.level P.items[j]) = true := by
 unfold openOk at h;simp only [Bool.and_eq_true] at h;have h1 := okTo_at h.2.1 j hj
 rwa [show P.items.getD j [] = P.items[j] by simp [hj]] at h1
theorem ens_item (P : Pg) {j : Nat} (hj : j < P.items.length) : (ensN P)[j]'(by rw [ensN_length]; exact hj) = (itemN P.level P.items[j]).1 := by simp [ensN, ensTo]
theorem ens_getD (P : Pg) {j : Nat} (hj : j < P.items.length) : (ensN P).getD j leastE = (itemN P.level P.items[j]).1 := by
 rw [<- ens_item P hj]; simp [ensN_length, hj]
theorem kid_getD (P : Pg) (hlv : P.level ≠ 0) {j : Nat} (hj : j < P.items.length) : (kidsN P).getD j 0 = (itemN P.level P.items[j]).2.1 := by
 have : (kidsN P)[j]'(by rw [kidsN_length hlv]; exact hj) = (itemN P.level P.items[j]).2.1 := by simp [kidsN, kidsTo, hlv]
 rw [<- this]; simp [kidsN_length hlv, hj]
theorem code_item {P : Pg} (h : openOk P = true) {j : Nat} (hj : j < P.items.length) : (itemN P.level P.items[j]).2.2 = 0 := by
 have h1 := round_at h hj;simp only [roundOk, Bool.and_eq_true, decide_eq_true_eq] at h1;exact h1.2.1
theorem items_ne {P : Pg} (h : openOk P = true) {i j : Nat} (hi : i < P.items.length) (hj : j < P.items.length) (hij : i < j) : P.items[i] ≠ P.items[j] := by
 intro e;have h1 := (open_sorted h).at (show i < (ensN P).length by rw [ensN_length]; exact hi) (show j < (ensN P).length by rw [ensN_length]; exact hj) hij;rw [ens_item P hi, ens_item P hj, e, cmpE_self] at h1;exact absurd h1 (by decide)
theorem leaf_item {P : Pg} (h : openOk P = true) (hlv : P.level = 0) {j : Nat} (hj : j < P.items.length) :
  enOk (itemN P.level P.items[j]).1 = true /\ enBytes (itemN P.level P.items[j]).1 [] = P.items[j] := by
 have h1 := code_item h hj;unfold itemN at *;rw [if_pos hlv] at *;have h2 : (decN P.items[j]).2 = 0 := h1;refine ⟨decN_ok h2, ?_⟩;unfold decN at h2 ⊢;cases hd : decOkN P.items[j] with
 | false => rw [hd] at h2; simp at h2
 | true =>
  rw [if_pos rfl];unfold decOkN at hd;rw [Bool.and_eq_true, decide_eq_true_eq] at hd;exact dec_canon _ hd.1
theorem inner_item {P : Pg} (h : openOk P = true) (hlv : P.level ≠ 0) {j : Nat} (hj : j < P.items.length) :
  inB (itemN P.level P.items[j]).2.1 1 65535 = true /\ (0 < j -> enOk (itemN P.level P.items[j]).1 = true) := by
 have h1 := code_item h hj;have h3 := round_at h hj;simp only [roundOk, Bool.and_eq_true] at h3;have h4 := h3.1;rw [decide_eq_false hlv, Bool.false_or] at h4;unfold itemN at *;rw [if_neg hlv] at *;unfold unsN at h1 h4 ⊢;cases hd : unsOk P.items[j] with
 | false => rw [hd] at h1; simp at h1
 | true =>
  rw [hd] at h4;simp only [if_true] at h4 ⊢;unfold unsOk at hd;simp only [Bool.and_eq_true, Bool.or_eq_true] at hd;refine ⟨hd.2.1, fun h0 => ?_⟩;have h5 : decide (partE P.items[j] = leastE) = decide (j = 0) := eq_of_beq h4;rw [decide_eq_false (show ¬ j = 0 by omega)] at h5;rcases hd.2.2 with h6 | h6
  ·rw [h5] at h6; cases h6
  ·exact h6
theorem split_facts {P : Pg} {r : Int} (h : splitOk P r = true) : openOk P = true /\ 2 <= P.items.length /\ inB r 1 65535 = true /\ 1 <= halfK P /\ halfK P < P.items.length := by
 obtain ⟨h1, h2, h3⟩ : openOk P = true /\ 2 <= P.items.length /\ inB r 1 65535 = true := by simpa [splitOk, and_assoc] using h
 refine ⟨h1, h2, h3, ?_, ?_⟩ <;> unfold halfK <;> omega
theorem border_ok {P : Pg} {r : Int} (h : splitOk P r = true) : enOk (borderG P) = true := by
 obtain ⟨h1, _, _, h2, h3⟩ := split_facts h;unfold borderG
 by_cases hlv : P.level = 0
 ·rw [if_pos hlv, ens_getD P (show halfK P - 1 < P.items.length by omega)];exact (leaf_item h1 hlv _).1
 ·rw [if_neg hlv, ens_getD P h3];exact (inner_item h1 hlv _).2 (by omega)
theorem kid_ok {P : Pg} {r : Int} (h : splitOk P r = true) (hlv : P.level ≠ 0) : inB ((kidsN P).getD (halfK P) 0) 1 65535 = true := by
 obtain ⟨h1, _, _, h2, h3⟩ := split_facts h;rw [kid_getD P hlv h3];exact (inner_item h1 hlv _).1
theorem rightI_length {P : Pg} {r : Int} (h : splitOk P r = true) : (rightI P).length = P.items.length - halfK P := by
 obtain ⟨h1, _, _, h2, h3⟩ := split_facts h;unfold rightI
 split
 ·simp
 ·simp; omega
theorem own_blk {N n c : Nat} {a : Option Addr} {w : World} {l : List (List UInt8)} (h : OwnS N w (.slice a n c) l) (hl : 0 < l.length) :
  ∃ g cur, a = some ⟨g, 0, none⟩ /\ N <= g /\ n = l.length /\ Blk w g 9 cur /\ cur.length = c /\ n <= c /\ c <= maxLen /\ cur.take n = sCells l := by
 rcases h.2 with ⟨h1, h2⟩ | ⟨g, cap, cur, h1, h2, h3, h4, h5, h6, h7⟩
 ·omega
 ·simp only [Value.slice.injEq] at h1;obtain ⟨rfl, rfl, rfl⟩ := h1;refine ⟨g, cur.toList, rfl, h2, rfl, ?_, by simpa using h6, h4, h5, by simpa using h7⟩;unfold Blk
  simpa using h3
theorem own_some {N n c : Nat} {a : Option Addr} {w : World} {l : List (List UInt8)} (h : OwnS N w (.slice a n c) l) (hl : 0 < l.length) :
  ∃ g, a = some ⟨g, 0, none⟩ /\ N <= g /\ (∀ j (hj : j < l.length), w.cell? ⟨g, j, none⟩ = some (.string (str l[j])) /\ w.frozen? ⟨g, j, none⟩ = false) := by
 obtain ⟨g, cur, rfl, h2, rfl, h3, h4, h5, _, h6⟩ := own_blk h hl;refine ⟨g, rfl, h2, fun j hj => ⟨?_, h3.free j⟩⟩;have hjc : j < cur.length := by omega
 rw [h3.cell j hjc];have h7 : (cur.take l.length)[j]? = (sCells l)[j]? := by rw [h6]
 rw [List.getElem?_take_of_lt hj, List.getElem?_eq_getElem hjc] at h7;rw [h7];simp [sCells, hj]
theorem own_set {N g n c : Nat} {w : World} {l : List (List UInt8)} (h : OwnS N w (.slice (some ⟨g, 0, none⟩) n c) l) {i : Nat} (hi : i < l.length) (y : List UInt8) :
  OwnS N (w.setCell ⟨g, i, none⟩ (.string (str y))) (.slice (some ⟨g, 0, none⟩) n c) (l.set i y) := by
 obtain ⟨g', cur, hg, h2, rfl, h3, h4, h5, h6, h7⟩ := own_blk h (by omega);simp only [Option.some.injEq, Addr.mk.injEq, and_true] at hg;subst hg;unfold OwnS;rw [List.length_set];refine owns_of h2 (h3.set i (.string (str y))) (by omega) h6 (by rw [List.length_set]; exact h4) ?_;rw [List.take_set, h7];simp [sCells, List.map_set]
theorem own_apart {N M g g' n n' c c' : Nat} {w : World} {l l' : List (List UInt8)} (h : OwnS N w (.slice (some ⟨g, 0, none⟩) n c) l) (h' : OwnS M w (.slice (some ⟨g', 0, none⟩) n' c') l') (hl : 0 < l.length) (hl' : 0 < l'.length) (hne : l[0] ≠ l'[0]) : g ≠ g' := by
 rintro rfl;obtain ⟨g1, e1, _, h1⟩ := own_some h hl;obtain ⟨g2, e2, _, h2⟩ := own_some h' hl';simp only [Option.some.injEq, Addr.mk.injEq, and_true] at e1 e2;subst e1 e2;have h3 := (h1 0 hl).1;rw [(h2 0 hl').1] at h3;simp only [Option.some.injEq, Value.string.injEq] at h3;have h4 := congrArg (fun s => s.toList) h3;simp only [str_list] at h4;exact hne h4.symm
theorem own_ne {N g n c b t : Nat} {w : World} {l : List (List UInt8)} {cs : List Value} (h : OwnS N w (.slice (some ⟨g, 0, none⟩) n c) l) (hb : Blk w b t cs) (ht : t ≠ 9) : b ≠ g := fun e => h.ne hb ht (by rw [e]; rfl)
theorem own_other {N g n c b i : Nat} {w : World} {v : Value} {l : List (List UInt8)} (h : OwnS N w (.slice (some ⟨g, 0, none⟩) n c) l) (hb : g ≠ b) : OwnS N (w.setCell ⟨b, i, none⟩ v) (.slice (some ⟨g, 0, none⟩) n c) l :=
 owns_but h ((But.refl b w).setCell i v) (fun e => hb (by simpa [Value.ownBlock] using e))
attribute [local go_sem] givesV lookV knAt hgs
def SplitOwn (A B : Pg) (e : En) (c : Int) (w : World) (x : Ending) (w' : World) : Prop :=
 ∃ av bv, x = .returned (.tuple #[pgV A av, pgV B bv, enV e, .int .i64 c]) /\ OwnS w.heap.size w' av A.items /\ OwnS w.heap.size w' bv B.items /\ Below w.heap.size w w'
theorem own_put2 {r1 r2 t N n c : Nat} {a : Option Addr} {vs1 vs2 c1 c2 : List Value} {u v : World} {l : List (List UInt8)} (h : Put2 r1 r2 t vs1 vs2 u v) (ho : OwnS N u (.slice a n c) l) (h1 : Blk u r1 t c1) (h2 : Blk u r2 t c2) (ht : t ≠ 9) : OwnS N v (.slice a n c) l := by
 refine ⟨ho.1, ?_⟩;rcases ho.2 with h3 | ⟨g, cap, cur, e, h4, h5, h6⟩
 ·exact .inl h3
 ·refine .inr ⟨g, cap, cur, e, h4, ?_, h6⟩;rw [h.block g (lt_of_block h5) ?_ ?_]
  ·exact h5
  ·rintro rfl;unfold Blk at h1;rw [h1] at h5;simp at h5;exact ht h5.2
  ·rintro rfl;unfold Blk at h2;rw [h2] at h5;simp at h5;exact ht h5.2
set_option maxRecDepth 100000 in
set_option maxHeartbeats 4000000 in
theorem split_any (P : Pg) (iv : Value) (r : Int) (w_ : World) (hin : PgIn w_ iv P) (hcap : Capd iv) (hsp : splitOk P r = true) :
  Calls Tryz.prog 204 #[pgV P iv, .int .i64 r] w_ (SplitOwn (leftG P r) (rightG P) (borderG P) 0 w_) := by
 obtain ⟨w0, hw0⟩ : ∃ w0, w0 = ((((w_.alloc (.cells (pgCells P iv).toArray 28)).alloc (.cells #[.int .i64 0, .int .i64 0, .int .i64 0, .int .i64 0, .string ⟨#[]⟩, .slice none 0 0] 28)).alloc (.cells #[.int .i64 0, .int .i64 0, .int .i64 0, .int .i64 0, .string ⟨#[]⟩, .slice none 0 0] 28)).alloc (.cells #[.string ⟨#[]⟩, .int .i64 0, .int .i64 0] 103)) := ⟨_, rfl⟩;have hg0 : Grow w_ w0 := by subst hw0; exact ((((Grow.refl w_).alloc _).alloc _).alloc _).alloc _
 have hP0 : Blk w0 w_.heap.size 28 (pgCells P iv) := by
  have := (((Blk.new w_ 28 (pgCells P iv)).alloc (.cells #[.int .i64 0, .int .i64 0, .int .i64 0, .int .i64 0, .string ⟨#[]⟩, .slice none 0 0] 28)).alloc (.cells #[.int .i64 0, .int .i64 0, .int .i64 0, .int .i64 0, .string ⟨#[]⟩, .slice none 0 0] 28)).alloc (.cells #[.string ⟨#[]⟩, .int .i64 0, .int .i64 0] 103);subst hw0; exact this
 have hA0 : Blk w0 (w_.heap.size + 1) 28 [.int .i64 0, .int .i64 0, .int .i64 0, .int .i64 0, .string ⟨#[]⟩, .slice none 0 0] := by
  have := ((Blk.new (w_.alloc (.cells (pgCells P iv).toArray 28)) 28 [.int .i64 0, .int .i64 0, .int .i64 0, .int .i64 0, .string ⟨#[]⟩, .slice none 0 0]).alloc (.cells #[.int .i64 0, .int .i64 0, .int .i64 0, .int .i64 0, .string ⟨#[]⟩, .slice none 0 0] 28)).alloc (.cells #[.string ⟨#[]⟩, .int .i64 0, .int .i64 0] 103);have e : (w_.alloc (.cells (pgCells P iv).toArray 28)).heap.size = w_.heap.size + 1 := by simp
  rw [e] at this;subst hw0; exact this
 have hB0 : Blk w0 (w_.heap.size + 2) 28 [.int .i64 0, .int .i64 0, .int .i64 0, .int .i64 0, .string ⟨#[]⟩, .slice none 0 0] := by
  have := (Blk.new ((w_.alloc (.cells (pgCells P iv).toArray 28)).alloc (.cells #[.int .i64 0, .int .i64 0, .int .i64 0, .int .i64 0, .string ⟨#[]⟩, .slice none 0 0] 28)) 28 [.int .i64 0, .int .i64 0, .int .i64 0, .int .i64 0, .string ⟨#[]⟩, .slice none 0 0]).alloc (.cells #[.string ⟨#[]⟩, .int .i64 0, .int .i64 0] 103);have e : ((w_.alloc (.cells (pgCells P iv).toArray 28)).alloc (.cells #[.int .i64 0, .int .i64 0, .int .i64 0, .int .i64 0, .string ⟨#[]⟩, .slice none 0 0] 28)).heap.size = w_.heap.size + 2 := by simp
  rw [e] at this;subst hw0; exact this
 have hR0 : Blk w0 (w_.heap.size + 3) 103 [.string ⟨#[]⟩, .int .i64 0, .int .i64 0] := by
  have := Blk.new (((w_.alloc (.cells (pgCells P iv).toArray 28)).alloc (.cells #[.int .i64 0, .int .i64 0, .int .i64 0, .int .i64 0, .string ⟨#[]⟩, .slice none 0 0] 28)).alloc (.cells #[.int .i64 0, .int .i64 0, .int .i64 0, .int .i64 0, .string ⟨#[]⟩, .slice none 0 0] 28)) 103 [.string ⟨#[]⟩, .int .i64 0, .int .i64 0];have e : (((w_.alloc (.cells (pgCells P iv).toArray 28)).alloc (.cells #[.int .i64 0, .int .i64 0, .int .i64 0, .int .i64 0, .string ⟨#[]⟩, .slice none 0 0] 28)).alloc (.cells #[.int .i64 0, .int .i64 0, .int .i64 0, .int .i64 0, .string ⟨#[]⟩, .slice none 0 0] 28)).heap.size = w_.heap.size + 3 := by simp
  rw [e] at this;subst hw0; exact this
 have hzR := hR0.lt;have hop := opened_pg (hin.fits hg0);obtain ⟨hopen, hlen, hr, hk1, hk2⟩ := split_facts hsp;have HBorder := keep (border_ok hsp);have HKid := keep (fun h => kid_ok hsp (h : P.level ≠ 0))
 have HNe := keep (show P.items.getD 0 [] ≠ P.items.getD (halfK P) [] by
  have h9 := items_ne hopen (show 0 < P.items.length by omega) hk2 hk1;have h8 : 0 < P.items.length := by omega
  simpa [hk2, h8] using h9)
 have hkd : halfK P = (P.items.length + 1) / 2 := rfl;obtain ⟨ci, offi, ic, hive, hcells⟩ := items_cells hin.1 (by omega);subst hive;have hcap2 : P.items.length <= ic := hcap;clear hcap;have hic := fun u => isChild_any r u
 rw [hr] at hic;have HIc := keep hic;have HOp := keep hop;have HOpen := keep hopen;have HIn := keep hin;have HP0 := keep hP0;have HA0 := keep hA0;have HB0 := keep hB0;have HR0 := keep hR0;have HLen := keep hlen;have hlen2 : ¬ (P.items.length : Int) < 2 := by omega
 clear hop hopen hin hA0 hB0 hR0 hsp hr hic hcells hlen;unfold pgCells at hw0 hP0;obtain ⟨p0, p1, p2, p3, p4, p5, _⟩ := pgres hP0;unfold pgV;go_enter Tryz.func204, Tryz.ntmps204;go_upto_region 1 with fail;rw [<- hw0];clear hw0;go_wp2_with fail;refine HOp.out.mono ?_;rintro x w1 ⟨a1, n1, c1, a2, n2, c2, hi, bd, ok, rfl, hok, hyes, hb1⟩;rw [HOpen.out] at hok;subst hok;obtain ⟨hes, hks, rfl, rfl⟩ := hyes rfl;clear p0 p1 p2 p3 p4 p5 hP0 hyes;obtain ⟨w2, hw2⟩ : ∃ w2, w2 = w1.alloc (.cells #[.slice a1 n1 c1, .slice a2 n2 c2, .string (str (hiN P).1), .int .i64 (hiN P).2.1, .int .i64 (hiN P).2.2, .bool (bdN P)] 151) := ⟨_, rfl⟩;have hg2 : Grow w0 w2 := by subst hw2; exact Grow.alloc hb1 _
 have hO2 : Blk w2 w1.heap.size 151 [.slice a1 n1 c1, .slice a2 n2 c2, .string (str (hiN P).1), .int .i64 (hiN P).2.1, .int .i64 (hiN P).2.2, .bool (bdN P)] := by subst hw2; exact Blk.new w1 _ [_, _, _, _, _, _]
 have hes2 : EnsS w2 (.slice a1 n1 c1) (ensN P) := by subst hw2; exact RowS.fits hes ((Grow.refl _).alloc _)
 have hks2 : IntsS w2 (.slice a2 n2 c2) (kidsN P) := by subst hw2; exact RowS.fits hks ((Grow.refl _).alloc _)
 have HEs := keep hes2;have HKs := keep hks2;have HO2 := keep hO2;have HG2 := keep hg2;have HW1 := keep (show w0.heap.size <= w1.heap.size from hb1.size);clear hes hes2 hks hks2 hb1 hO2 hg2;go_upto_region 2 with fail;rw [<- hw2];clear hw2;have hP2 := HP0.out.fits HG2.out;unfold pgCells at hP2;obtain ⟨p0, p1, p2, p3, p4, p5, _⟩ := pgres hP2;go_wp2_with fail;refine (HIc.out w2).mono ?_;rintro x w3 ⟨rfl, rfl⟩;go_upto_region 6 with fail;have hl255 := (open_fine HOpen.out).1;have ek : wrap64 ((wrap64 ((P.items.length : Int) + 1)).tdiv 2) = (((P.items.length + 1) / 2 : Nat) : Int) := by
  rw [show ((P.items.length : Int) + 1) = ((P.items.length + 1 : Nat) : Int) by omega, wrap64_small (P.items.length + 1) (by omega)];rw [show (((P.items.length + 1 : Nat) : Int)).tdiv 2 = (((P.items.length + 1) / 2 : Nat) : Int) from rfl, wrap64_small _ (by omega)]
 rw [ek];clear ek;rw [<- hkd];have hleft : leftG P r = { P with items := P.items.take (halfK P), right := r, high := enBytes (borderG P) [] } := rfl;have hright : rightG P = { P with items := rightI P } := rfl;have hri : rightI P = if P.level = 0 then P.items.drop (halfK P) else headG P :: P.items.drop (halfK P + 1) := rfl
 have hhe : headG P = enBytes leastE [(kidsN P).getD (halfK P) 0] := rfl;have hbd : borderG P = (ensN P).getD (if P.level = 0 then halfK P - 1 else halfK P) leastE := rfl;clear hkd;generalize halfK P = k at *;have HLeft := keep hleft;have HRight := keep hright;have HRi := keep hri;have HHe := keep hhe;have HBd := keep hbd;clear hright hri hhe hbd p0 p1 p2 p3 p4 p5 hlen2 hleft;obtain ⟨p0, p1, p2, p3, p4, p5, _⟩ := pgres hP2;have hsz := HG2.out.size;have hl1 : w_.heap.size < w2.heap.size := by omega
 have hl2 : w_.heap.size < w2.heap.size + 1 := by omega
 have hl3 : ¬ w_.heap.size = w2.heap.size := by omega
 have hl4 : ¬ w_.heap.size = w2.heap.size + 1 := by omega
 have hl5 : ¬ w2.heap.size = w_.heap.size := by omega
 have hl6 : ¬ w2.heap.size + 1 = w_.heap.size := by omega
 have hA9 := keep (Blk.drew ((Blk.new w2 28 (pgCells P (.slice (some ⟨ci, offi, none⟩) P.items.length ic))).alloc (.cells (pgCells P (.slice (some ⟨ci, offi, none⟩) P.items.length ic)).toArray 28)));have hB9 := Blk.drew (Blk.new (w2.alloc (.cells (pgCells P (.slice (some ⟨ci, offi, none⟩) P.items.length ic)).toArray 28)) 28 (pgCells P (.slice (some ⟨ci, offi, none⟩) P.items.length ic)));rw [show (w2.alloc (.cells (pgCells P (.slice (some ⟨ci, offi, none⟩) P.items.length ic)).toArray 28)).heap.size = w2.heap.size + 1 by simp] at hB9;have hB9 := keep hB9;have hg9 := keep (Below.drew (Grow.alloc (Grow.alloc (Grow.refl w2) (.cells (pgCells P (.slice (some ⟨ci, offi, none⟩) P.items.length ic)).toArray 28)) (.cells (pgCells P (.slice (some ⟨ci, offi, none⟩) P.items.length ic)).toArray 28)));go_cut [12, 13] from 40 to 41 (fun s12 s13 wx => ∃ a b, s12 = .pointer (some ⟨a, 0, none⟩) /\ s13 = .pointer (some ⟨b, 0, none⟩) /\ a ≠ b /\ w2.heap.size <= a /\ w2.heap.size <= b /\ Blk wx a 28 (pgCells P (.slice (some ⟨ci, offi, none⟩) P.items.length ic)) /\ Blk wx b 28 (pgCells P (.slice (some ⟨ci, offi, none⟩) P.items.length ic)) /\ Below w2.heap.size w2 wx)
 case first =>
  go_region
  all_goals go_wp2_with fail
  all_goals go_meet
  all_goals (case rel =>
   first
    | exact ⟨_, _, rfl, rfl, by omega, Nat.le_refl _, by omega, hA9.out, hB9.out, hg9.out⟩
    | exact ⟨_, _, rfl, rfl, by omega, by omega, Nat.le_refl _, hB9.out, hA9.out, hg9.out⟩)
 case rest =>
  obtain ⟨a, b, rfl, rfl, hab, hNa, hNb, hA3, hB3, hg3⟩ := hcut;clear p0 p1 p2 p3 p4 p5 hA9 hB9 hg9 hl1 hl2 hl3 hl4 hl5 hl6;generalize wc = w3 at *;have hP3 := hP2.fits hg3;have hN3 := hg3.size;have HP7 := keep (fun (u : World) (hu : Grow w3.drew u) => Blk.fits (Blk.drew hP3) hu);have HI3 := keep (Row.fits HIn.out.1 (Grow.trans hg0 (Grow.trans HG2.out hg3)) : Items w3 (.slice (some ⟨ci, offi, none⟩) P.items.length ic) P.items);have HI7 := keep (fun (u : World) (hu : Grow w3.drew u) => (Row.fits HI3.out (Grow.undrew hu) : Items u (.slice (some ⟨ci, offi, none⟩) P.items.length ic) P.items));have hk3 : k <= ic := by omega
  have hk4 : ¬ ic = k := by omega
  have hk5 : k <= P.items.length := by omega
  have HA3 := keep hA3;have HB3 := keep hB3;have HG3 := keep hg3;have HAB := keep (And.intro hab (And.intro hNa (And.intro hNb hN3)));have HK := keep (And.intro hk1 hk2);have HL255 := keep hl255;have HSz3 := keep (show w2.heap.size <= w3.heap.size from hN3);clear hA3 hB3 hg3 hP2 hP3 hab hNa hNb hN3;go_upto_region 7 with fail;refine rgv 11 (by kernel_rfl) (by kernel_rfl) rfl rfl ?_;intro a0 ha0;have hsz : a0.tmps.size = 87 := (size_at ha0).trans rfl;have s2 := slot_at ha0 2 rfl;have s11 := slot_at ha0 11 rfl;have s12 := slot_at ha0 12 rfl;have HA0 := keep ha0;clear ha0;apply lxv hsz Grow.refl (by kernel_rfl) rfl
  ·intro xs w hw K hK;go_simp;exact hK
  apply lxv hsz Grow.refl (by kernel_rfl) rfl
  ·intro xs w hw K hK;obtain ⟨p0, p1, p2, p3, p4, p5, _⟩ := pgres (HP7.out w hw);go_simp;exact hK
  iterate 2
   apply lxv hsz Grow.refl (by kernel_rfl) rfl
   ·intro xs w hw K hK;go_simp;exact hK
  refine lxs hsz (fun v u => OwnS w2.heap.size u v (P.items.take k)) (fun _ _ _ g h => h.fits g) [] (by kernel_rfl) rfl ?_ ?_
  ·intro xs w hw hp K hK;go_simp;exact (clone_any _ (P.items.take k) w (sub_lo (HI7.out w hw) hk5) (by rw [List.length_take]; omega)).mono fun e w' ⟨v', h1, h2, h3⟩ => ⟨v', h1, hK _ _ (OwnS.low h2 (Nat.le_trans HSz3.out hw.undrew.size)) h3⟩
  apply lxv hsz Grow.refl (by kernel_rfl) rfl
  ·intro xs w hw K hK;go_simp;exact hK
  apply lxv hsz Grow.refl (by kernel_rfl) rfl
  ·intro xs w hw K hK;obtain ⟨p0, p1, p2, p3, p4, p5, _⟩ := pgres (HP7.out w hw);go_simp;exact hK
  iterate 2
   apply lxv hsz Grow.refl (by kernel_rfl) rfl
   ·intro xs w hw K hK;go_simp;exact hK
  refine lxs hsz (fun v u => OwnS w2.heap.size u v (P.items.drop k)) (fun _ _ _ g h => h.fits g) [] (by kernel_rfl) rfl ?_ ?_
  ·intro xs w hw hp K hK;go_simp;exact (clone_any _ (P.items.drop k) w (sub_hi (HI7.out w hw) HK.out.2) (by rw [List.length_drop]; omega)).mono fun e w' ⟨v', h1, h2, h3⟩ => ⟨v', h1, hK _ _ (OwnS.low h2 (Nat.le_trans HSz3.out hw.undrew.size)) h3⟩
  apply lxv hsz Grow.refl (by kernel_rfl) rfl
  ·intro xs w hw K hK;go_simp;exact hK
  refine rgd [(4, true), (9, true)] (by kernel_rfl) rfl ?_;intro xs w hw hp;have ha0 := HA0.out;clear HA0 hsz s2 s11 s12;simp only [hzv] at hp;obtain ⟨h4, h9⟩ := hp;subst ha0;simp only [putV];have hgw := hw.undrew;obtain ⟨la, lc, hl4⟩ := h4.form;obtain ⟨ra, rc, hl9⟩ := h9.form;rw [show (P.items.take k).length = k by rw [List.length_take]; omega] at hl4;rw [List.length_drop] at hl9;generalize xs 4 = v4 at *;generalize xs 9 = v9 at *;subst hl4 hl9;obtain ⟨hab, hNa, hNb, hN3⟩ := HAB.out;have hA4 := HA3.out.fits hgw;have hB4 := HB3.out.fits hgw;have hg4 : Below w2.heap.size w2 w := Grow.trans HG3.out hgw;have hA5 := (hA4.set 5 (.slice la k lc)).set_other ⟨b, 5, none⟩ (show a ≠ b from hab) (.slice ra (P.items.length - k) rc);have hB5 := (hB4.set_other ⟨a, 5, none⟩ (show b ≠ a from fun e => hab e.symm) (.slice la k lc)).set 5 (.slice ra (P.items.length - k) rc);have h4s := h4.but ((But.refl a w).setCell 5 (.slice la k lc)) hA4 (by decide);have h9s := h9.but ((But.refl a w).setCell 5 (.slice la k lc)) hA4 (by decide);have hB4' := hB4.set_other ⟨a, 5, none⟩ (show b ≠ a from fun e => hab e.symm) (.slice la k lc);have h4t := h4s.but ((But.refl b _).setCell 5 (.slice ra (P.items.length - k) rc)) hB4' (by decide);have h9t := h9s.but ((But.refl b _).setCell 5 (.slice ra (P.items.length - k) rc)) hB4' (by decide)
  have hg5 : Below w2.heap.size w2 _ := But.below (But.below hg4 ((But.refl a w).setCell 5 (.slice la k lc)) hNa hg4.size) ((But.refl b _).setCell 5 (.slice ra (P.items.length - k) rc)) hNb (by simp; exact hg4.size);have hsz5 : w.heap.size <= ((w.setCell ⟨a, 5, none⟩ (.slice la k lc)).setCell ⟨b, 5, none⟩ (.slice ra (P.items.length - k) rc)).heap.size := by simp
  have HA5 := keep hA5;have HB5 := keep hB5;have H4 := keep h4t;have H9 := keep h9t;have HG5 := keep hg5;unfold pgCells at hA4 hB4;obtain ⟨p0, p1, p2, p3, p4, p5, q0, q1, q2, q3, q4, q5⟩ := pgres hA4;obtain ⟨y0, y1, y2, y3, y4, y5, z0, z1, z2, z3, z4, z5⟩ := pgres hB4;clear hw h4 h9 h4s h9s h4t h9t hA5 hB5 hg5 hg4 hB4' HI7 HP7 hA4 hB4 hgw hsz5 HA3 HB3;go_upto_region 8 with fail;clear p0 p1 p2 p3 p4 p5 q0 q1 q2 q3 q4 q5 y0 y1 y2 y3 y4 y5 z0 z1 z2 z3 z4 z5;have hA5 := HA5.out;have hB5 := HB5.out;have h4t := H4.out;have h9t := H9.out;have hg5 := HG5.out;clear HA5 HB5 H4 H9 HG5;generalize (w.setCell ⟨a, 5, none⟩ (.slice la k lc)).setCell ⟨b, 5, none⟩ (.slice ra (P.items.length - k) rc) = w5 at *;have HW2 : Kept (w1.heap.size < w2.heap.size) := keep HO2.out.lt;have hO5 := HO2.out.below hg5 HW2.out;have hes5 : EnsS w5 (.slice a1 n1 c1) (ensN P) := RowS.fits HEs.out hg5;have hks5 : IntsS w5 (.slice a2 n2 c2) (kidsN P) := RowS.fits HKs.out hg5;have hP5 := (HP0.out.fits HG2.out).below hg5 (by have := HW1.out; have := HW2.out; omega);have hA_ := HA0.out.fits HG2.out;have hB_ := HB0.out.fits HG2.out;have hR_ := HR0.out.fits HG2.out;have hlen2 := ensN_length P;obtain ⟨ce, offe, cape, hev, hec⟩ := ens_at hes5 (m := k) (by have := HK.out; omega);obtain ⟨ce', offe', cape', hev', hec'⟩ := ens_at hes5 (m := k - 1) (by have := HK.out; omega);simp only [Value.slice.injEq] at hev;obtain ⟨rfl, rfl, rfl⟩ := hev;simp only [Value.slice.injEq, Option.some.injEq, Addr.mk.injEq] at hev'
  obtain ⟨⟨rfl, rfl, _⟩, _, rfl⟩ := hev';have hkl : k - 1 < (ensN P).length := by have := HK.out; omega
  have hkl2 : k < (ensN P).length := by have := HK.out; omega
  have hby := fun u => bytes_any (borderG P) (.slice none 0 0) [] u (enOk_fine HBorder.out) (none_ints u) (by simp) (by simp)
  have hbz : P.level = 0 -> borderG P = (ensN P)[k - 1] := fun h => by rw [HBd.out, if_pos h]; simp [hkl]
  have hbi : ¬ P.level = 0 -> borderG P = (ensN P)[k] := fun h => by rw [HBd.out, if_neg h]; simp [hkl2]
  generalize (ensN P)[k - 1] = E1 at *;generalize (ensN P)[k] = E2 at *;obtain ⟨g1, g2, g3⟩ := E1;obtain ⟨f1, f2, f3⟩ := E2;dsimp only at hec hec';have hleft := HLeft.out;generalize borderG P = BE at *;obtain ⟨bk, bp, bs⟩ := BE;generalize enBytes (bk, bp, bs) [] = BY at *;unfold enV at hby;dsimp only at hby;obtain ⟨ec0, ec1, ec2⟩ := hec' w5 (Grow.refl _);have hkm : wrap64 ((k : Int) - 1) = (k : Int) - 1 := by
   have := HK.out;have := HL255.out;rw [show (k : Int) - 1 = ((k - 1 : Nat) : Int) by omega];exact wrap64_small _ (by omega)
  have hk0 : (0 : Int) <= (k : Int) - 1 := by have := HK.out; omega
  have hkn : (k : Int) - 1 < ((ensN P).length : Int) := by have := HK.out; omega
  have hkn3 : (k : Int) < ((ensN P).length : Int) := by have := HK.out; omega
  obtain ⟨o0, o1, o2, o3, o4, o5, _⟩ := pgres hO5;have HBy := keep hby;have HLeft2 := keep hleft;have HEc := keep hec;have HBz := keep hbz;have HBi := keep hbi;have HKs5 := keep hks5;have HO5 := keep hO5;have HP5 := keep hP5;have HA_ := keep hA_;have HB_ := keep hB_;have HR_ := keep hR_;have H4 := keep h4t;have H9 := keep h9t;have HA5 := keep hA5;have HB5 := keep hB5;have HG5 := keep hg5;have HKn := keep (And.intro hkn3 hlen2);clear hby hleft hbz hbi hec hec' hes5 hks5 hO5 hP5 hA_ hB_ hR_ hlen2 hkl hkl2 HLeft HBd HEs h4t h9t hA5 hB5 hg5 HBorder hkn3;go_upto_region 9 with fail;obtain ⟨w6, hw6⟩ : ∃ w6, w6 = w5.alloc (.cells #[.string (str g1), .int .i64 g2, .int .i64 g3] 103) := ⟨_, rfl⟩;rw [<- hw6];have hg6 : Grow w5 w6 := by subst hw6; exact (Grow.refl _).alloc _
  have hX6 : Blk w6 w5.heap.size 103 [.string (str g1), .int .i64 g2, .int .i64 g3] := by subst hw6; exact Blk.new w5 _ [_, _, _]
  have hP6 := HP5.out.fits hg6;have HG6 := keep hg6;have HX6 := keep hX6;clear hw6 o0 o1 o2 o3 o4 o5 ec0 ec1 ec2 hg6 hkm hk0 hkn;unfold pgCells at hP6;obtain ⟨p0, p1, p2, p3, p4, p5, _⟩ := pgres hP6;clear hX6 hP6;go_upto_if 62 with fail;clear p0 p1 p2 p3 p4 p5;go_cut [] from 62 to 78 (fun wx => (Blk wx w5.heap.size 103 [.string (str bk), .int .i64 bp, .int .i64 bs] /\ Blk wx a 28 (pgCells P (.slice la k lc)) /\ Blk wx b 28 (pgCells P (.slice ra (P.items.length - k) rc)) /\ OwnS w2.heap.size wx (.slice la k lc) (P.items.take k) /\ OwnS w2.heap.size wx (.slice ra (P.items.length - k) rc) (rightI P) /\ Below w2.heap.size w2 wx /\ w5.heap.size <= wx.heap.size))
  case first =>
   by_cases hlv : P.level = 0
   ·have hlv0 : ¬ (0 : Int) < P.level := by rw [hlv]; omega
    have hbe := HBz.out hlv;simp only [Prod.mk.injEq] at hbe;obtain ⟨rfl, rfl, rfl⟩ := hbe;have hri := HRi.out;rw [if_pos hlv] at hri;have HRi2 := keep hri;clear hlv hri;go_wp2_with fail
    all_goals go_meet
    all_goals (case rel => exact ⟨HX6.out, HA5.out.fits HG6.out, HB5.out.fits HG6.out, H4.out.fits HG6.out, by rw [HRi2.out]; exact H9.out.fits HG6.out, Below.trans HG5.out (HG6.out.mono HG5.out.size), HG6.out.size⟩)
   ·have hO_ := (open_fine HOpen.out).2.2.2.1;have hlv0 : (0 : Int) < P.level := by omega
    have hbe := HBi.out hlv;simp only [Prod.mk.injEq] at hbe;obtain ⟨rfl, rfl, rfl⟩ := hbe;have hri := HRi.out;rw [if_neg hlv, HHe.out] at hri;have hkl := kidsN_length hlv;have hki := HKid.out hlv;obtain ⟨ck, offk, capk, hkv, hkc⟩ := ints_at HKs5.out.weak (k := k) (by rw [hkl]; exact HK.out.2);simp only [Value.slice.injEq] at hkv;obtain ⟨rfl, rfl, rfl⟩ := hkv;have hkq : (kidsN P)[k]'(by rw [hkl]; exact HK.out.2) = (kidsN P).getD k 0 := by simp [hkl, HK.out.2]
    rw [hkq] at hkc;have hkn2 : (k : Int) < ((kidsN P).length : Int) := by rw [hkl]; have := HK.out; omega
    clear hkq;generalize (kidsN P).getD k 0 = kid at *;generalize (kidsN P).length = kn at *;have hby11 := fun (u : World) (mv : Value) (hm : IntsS u mv [kid]) => bytes_any leastE mv [kid] u least_fine hm (by simp [inB] at hki ⊢; omega) (by simp)
    generalize enBytes leastE [kid] = BYL at *;unfold enV leastE at hby11;dsimp only at hby11;obtain ⟨ec0, ec1, ec2⟩ := HEc.out w6 HG6.out;obtain ⟨o0, o1, o2, o3, o4, o5, _⟩ := pgres (HO5.out.fits HG6.out);obtain ⟨x0, x1, x2, y0, y1, y2⟩ := enres HX6.out;have hkn3 := HKn.out.1;have Hset := keep (enset HX6.out (.string (str bk)) (.int .i64 bp) (.int .i64 bs));have Hbut := keep (enbut w6 w5.heap.size (.string (str bk)) (.int .i64 bp) (.int .i64 bs));have HRi2 := keep hri;have HBy11 := keep hby11;have HKc := keep hkc;have HKi := keep hki;clear hri hkl hkc hby11 hki hO_;go_upto_region 11 with fail;clear o0 o1 o2 o3 o4 o5 x0 x1 x2 y0 y1 y2 ec0 ec1 ec2 hkn3;have hset := Hset.out;have hbut := Hbut.out;clear Hset Hbut;generalize ((w6.setCell ⟨w5.heap.size, 0, none⟩ (.string (str bk))).setCell ⟨w5.heap.size, 1, none⟩ (.int .i64 bp)).setCell ⟨w5.heap.size, 2, none⟩ (.int .i64 bs) = w7 at *;have hsb : a < w5.heap.size := HA5.out.lt;have hsc : b < w5.heap.size := HB5.out.lt;have hso : w1.heap.size < w5.heap.size := HO5.out.lt;have hA7 := (HA5.out.fits HG6.out).but hbut (by omega);have hB7 := (HB5.out.fits HG6.out).but hbut (by omega);have hO7 := (HO5.out.fits HG6.out).but hbut (by omega);have h47 := (H4.out.fits HG6.out).but hbut HX6.out (by decide);have h97 := (H9.out.fits HG6.out).but hbut HX6.out (by decide);have hg7 : Below w5.heap.size w5 w7 := But.below HG6.out hbut (Nat.le_refl _) HG6.out.size
    have HB11 := keep (fun (u : World) (hu : Grow w7.drew u) => Blk.fits (Blk.drew hB7) hu);have HO11 := keep (fun (u : World) (hu : Grow w7.drew u) => Blk.fits (Blk.drew hO7) hu);have HK11 := keep (fun (u : World) (hu : Grow w7 u) => HKc.out u (Below.trans hg7 (hu.mono hg7.size)));have HX7 := keep hset;have HA7 := keep hA7;have HB7 := keep hB7;have H47 := keep h47;have H97 := keep h97;have HG7 := keep hg7;clear hset hbut hA7 hB7 hO7 h47 h97 hg7 hsb hsc hso;refine rgv 10 (by kernel_rfl) (by kernel_rfl) rfl rfl ?_;intro a0 ha0;have hsz : a0.tmps.size = 87 := (size_at ha0).trans rfl;have s8 := slot_at ha0 8 rfl;have s11 := slot_at ha0 11 rfl;have s13 := slot_at ha0 13 rfl;have HA0 := keep ha0;clear ha0;apply lxv hsz Grow.refl (by kernel_rfl) rfl
    ·intro xs w hw K hK;go_simp;exact hK
    apply lxv hsz Grow.refl (by kernel_rfl) rfl
    ·intro xs w hw K hK;obtain ⟨y0, y1, y2, y3, y4, y5, _⟩ := pgres (HB11.out w hw);go_simp;exact hK
    apply lxe hsz [] (by kernel_rfl) rfl
    ·intro xs w hw hp K hK;go_simp;exact (least_any w).mono fun e w' h => ⟨_, h.1, hK _ h.2⟩
    apply lxv hsz Grow.refl (by kernel_rfl) rfl
    ·intro xs w hw K hK;go_simp;exact hK
    apply lxv hsz Grow.refl (by kernel_rfl) rfl
    ·intro xs w hw K hK;obtain ⟨o0, o1, o2, o3, o4, o5, _⟩ := pgres (HO11.out w hw);go_simp;exact hK
    apply lxv hsz Grow.refl (by kernel_rfl) rfl
    ·intro xs w hw K hK;go_simp;exact hK
    apply lxv hsz Grow.refl (by kernel_rfl) rfl
    ·intro xs w hw K hK;have q2 : (k : Int) < (kn : Int) := hkn2;go_simp;exact hK
    apply lxv hsz Grow.refl (by kernel_rfl) rfl
    ·intro xs w hw K hK;have q0 := HK11.out w (Grow.undrew hw);go_simp;exact hK
    refine lxs hsz (fun v u => IntsS u v [kid]) (fun _ _ _ g h => RowS.fits h g) [] (by kernel_rfl) rfl ?_ ?_
    ·intro xs w hw hp K hK;go_simp;exact hK _ _ (one_ints w kid) ((Grow.refl _).alloc _)
    apply lxe hsz [(2, true), (8, true)] (by kernel_rfl) rfl
    ·intro xs w hw hp K hK;simp only [hzv] at hp;obtain ⟨h2, h8⟩ := hp;go_simp;exact (HBy11.out w (xs 8) h8).mono fun e w' h => ⟨_, h.1, hK _ h.2⟩
    refine rgd [(9, true)] (by kernel_rfl) rfl ?_;intro xs w hw hp;have ha0 := HA0.out;clear HA0 hsz s8 s11 s13;simp only [hzv] at hp;have h9 := hp;clear hp;subst ha0;simp only [putV];have hgw := Grow.undrew hw;have h9w := H97.out.fits hgw;have h4w := H47.out.fits hgw;have hdl : 0 < (P.items.drop k).length := by have := HK.out; rw [List.length_drop]; omega
    have htl : 0 < (P.items.take k).length := by have := HK.out; rw [List.length_take]; omega
    obtain ⟨rg, hrg, hgl, hrc⟩ := own_some h9w hdl;subst hrg;obtain ⟨lg, hlg, _⟩ := own_some h4w htl;subst hlg;obtain ⟨c0, f0⟩ := hrc 0 hdl;have hn0 : 0 < P.items.length - k := by have := HK.out; omega
    have hn1 : (0 : Int) < ((P.items.length - k : Nat) : Int) := by omega
    have hR1 := own_set h9w hdl BYL
    have hR2 : lg ≠ rg := own_apart h4w h9w htl hdl (by
     have h9 := HNe.out;have h8 := HK.out;have h7 : 0 < P.items.length := by omega
     simpa [h8.2, h7] using h9)
    have hA8 := HA7.out.fits hgw;have hB8 := HB7.out.fits hgw;have hX8 := HX7.out.fits hgw;have hgA := own_ne h9w hA8 (by decide);have hgB := own_ne h9w hB8 (by decide);have hgX := own_ne h9w hX8 (by decide);have hbt := (But.refl rg w).setCell 0 (.string (str BYL));have HF1 := keep (hX8.but hbt hgX);have HF2 := keep (hA8.but hbt hgA);have HF3 := keep (hB8.but hbt hgB);have HF4 := keep (own_other (i := 0) (v := .string (str BYL)) h4w hR2)
    have HF5 : Kept (OwnS w2.heap.size (w.setCell ⟨rg, 0, none⟩ (.string (str BYL))) (.slice (some ⟨rg, 0, none⟩) (P.items.length - k) rc) (rightI P)) := keep (by
     rw [HRi2.out];have e : (P.items.drop k).set 0 BYL = BYL :: P.items.drop (k + 1) := by
      rw [List.drop_eq_getElem_cons HK.out.2]
      rfl
     rw [<- e]
     exact hR1)
    have hgg : Grow w5 w := Below.trans HG7.out (hgw.mono HG7.out.size);have HF6 := keep (But.below (Below.trans HG5.out (hgg.mono HG5.out.size)) hbt hgl (Nat.le_trans HG5.out.size hgg.size));have HF7 := keep (show w5.heap.size <= (w.setCell ⟨rg, 0, none⟩ (.string (str BYL))).heap.size by simp; exact hgg.size);clear hw h9 h9w h4w hrc hR1 hR2 hA8 hB8 hX8 hgA hgB hgX hbt hgg hgw;go_wp2_with fail
    all_goals go_meet
    all_goals (case rel => exact ⟨HF1.out, HF2.out, HF3.out, HF4.out, HF5.out, HF6.out, HF7.out⟩)
  case rest =>
   obtain ⟨hX6, hA6, hB6, h46, h96, hg6, hz6⟩ := hcut;clear HG6 HX6 H4 H9 HA5 HB5 HEc HBz HBi HKs5 HRi HKn;generalize wc = w6 at *;have HA5 := keep hA6;have HB5 := keep hB6;have HX6 := keep hX6;have H4 := keep h46;have H9 := keep h96;have HG6 := keep hg6;obtain ⟨x0, x1, x2, _⟩ := enres hX6;clear hA6 hB6 hX6 h46 h96 hg6;go_wp2_with fail;refine (HBy.out w6).mono ?_;rintro x w7 ⟨rfl, hb7⟩;clear x0 x1 x2;obtain ⟨hab, hNa, hNb, hN3⟩ := HAB.out;have hg7 : Grow w6 w7 := hb7;have hA7 := HA5.out.fits hg7;have hB7 := HB5.out.fits hg7;have hX7 := HX6.out.fits hb7;have h47 := H4.out.fits hg7;have h97 := H9.out.fits hg7;have hsa := HA5.out.lt;have hxa := (show w5.heap.size ≠ a from fun e => by have h8 := HX6.out; have h9 := HA5.out; rw [<- e] at h9; unfold Blk at h8 h9; rw [h8] at h9; simp at h9);have hA8 := (hA7.set 3 (.int .i64 r)).set 4 (.string (str BY));have hbut8 : But a w7 ((w7.setCell ⟨a, 3, none⟩ (.int .i64 r)).setCell ⟨a, 4, none⟩ (.string (str BY))) := ((But.refl a w7).setCell 3 _).setCell 4 _;have hB8 := hB7.but hbut8 hab.symm;have hX8 := hX7.but hbut8 hxa;have h48 := h47.but hbut8 hA7 (by decide);have h98 := h97.but hbut8 hA7 (by decide);have hG8 : Below w2.heap.size w2 _ := But.below (Below.trans HG6.out (hg7.mono HG6.out.size)) hbut8 hNa (Nat.le_trans HG6.out.size hg7.size);unfold pgCells at hA7;obtain ⟨p0, p1, p2, p3, p4, p5, q0, q1, q2, q3, q4, q5⟩ := pgres hA7;have HA8 := keep hA8;have HB8 := keep hB8;have HX8 := keep hX8;have H48 := keep h48;have H98 := keep h98
   have HG8 := keep hG8;clear hA7 hB7 hX7 h47 h97 hA8 hB8 hX8 h48 h98 hG8 hbut8 hb7 hg7 hsa hxa;go_upto_region 13 with fail;have hA8 := HA8.out;have hB8 := HB8.out;have hX8 := HX8.out;have h48 := H48.out;have h98 := H98.out;have hG8 := HG8.out;clear HA8 HB8 HX8 H48 H98 HG8 p0 p1 p2 p3 p4 p5 q0 q1 q2 q3 q4 q5 HA5 HB5 H4 H9 HX6;generalize (w7.setCell ⟨a, 3, none⟩ (.int .i64 r)).setCell ⟨a, 4, none⟩ (.string (str BY)) = w8 at *;have hz1 := HW1.out;have hz2 := HW2.out;have hA_8 := HA_.out.below hG8 (by omega);have hB_8 := HB_.out.below hG8 (by omega);have hR_8 := HR_.out.below hG8 (by omega);have HA13 := keep (fun (u : World) (hu : Put2 (w_.heap.size + 1) (w_.heap.size + 2) 28 [.int .i64 P.lsn, .int .i64 P.kind, .int .i64 P.level, .int .i64 r, .string (str BY), .slice la k lc] [.int .i64 P.lsn, .int .i64 P.kind, .int .i64 P.level, .int .i64 P.right, .string (str P.high), .slice ra (P.items.length - k) rc] w8.drew u) => hu.blk (Blk.drew hA8) (by omega) (by omega));have HB13 := keep (fun (u : World) (hu : Put2 (w_.heap.size + 1) (w_.heap.size + 2) 28 [.int .i64 P.lsn, .int .i64 P.kind, .int .i64 P.level, .int .i64 r, .string (str BY), .slice la k lc] [.int .i64 P.lsn, .int .i64 P.kind, .int .i64 P.level, .int .i64 P.right, .string (str P.high), .slice ra (P.items.length - k) rc] w8.drew u) => hu.blk (Blk.drew hB8) (by omega) (by omega))
   have HX13 := keep (fun (u : World) (hu : Put2 (w_.heap.size + 1) (w_.heap.size + 2) 28 [.int .i64 P.lsn, .int .i64 P.kind, .int .i64 P.level, .int .i64 r, .string (str BY), .slice la k lc] [.int .i64 P.lsn, .int .i64 P.kind, .int .i64 P.level, .int .i64 P.right, .string (str P.high), .slice ra (P.items.length - k) rc] w8.drew u) => hu.blk (Blk.drew hX8) (by have := HG5.out.size; omega) (by have := HG5.out.size; omega));have HR13 := keep (fun (u : World) (hu : Put2 (w_.heap.size + 1) (w_.heap.size + 2) 28 [.int .i64 P.lsn, .int .i64 P.kind, .int .i64 P.level, .int .i64 r, .string (str BY), .slice la k lc] [.int .i64 P.lsn, .int .i64 P.kind, .int .i64 P.level, .int .i64 P.right, .string (str P.high), .slice ra (P.items.length - k) rc] w8.drew u) => hu.blk (Blk.drew hR_8) (by omega) (by omega));have HS1 := keep (fun (u : World) (hu : Put2 (w_.heap.size + 1) (w_.heap.size + 2) 28 [.int .i64 P.lsn, .int .i64 P.kind, .int .i64 P.level, .int .i64 r, .string (str BY), .slice la k lc] [.int .i64 P.lsn, .int .i64 P.kind, .int .i64 P.level, .int .i64 P.right, .string (str P.high), .slice ra (P.items.length - k) rc] w8.drew u) => hu.six1 ⟨_, _, _, _, _, _, Blk.drew hA_8⟩)
   have HS2 := keep (fun (u : World) (hu : Put2 (w_.heap.size + 1) (w_.heap.size + 2) 28 [.int .i64 P.lsn, .int .i64 P.kind, .int .i64 P.level, .int .i64 r, .string (str BY), .slice la k lc] [.int .i64 P.lsn, .int .i64 P.kind, .int .i64 P.level, .int .i64 P.right, .string (str P.high), .slice ra (P.items.length - k) rc] w8.drew u) => hu.six2 ⟨_, _, _, _, _, _, Blk.drew hB_8⟩);have H413 := keep (fun (u : World) (hu : Put2 (w_.heap.size + 1) (w_.heap.size + 2) 28 [.int .i64 P.lsn, .int .i64 P.kind, .int .i64 P.level, .int .i64 r, .string (str BY), .slice la k lc] [.int .i64 P.lsn, .int .i64 P.kind, .int .i64 P.level, .int .i64 P.right, .string (str P.high), .slice ra (P.items.length - k) rc] w8 u) => (own_put2 hu h48 hA_8 hB_8 (by decide)));have H913 := keep (fun (u : World) (hu : Put2 (w_.heap.size + 1) (w_.heap.size + 2) 28 [.int .i64 P.lsn, .int .i64 P.kind, .int .i64 P.level, .int .i64 r, .string (str BY), .slice la k lc] [.int .i64 P.lsn, .int .i64 P.kind, .int .i64 P.level, .int .i64 P.right, .string (str P.high), .slice ra (P.items.length - k) rc] w8 u) => (own_put2 hu h98 hA_8 hB_8 (by decide)));have HGG := keep (Below.trans hg0 (Below.trans (Below.mono HG2.out (by omega)) (hG8.mono (by omega))) : Below w_.heap.size w_ w8);have Hz8 := keep (show w_.heap.size + 3 < w8.heap.size by have := hG8.size; omega);clear hA8 hB8 hX8 h48 h98 hG8 hA_8 hB_8 hR_8 HA_ HB_ HR_ hz1 hz2
   refine rgx (N := 5) (by kernel_rfl) (Put2 (w_.heap.size + 1) (w_.heap.size + 2) 28 [.int .i64 P.lsn, .int .i64 P.kind, .int .i64 P.level, .int .i64 r, .string (str BY), .slice la k lc] [.int .i64 P.lsn, .int .i64 P.kind, .int .i64 P.level, .int .i64 P.right, .string (str P.high), .slice ra (P.items.length - k) rc]) (Put2.refl _) (fun _ _ _ => Put2.trans) (by kernel_rfl) rfl rfl ?_;intro a0 ha0;have hsz : a0.tmps.size = 87 := (size_at ha0).trans rfl;have s4 := slot_at ha0 4 rfl;have s5 := slot_at ha0 5 rfl;have s12 := slot_at ha0 12 rfl;have s13 := slot_at ha0 13 rfl;have s14 := slot_at ha0 14 rfl;have HA0 := keep ha0;clear ha0;apply lxv hsz Put2.refl (by kernel_rfl) rfl
   ·intro xs w hw K hK;obtain ⟨p0, p1, p2, p3, p4, p5, _⟩ := pgres (HA13.out w hw);go_simp;exact hK
   apply lxv hsz Put2.refl (by kernel_rfl) rfl
   ·intro xs w hw K hK;obtain ⟨p0, p1, p2, p3, p4, p5, _⟩ := pgres (HB13.out w hw);go_simp;exact hK
   apply lxv hsz Put2.refl (by kernel_rfl) rfl
   ·intro xs w hw K hK;obtain ⟨x0, x1, x2, _⟩ := enres (HX13.out w hw);go_simp;exact hK
   refine lxn hsz (fun u => Blk u (w_.heap.size + 1) 28 [.int .i64 P.lsn, .int .i64 P.kind, .int .i64 P.level, .int .i64 r, .string (str BY), .slice la k lc]) (fun u v hu h => hu.vs1 h) [] (by kernel_rfl) rfl ?_ ?_
   ·intro xs w hw hp K hK;obtain ⟨a0_, a1_, a2_, a3_, a4_, a5_, hR7⟩ := HS1.out w hw;obtain ⟨r0, r1, r2, r3, r4, r5, f0, f1, f2, f3, f4, f5⟩ := pgres hR7;have Hset := keep (pgset hR7 (.int .i64 P.lsn) (.int .i64 P.kind) (.int .i64 P.level) (.int .i64 r) (.string (str BY)) (.slice la k lc));have Hbut := keep (pgbut w (w_.heap.size + 1) (.int .i64 P.lsn) (.int .i64 P.kind) (.int .i64 P.level) (.int .i64 r) (.string (str BY)) (.slice la k lc));clear hR7;go_simp;exact hK _ _ Hset.out (Put2.one1 Hbut.out (by omega) Hset.out ⟨_, _, _, _, _, _, rfl⟩)
   refine lxn hsz (fun u => Blk u (w_.heap.size + 2) 28 [.int .i64 P.lsn, .int .i64 P.kind, .int .i64 P.level, .int .i64 P.right, .string (str P.high), .slice ra (P.items.length - k) rc]) (fun u v hu h => hu.vs2 h) [] (by kernel_rfl) rfl ?_ ?_
   ·intro xs w hw hp K hK;obtain ⟨a0_, a1_, a2_, a3_, a4_, a5_, hR7⟩ := HS2.out w hw;obtain ⟨r0, r1, r2, r3, r4, r5, f0, f1, f2, f3, f4, f5⟩ := pgres hR7;have Hset := keep (pgset hR7 (.int .i64 P.lsn) (.int .i64 P.kind) (.int .i64 P.level) (.int .i64 P.right) (.string (str P.high)) (.slice ra (P.items.length - k) rc));have Hbut := keep (pgbut w (w_.heap.size + 2) (.int .i64 P.lsn) (.int .i64 P.kind) (.int .i64 P.level) (.int .i64 P.right) (.string (str P.high)) (.slice ra (P.items.length - k) rc));clear hR7;go_simp;exact hK _ _ Hset.out (Put2.one2 Hbut.out (by omega) Hset.out ⟨_, _, _, _, _, _, rfl⟩)
   refine rgd [(3, false), (4, false)] (by kernel_rfl) rfl ?_;intro xs w hw hp;have ha0 := HA0.out;clear HA0 hsz s4 s5 s12 s13 s14;simp only [hzv] at hp;obtain ⟨h3, h4b⟩ := hp;subst ha0;simp only [putV];have hput := hw.undrew;have hX := HX13.out w hw;have hR := HR13.out w hw;have h4 := H413.out w hput;have h9 := H913.out w hput;have hb := hput.below HGG.out (by omega) (by omega) (by have := Hz8.out; omega);obtain ⟨r0, r1, r2, f0, f1, f2⟩ := enres hR;have Hset := keep (enset hR (.string (str bk)) (.int .i64 bp) (.int .i64 bs));have Hbut := keep (enbut w (w_.heap.size + 3) (.string (str bk)) (.int .i64 bp) (.int .i64 bs));have HS3 := keep (h3.but Hbut.out (by omega));have HS4 := keep (h4b.but Hbut.out (by omega));have H4f := keep ((h4.but Hbut.out hR (by decide)).low (show w_.heap.size <= w2.heap.size by omega));have H9f := keep ((h9.but Hbut.out hR (by decide)).low (show w_.heap.size <= w2.heap.size by omega));have Hb := keep (But.below hb Hbut.out (by omega) hb.size);clear hw h3 h4b hput hX hR h4 h9 hb;go_wp2_with fail;rw [HLeft2.out, HRight.out];refine bodyPost_ret (v := .tuple #[pgV { P with items := P.items.take k, right := r, high := BY } (.slice la k lc), pgV { P with items := rightI P } (.slice ra (P.items.length - k) rc), enV (bk, bp, bs), .int .i64 0]) ?_ rfl ⟨_, _, rfl, H4f.out, H9f.out, Hb.out⟩;obtain ⟨s0, s1, s2, _⟩ := enres Hset.out;obtain ⟨t0, t1, t2, t3, t4, t5, _⟩ := pgres HS3.out;obtain ⟨u0, u1, u2, u3, u4, u5, _⟩ := pgres HS4.out
   simp [results, Tryz.results204, go_sem, s0, s1, s2, t0, t1, t2, t3, t4, t5, u0, u1, u2, u3, u4, u5, pgV, enV]
end Go.Proofs.YtcdapdcablnhpaaGreat
