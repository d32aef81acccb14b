import Derived.Test.YtaninphcgeaepaaGreatKGr1
import Derived.Test.YtaninphcgeaepaaGreatKOwn2
import Derived.Deep.CutRange
/- slices.Index over entries; page.Out. -/
namespace Go.Proofs.YtaninphcgeaepaaGreat
open Go.RowKit
attribute [local go_sem] givesF_none givesF_some evalF_tmp evalF_const evalF_global evalF_func lookL isB_bool isB_undef givesUpon_value givesUpon_skip givesUpon_enter

attribute [local simp] eql_entry
attribute [local go_sem] guard_entry

/-- Where an entry is. -/
def IdxPost (l : List En) (t : En) (i : Int) : Prop := (i = -1 ∧ t ∉ l) ∨ ∃ k : Nat, i = k ∧ ∃ hk : k < l.length, l[k] = t

set_option maxRecDepth 100000 in
set_option maxHeartbeats 2000000 in
theorem index_any (t : En) (l : List En) (v : Value) (w_ : World) (h : EnsS w_ v l) (hl : l.length ≤ 1759218604441) :
    Calls Tryz.prog 83 #[v, enV t] w_ fun x w' => ∃ i, x = .returned (.int .i64 i) ∧ IdxPost l t i ∧ Below w_.heap.size w_ w' := by
  obtain ⟨a, cap, rfl⟩ : ∃ a cap, v = .slice a l.length cap := by
    rcases h with ⟨h1, _, a, cap, h2⟩ | ⟨c, off, cap, blk, f, h1, _⟩
    · exact ⟨a, cap, by rw [h2, h1]⟩
    · exact ⟨_, _, h1⟩
  have hcells : ∀ m (hm : m < l.length), ∃ c off, a = some ⟨c, off, none⟩ ∧ ∀ u, Grow w_ u → (u.cell? ⟨c, off + m * 3, none⟩ = some (.string (str l[m].1)) ∧ u.cell? ⟨c, off + m * 3 + 1, none⟩ = some (.int .i64 l[m].2.1) ∧ u.cell? ⟨c, off + m * 3 + 2, none⟩ = some (.int .i64 l[m].2.2)) := by
    intro m hm
    obtain ⟨c, off, cap', e, hc⟩ := ens_cells h.weak (by omega)
    simp only [Value.slice.injEq] at e
    refine ⟨c, off, e.1, fun u hu => ?_⟩
    have := hc m hm
    exact ⟨(Below.cell hu (World.block_lt_of_cell? w_ _ this.1)).trans this.1, (Below.cell hu (World.block_lt_of_cell? w_ _ this.2.1)).trans this.2.1, (Below.cell hu (World.block_lt_of_cell? w_ _ this.2.2)).trans this.2.2⟩
  obtain ⟨k, p, s⟩ := t
  obtain ⟨w0, hw0⟩ : ∃ w0, w0 = (w_.alloc (.cells #[.string (str k), .int .i64 p, .int .i64 s] 41)) := ⟨_, rfl⟩
  have hg0 : Grow w_ w0 := by subst hw0; exact (Grow.refl w_).alloc _
  have hT0 : Blk w0 w_.heap.size 41 [.string (str k), .int .i64 p, .int .i64 s] := by
    have := Blk.new w_ 41 [.string (str k), .int .i64 p, .int .i64 s]
    subst hw0; exact this
  have HCells := keep hcells
  have HT := keep (fun (u : World) (hu : Grow w0 u) => Blk.fits hT0 hu)
  clear h hcells hT0
  unfold enV
  go_enter Tryz.func83, Tryz.ntmps83
  go_upto_region 1 with fail
  rw [← hw0]
  clear hw0
  go_wp2_with fail
  go_loopw [8] (fun i wr => ∃ n : Nat, n ≤ l.length ∧ i = .int .i64 n ∧ Kept (∀ x (hx : x < l.length), x < n → l[x] ≠ (k, p, s)) ∧ Kept (Grow w0 wr)) (fun i _ => l.length - (intOf i).toNat)
  case atStart => exact ⟨0, Nat.zero_le _, rfl, keep (fun x hx h => absurd h (Nat.not_lt_zero _)), keep (Grow.refl _)⟩
  case round =>
    obtain ⟨n, hn, rfl, H1, HG⟩ := hrel
    by_cases hlt : n < l.length
    · go_upto_region 4 with fail
      obtain ⟨c2, off2, rfl, hcm⟩ := HCells.out n hlt
      have HCm := keep (fun (u : World) (hu : Grow wr.drew u) => hcm u (Grow.trans hg0 (Grow.trans HG.out (Grow.undrew hu))))
      have HTm := keep (fun (u : World) (hu : Grow wr.drew u) => enres (HT.out u (Grow.trans HG.out (Grow.undrew hu))))
      have hln : ∃ e, e = l[n] := ⟨_, rfl⟩
      obtain ⟨e, he⟩ := hln
      rw [← he] at HCm
      have He := keep he
      clear he hcm
      obtain ⟨mk, mp, ms⟩ := e
      dsimp only at HCm
      go_cut [16] from 11 to 16 (fun sv wx => sv = .bool (sameE (k, p, s) (mk, mp, ms)) ∧ Grow wr wx)
      case first =>
        refine wp_region_grow_named (by kernel_rfl) 5 (by kernel_rfl) [(11, 0), (12, 1), (13, 2), (14, 3), (15, 4)] (by kernel_rfl) [(0, true), (1, true), (2, true), (3, true), (4, true)] (by kernel_rfl) rfl rfl ?_
        intro a0 ha0
        have hsz : a0.tmps.size = 19 := (size_at ha0).trans rfl
        have s0 := slot_at ha0 0 rfl
        have s3 := slot_at ha0 3 rfl
        have s5 := slot_at ha0 5 rfl
        have HA0 := keep ha0
        clear ha0
        -- operation 0
        apply lexf_eq hsz [] [(12, 1), (13, 2), (14, 3), (15, 4)] none (by kernel_rfl) (by kernel_rfl) (by kernel_rfl) (by kernel_rfl) rfl
        · intro xs w hw hp K hK
          obtain ⟨c0, c1, c2, _⟩ := HTm.out w hw
          go_simp
          exact hK _ (Grow.refl _)
        -- operation 1
        apply lexf_eq hsz [] [(11, 0), (13, 2), (15, 4), (16, 5)] none (by kernel_rfl) (by kernel_rfl) (by kernel_rfl) (by kernel_rfl) rfl
        · intro xs w hw hp K hK
          go_simp
          exact hK _ (Grow.refl _)
        -- operation 2
        apply lexf_eq hsz [] [(11, 0), (12, 1), (15, 4), (16, 5)] none (by kernel_rfl) (by kernel_rfl) (by kernel_rfl) (by kernel_rfl) rfl
        · intro xs w hw hp K hK
          go_simp
          exact hK _ (Grow.refl _)
        -- operation 3
        apply lexf_eq hsz [(1, true), (2, true)] [(11, 0), (12, 1), (13, 2), (16, 5)] none (by kernel_rfl) (by kernel_rfl) (by kernel_rfl) (by kernel_rfl) rfl
        · intro xs w hw hp K hK
          simp only [holdsL, List.nil_append, List.cons_append, List.getD_cons_succ, List.getD_cons_zero, if_true, and_true] at hp
          have q1 : n < l.length := hlt
          go_simp
          exact hK _ (Grow.refl _)
        -- operation 4
        apply lexf_eq hsz [(3, true)] [(11, 0), (12, 1), (13, 2), (14, 3)] none (by kernel_rfl) (by kernel_rfl) (by kernel_rfl) (by kernel_rfl) rfl
        · intro xs w hw hp K hK
          simp only [holdsL, List.nil_append, List.cons_append, List.getD_cons_succ, List.getD_cons_zero, if_true, and_true] at hp
          obtain ⟨c0, c1, c2⟩ := HCm.out w hw
          go_simp
          exact hK _ (Grow.refl _)
        intro xs w hw hp
        have ha0 := HA0.out
        clear HA0 hsz s0 s3 s5
        simp only [holdsL, List.nil_append, List.cons_append, List.getD_cons_succ, List.getD_cons_zero, if_true, and_true] at hp
        have h0 := hp.1
        have h4 := hp.2.2.2.2
        clear hp
        subst ha0
        simp only [putAll, h0, h4]
        have hgw : Grow wr w := hw.undrew
        clear hw h0 h4
        go_wp2_with fail
        all_goals go_meet
        all_goals (case rel => exact ⟨rfl, hgw⟩)
      case rest =>
        obtain ⟨rfl, hgw⟩ := hcut
        have HG2 := keep (Grow.trans HG.out hgw)
        clear hgw
        generalize hS : sameE (k, p, s) (mk, mp, ms) = S
        cases S with
        | true =>
          have hq : (k, p, s) = (mk, mp, ms) := by simpa [sameE] using hS
          have HQ := keep hq
          clear hS hq
          go_wp2_with fail
          go_ret
          refine ⟨n, rfl, .inr ⟨n, rfl, hlt, ?_⟩, Grow.trans hg0 HG2.out⟩
          rw [HQ.out, He.out]
        | false =>
          have hq : (k, p, s) ≠ (mk, mp, ms) := by simpa [sameE] using hS
          have HQ := keep hq
          clear hS hq
          go_wp2_with fail
          go_roundw
          case rel =>
            refine ⟨n + 1, by omega, by go_num, keep (fun x hx hxn => ?_), HG2⟩
            by_cases e : x = n
            · subst e
              rw [← He.out]
              exact HQ.out.symm
            · exact H1.out x hx (by omega)
          case measure => simp [intOf]; omega
    · have e : n = l.length := by omega
      subst e
      go_wp2_with fail
      go_ret
      refine ⟨-1, rfl, .inl ⟨rfl, fun hm => ?_⟩, Grow.trans hg0 HG.out⟩
      obtain ⟨x, hx, he⟩ := List.mem_iff_getElem.1 hm
      exact H1.out x hx hx he

/-- A page without one of its items. -/
def outP (P : Pg) (i : Nat) : Pg := { P with items := P.items.take i ++ P.items.drop (i + 1) }

set_option maxRecDepth 100000 in
set_option maxHeartbeats 2000000 in
theorem out_any (P : Pg) (iv : Value) (i : Nat) (w_ : World) (hi : Items w_ iv P.items) (hi2 : i < P.items.length) (hl : P.items.length ≤ 1759218604441) :
    Calls Tryz.prog 98 #[pgV P iv, .int .i64 i] w_ (PgPost (outP P i) 0 w_) := by
  obtain ⟨w0, hw0⟩ : ∃ w0, w0 = ((w_.alloc (.cells (pgCells P iv).toArray 24)).alloc (.cells #[.int .i64 0, .int .i64 0, .int .i64 0, .int .i64 0, .string ⟨#[]⟩, .slice none 0 0] 24)) := ⟨_, rfl⟩
  have hg0 : Grow w_ w0 := by subst hw0; exact ((Grow.refl w_).alloc _).alloc _
  have hP0 : Blk w0 w_.heap.size 24 (pgCells P iv) := by
    have := (Blk.new w_ 24 (pgCells P iv)).alloc (.cells #[.int .i64 0, .int .i64 0, .int .i64 0, .int .i64 0, .string ⟨#[]⟩, .slice none 0 0] 24)
    subst hw0; exact this
  have hR0 : Blk w0 (w_.heap.size + 1) 24 [.int .i64 0, .int .i64 0, .int .i64 0, .int .i64 0, .string ⟨#[]⟩, .slice none 0 0] := by
    have := Blk.new (w_.alloc (.cells (pgCells P iv).toArray 24)) 24 [.int .i64 0, .int .i64 0, .int .i64 0, .int .i64 0, .string ⟨#[]⟩, .slice none 0 0]
    have e : (w_.alloc (.cells (pgCells P iv).toArray 24)).heap.size = w_.heap.size + 1 := by simp
    rw [e] at this
    subst hw0; exact this
  have hzR := hR0.lt
  have hcl := clone_any iv P.items w0 (Row.fits hi hg0) hl
  obtain ⟨ia, ic, rfl⟩ := items_form hi
  have HP0 := keep hP0
  have HR0 := keep hR0
  have HG0 := keep hg0
  have HCl := keep hcl
  have hle : (i : Int) < (P.items.length : Int) := by omega
  clear hi hR0 hcl
  unfold pgCells at hw0 hP0
  obtain ⟨p0, p1, p2, p3, p4, p5, q0, q1, q2, q3, q4, q5⟩ := pgres hP0
  unfold pgV
  go_enter Tryz.func98, Tryz.ntmps98
  go_upto_region 1 with fail
  rw [← hw0]
  clear hw0
  go_wp2_with fail
  refine HCl.out.mono ?_
  rintro x w1 ⟨v1, rfl, ho1, hb1⟩
  have hde := delete_own w0.heap.size i v1 P.items w1 ho1 hi2
  rw [show (((i + 1 : Nat)) : Int) = (i : Int) + 1 by omega] at hde
  obtain ⟨va, vc, rfl⟩ := own_form ho1
  have HDe := keep hde
  have hP1 := HP0.out.fits hb1
  have HR1 := keep (HR0.out.fits hb1)
  have HG1 := keep (Grow.trans HG0.out hb1)
  have HP1 := keep hP1
  have hz1 := hb1.size
  clear ho1 hde hb1 p0 p1 p2 p3 p4 p5 q0 q1 q2 q3 q4 q5 hP0
  unfold pgCells at hP1
  obtain ⟨p0, p1, p2, p3, p4, p5, q0, q1, q2, q3, q4, q5⟩ := pgres hP1
  clear hP1
  go_wp2_with fail
  refine HDe.out.mono ?_
  rintro x w2 ⟨v2, rfl, ho2, hb2⟩
  have hzP : w_.heap.size < w0.heap.size := HP0.out.lt
  have hP2 := HP1.out.below hb2 hzP
  have hR2 := HR1.out.below hb2 (by omega)
  have hg2 : Below w_.heap.size w_ w2 := Below.trans HG1.out (hb2.mono (by omega))
  have hit : ItemsC w2 v2 (P.items.take i ++ P.items.drop (i + 1)) := ⟨own_rowO ho2, owns_capd ho2⟩
  obtain ⟨v2a, v2c, rfl⟩ := itemsS_form hit.1
  clear p0 p1 p2 p3 p4 p5 q0 q1 q2 q3 q4 q5
  generalize hit2 : P.items.take i ++ P.items.drop (i + 1) = L at *
  have hP3 := hP2.set 5 (.slice v2a L.length v2c)
  have hbut3 := (But.refl w_.heap.size w2).setCell 5 (.slice v2a L.length v2c)
  have hR3 := hR2.but hbut3 (show w_.heap.size + 1 ≠ w_.heap.size by omega)
  have hit3 := itemsC_but hit hbut3 hP2 (by decide)
  have hg3 := But.below hg2 hbut3 (Nat.le_refl _) hg2.size
  unfold pgCells at hP2
  obtain ⟨p0, p1, p2, p3, p4, p5, q0, q1, q2, q3, q4, q5⟩ := pgres hP2
  have HP3 := keep hP3
  have HR3 := keep hR3
  have Hit3 := keep hit3
  have HG3 := keep hg3
  have hlt2 := hR2.lt
  clear hP3 hbut3 hR3 hit3 hg3 hP2 hR2 hg2 hit ho2 hb2
  go_upto_region 4 with fail
  have hP3 := HP3.out
  have hR3 := HR3.out
  have Hsz : Kept ((w2.setCell ⟨w_.heap.size, 5, none⟩ (.slice v2a L.length v2c)).heap.size = w2.heap.size) := keep (by simp)
  clear HP3 HR3 p0 p1 p2 p3 p4 p5 q0 q1 q2 q3 q4 q5
  generalize w2.setCell ⟨w_.heap.size, 5, none⟩ (.slice v2a L.length v2c) = w3 at *
  unfold pgCells at hP3
  simp only [List.set_cons_succ, List.set_cons_zero] at hP3
  obtain ⟨p0, p1, p2, p3, p4, p5, _⟩ := pgres hP3
  obtain ⟨r0, r1, r2, r3, r4, r5, f0, f1, f2, f3, f4, f5⟩ := pgres hR3
  have Hset := keep (pgset hR3 (.int .i64 P.lsn) (.int .i64 P.kind) (.int .i64 P.level) (.int .i64 P.right) (.string (str P.high)) (.slice v2a L.length v2c))
  have Hbut := keep (pgbut w3 (w_.heap.size + 1) (.int .i64 P.lsn) (.int .i64 P.kind) (.int .i64 P.level) (.int .i64 P.right) (.string (str P.high)) (.slice v2a L.length v2c))
  have Hit4 := keep (itemsC_but Hit3.out Hbut.out hR3 (by decide))
  have hlt3 := hR3.lt
  have hop : outP P i = { P with items := L } := by unfold outP; rw [hit2]
  have HOp := keep hop
  clear hP3 hR3 hop hit2
  go_wp2_with fail
  rw [HOp.out]
  refine bodyPost_ret (v := .tuple #[pgV { P with items := L } (.slice v2a L.length v2c), .int .i64 0]) ?_ rfl ⟨_, rfl, Hit4.out, But.below HG3.out Hbut.out (by omega) (by omega)⟩
  obtain ⟨s0, s1, s2, s3, s4, s5, _⟩ := pgres Hset.out
  simp [results, Tryz.results98, go_sem, s0, s1, s2, s3, s4, s5, pgV]

end Go.Proofs.YtaninphcgeaepaaGreat

/- node.Remove. -/
namespace Go.Proofs.YtaninphcgeaepaaGreat
open Go.RowKit
attribute [local go_sem] givesF_none givesF_some evalF_tmp evalF_const evalF_global evalF_func lookL isB_bool isB_undef givesUpon_value givesUpon_skip givesUpon_enter

/-- What removing an entry answers. -/
def RemPost (P : Pg) (e : En) (w : World) (x : Ending) (w' : World) : Prop :=
  ∃ Q c iv, x = .returned (.tuple #[pgV Q iv, .int .i64 c]) ∧ ItemsC w' iv Q.items ∧ Below w.heap.size w w' ∧
    ((entriesOk P = true ∧ ∃ k, ∃ hk : k < (ensN P).length, (ensN P)[k] = e ∧ Q = outP P k ∧ c = 0) ∨ ((entriesOk P = false ∨ e ∉ ensN P) ∧ Q = zeroP ∧ c = 140))

set_option maxRecDepth 100000 in
set_option maxHeartbeats 4000000 in
theorem remove_any (P : Pg) (iv : Value) (e : En) (w_ : World) (hin : PgIn w_ iv P) :
    Calls Tryz.prog 78 #[pgV P iv, enV e] w_ (RemPost P e w_) := by
  have hix := fun (u : World) (v : Value) (h : EnsS u v (ensN P)) (hl : (ensN P).length ≤ 1759218604441) => index_any e (ensN P) v u h hl
  have hd : entriesOk P = (openOk P && decide (P.level = 0)) := rfl
  unfold enV at hix
  have HIx := keep hix
  have HD := keep hd
  clear hix hd
  obtain ⟨k, p, s⟩ := e
  obtain ⟨w0, hw0⟩ : ∃ w0, w0 = (((w_.alloc (.cells (pgCells P iv).toArray 24)).alloc (.cells #[.string (str k), .int .i64 p, .int .i64 s] 41)).alloc (.cells #[.int .i64 0, .int .i64 0, .int .i64 0, .int .i64 0, .string ⟨#[]⟩, .slice none 0 0] 24)) := ⟨_, rfl⟩
  have hg0 : Grow w_ w0 := by subst hw0; exact (((Grow.refl w_).alloc _).alloc _).alloc _
  have hP0 : Blk w0 w_.heap.size 24 (pgCells P iv) := by
    have := ((Blk.new w_ 24 (pgCells P iv)).alloc (.cells #[.string (str k), .int .i64 p, .int .i64 s] 41)).alloc (.cells #[.int .i64 0, .int .i64 0, .int .i64 0, .int .i64 0, .string ⟨#[]⟩, .slice none 0 0] 24)
    subst hw0; exact this
  have hE0 : Blk w0 (w_.heap.size + 1) 41 [.string (str k), .int .i64 p, .int .i64 s] := by
    have := (Blk.new (w_.alloc (.cells (pgCells P iv).toArray 24)) 41 [.string (str k), .int .i64 p, .int .i64 s]).alloc (.cells #[.int .i64 0, .int .i64 0, .int .i64 0, .int .i64 0, .string ⟨#[]⟩, .slice none 0 0] 24)
    have e : (w_.alloc (.cells (pgCells P iv).toArray 24)).heap.size = w_.heap.size + 1 := by simp
    rw [e] at this
    subst hw0; exact this
  have hR0 : Blk w0 (w_.heap.size + 2) 24 [.int .i64 0, .int .i64 0, .int .i64 0, .int .i64 0, .string ⟨#[]⟩, .slice none 0 0] := by
    have := Blk.new ((w_.alloc (.cells (pgCells P iv).toArray 24)).alloc (.cells #[.string (str k), .int .i64 p, .int .i64 s] 41)) 24 [.int .i64 0, .int .i64 0, .int .i64 0, .int .i64 0, .string ⟨#[]⟩, .slice none 0 0]
    have e : ((w_.alloc (.cells (pgCells P iv).toArray 24)).alloc (.cells #[.string (str k), .int .i64 p, .int .i64 s] 41)).heap.size = w_.heap.size + 2 := by simp
    rw [e] at this
    subst hw0; exact this
  have hop := opened_pg (hin.fits hg0)
  obtain ⟨ia, ic, rfl⟩ := items_form hin.1
  have HOp := keep hop
  have HIn := keep hin
  have HP0 := keep hP0
  have HE0 := keep hE0
  have HR0 := keep hR0
  clear hop hin hE0 hR0
  unfold pgCells at hw0 hP0
  obtain ⟨p0, p1, p2, p3, p4, p5, _⟩ := pgres hP0
  unfold pgV enV
  go_enter Tryz.func78, Tryz.ntmps78
  go_upto_region 1 with fail
  rw [← hw0]
  clear hw0
  go_wp2_with fail
  refine HOp.out.mono ?_
  rintro x w1 ⟨a1, n1, c1, a2, n2, c2, hi, bd, ok, rfl, hok, hyes, hb1⟩
  clear p0 p1 p2 p3 p4 p5 hP0
  obtain ⟨w2, hw2⟩ : ∃ w2, w2 = w1.alloc (.cells #[.slice a1 n1 c1, .slice a2 n2 c2, .string (str hi.1), .int .i64 hi.2.1, .int .i64 hi.2.2, .bool bd] 97) := ⟨_, rfl⟩
  have hg2 : Grow w0 w2 := by subst hw2; exact Grow.alloc hb1 _
  have hO2 : Blk w2 w1.heap.size 97 [.slice a1 n1 c1, .slice a2 n2 c2, .string (str hi.1), .int .i64 hi.2.1, .int .i64 hi.2.2, .bool bd] := by subst hw2; exact Blk.new w1 _ [_, _, _, _, _, _]
  have hyes2 : ok = true → EnsS w2 (.slice a1 n1 c1) (ensN P) ∧ IntsS w2 (.slice a2 n2 c2) (kidsN P) ∧ hi = hiN P ∧ bd = bdN P := fun h => ⟨by subst hw2; exact RowS.fits (hyes h).1 ((Grow.refl _).alloc _), by subst hw2; exact RowS.fits (hyes h).2.1 ((Grow.refl _).alloc _), (hyes h).2.2⟩
  have HYes := keep hyes2
  have HOk := keep hok
  have HO2 := keep hO2
  have HG2 := keep hg2
  have HGW := keep (Grow.trans hg0 hg2)
  clear hyes hyes2 hok hb1 hO2 hg2
  go_upto_region 2 with fail
  rw [← hw2]
  clear hw2
  have hP2 := HP0.out.fits HG2.out
  unfold pgCells at hP2
  obtain ⟨p0, p1, p2, p3, p4, p5, _⟩ := pgres hP2
  obtain ⟨o0, o1, o2, o3, o4, o5, _⟩ := pgres HO2.out
  have hE2 := HE0.out.fits HG2.out
  obtain ⟨e0, e1, e2, _⟩ := enres hE2
  have HIx2 := HIx.out
  try dsimp only at HIx2
  have HIx3 := keep HIx2
  clear HIx2
  have hd := HD.out
  rw [← HOk.out] at hd
  have HD2 := keep hd
  clear hd
  have hz2 := (HR0.out.fits HG2.out).lt
  cases ok with
  | false =>
    have hno : entriesOk P = false := HD2.out
    have HNo := keep hno
    clear hno
    have hR := HR0.out.fits HG2.out
    have Hset := keep (pgset hR (.int .i64 0) (.int .i64 0) (.int .i64 0) (.int .i64 0) (.string ⟨#[]⟩) (.slice none 0 0))
    have Hbut := keep (pgbut w2 (w_.heap.size + 2) (.int .i64 0) (.int .i64 0) (.int .i64 0) (.int .i64 0) (.string ⟨#[]⟩) (.slice none 0 0))
    have hlt2 := hR.lt
    obtain ⟨r0, r1, r2, r3, r4, r5, f0, f1, f2, f3, f4, f5⟩ := pgres hR
    clear hR
    go_wp2_with fail
    refine bodyPost_ret (v := .tuple #[pgV zeroP (.slice none 0 0), .int .i64 140]) ?_ rfl ⟨_, _, _, rfl, ItemsC.nil _, But.below HGW.out Hbut.out (by omega) (by omega), .inr ⟨.inl HNo.out, rfl, rfl⟩⟩
    obtain ⟨s0, s1, s2, s3, s4, s5, _⟩ := pgres Hset.out
    simp [results, Tryz.results78, go_sem, s0, s1, s2, s3, s4, s5, pgV, zeroP]
    rfl
  | true =>
    obtain ⟨hes, _, h2, h3⟩ := HYes.out rfl
    by_cases hlv : P.level = 0
    · have hyes : entriesOk P = true := by rw [HD2.out, decide_eq_true hlv]; rfl
      have hlv2 : (P.level != 0) = false := by simp [hlv]
      have hopen : openOk P = true := HOk.out.symm
      have hl255 := (open_fine hopen).1
      have hix := HIx3.out w2 _ hes (by rw [ensN_length]; omega)
      have HIx4 := keep hix
      have HYs := keep hyes
      have hlen := ensN_length P
      have HI2 := keep (Row.fits HIn.out.1 HGW.out : Items w2 (.slice ia P.items.length ic) P.items)
      clear hlv hes h2 h3 hyes hix hopen
      go_wp2_with fail
      refine HIx4.out.mono ?_
      rintro x w3 ⟨j, rfl, hj, hb3⟩
      have hE3 := hE2.fits hb3
      have hP3 := (HP0.out.fits HG2.out).fits hb3
      have HR3 := keep ((HR0.out.fits HG2.out).fits hb3)
      have HGW3 := keep (Grow.trans HGW.out hb3)
      have HI3 := keep (Row.fits HI2.out hb3 : Items w3 (.slice ia P.items.length ic) P.items)
      have hz3 := HR3.out.lt
      clear p0 p1 p2 p3 p4 p5 o0 o1 o2 o3 o4 o5 e0 e1 e2 hP2 hE2 hb3
      rcases hj with ⟨rfl, hm⟩ | ⟨j, rfl, hj, he⟩
      · have HM := keep hm
        clear hm
        have hR := HR3.out
        have Hset := keep (pgset hR (.int .i64 0) (.int .i64 0) (.int .i64 0) (.int .i64 0) (.string ⟨#[]⟩) (.slice none 0 0))
        have Hbut := keep (pgbut w3 (w_.heap.size + 2) (.int .i64 0) (.int .i64 0) (.int .i64 0) (.int .i64 0) (.string ⟨#[]⟩) (.slice none 0 0))
        have hlt2 := hR.lt
        obtain ⟨r0, r1, r2, r3, r4, r5, f0, f1, f2, f3, f4, f5⟩ := pgres hR
        clear hR
        go_wp2_with fail
        refine bodyPost_ret (v := .tuple #[pgV zeroP (.slice none 0 0), .int .i64 140]) ?_ rfl ⟨_, _, _, rfl, ItemsC.nil _, But.below HGW3.out Hbut.out (by omega) (by omega), .inr ⟨.inr HM.out, rfl, rfl⟩⟩
        obtain ⟨s0, s1, s2, s3, s4, s5, _⟩ := pgres Hset.out
        simp [results, Tryz.results78, go_sem, s0, s1, s2, s3, s4, s5, pgV, zeroP]
        rfl
      · have hout := out_any P (.slice ia P.items.length ic) j w3 HI3.out (by omega) (by omega)
        have HOut := keep hout
        have HE := keep he
        have hj0 : ¬ (j : Int) < 0 := by omega
        unfold pgCells at hP3
        obtain ⟨p0, p1, p2, p3, p4, p5, _⟩ := pgres hP3
        clear hout he hP3
        unfold PgPost pgV at HOut
        go_wp2_with fail
        refine HOut.out.mono ?_
        rintro x w4 ⟨iv4, rfl, hi4, hb4⟩
        generalize hQ : outP P j = Q at *
        have HQ := keep hQ
        obtain ⟨qa, qc, rfl⟩ := itemsS_form hi4.1
        have hR4 := HR3.out.fits hb4
        have Hset := keep (pgset hR4 (.int .i64 Q.lsn) (.int .i64 Q.kind) (.int .i64 Q.level) (.int .i64 Q.right) (.string (str Q.high)) (.slice qa Q.items.length qc))
        have Hbut := keep (pgbut w4 (w_.heap.size + 2) (.int .i64 Q.lsn) (.int .i64 Q.kind) (.int .i64 Q.level) (.int .i64 Q.right) (.string (str Q.high)) (.slice qa Q.items.length qc))
        have Hit := keep (itemsC_but hi4 Hbut.out hR4 (by decide))
        have HG4 := keep (Grow.trans HGW3.out hb4)
        have hz4 := hR4.lt
        obtain ⟨r0, r1, r2, r3, r4, r5, f0, f1, f2, f3, f4, f5⟩ := pgres hR4
        clear hQ hi4 hR4 hb4 p0 p1 p2 p3 p4 p5
        go_wp2_with fail
        refine bodyPost_ret (v := .tuple #[pgV Q (.slice qa Q.items.length qc), .int .i64 0]) ?_ rfl ⟨_, _, _, rfl, Hit.out, But.below HG4.out Hbut.out (by omega) (by omega), .inl ⟨HYs.out, j, hj, HE.out, HQ.out.symm, rfl⟩⟩
        obtain ⟨s0, s1, s2, s3, s4, s5, _⟩ := pgres Hset.out
        simp [results, Tryz.results78, go_sem, s0, s1, s2, s3, s4, s5, pgV]
    · have hno : entriesOk P = false := by rw [HD2.out, decide_eq_false hlv]; rfl
      have hlv2 : (P.level != 0) = true := by simp [hlv]
      have HNo := keep hno
      clear hlv hno hes h2 h3
      have hR := HR0.out.fits HG2.out
      have Hset := keep (pgset hR (.int .i64 0) (.int .i64 0) (.int .i64 0) (.int .i64 0) (.string ⟨#[]⟩) (.slice none 0 0))
      have Hbut := keep (pgbut w2 (w_.heap.size + 2) (.int .i64 0) (.int .i64 0) (.int .i64 0) (.int .i64 0) (.string ⟨#[]⟩) (.slice none 0 0))
      have hlt2 := hR.lt
      obtain ⟨r0, r1, r2, r3, r4, r5, f0, f1, f2, f3, f4, f5⟩ := pgres hR
      clear hR
      go_wp2_with fail
      refine bodyPost_ret (v := .tuple #[pgV zeroP (.slice none 0 0), .int .i64 140]) ?_ rfl ⟨_, _, _, rfl, ItemsC.nil _, But.below HGW.out Hbut.out (by omega) (by omega), .inr ⟨.inl HNo.out, rfl, rfl⟩⟩
      obtain ⟨s0, s1, s2, s3, s4, s5, _⟩ := pgres Hset.out
      simp [results, Tryz.results78, go_sem, s0, s1, s2, s3, s4, s5, pgV, zeroP]
      rfl

end Go.Proofs.YtaninphcgeaepaaGreat

/- Lists with one less. -/
namespace Go.Proofs.YtaninphcgeaepaaGreat
open Go.RowKit

def remL (l : List En) (k : Nat) : List En := l.take k ++ l.drop (k + 1)
theorem remL_length {l : List En} {k : Nat} (h : k < l.length) : (remL l k).length = l.length - 1 := by unfold remL; simp; omega
theorem remL_get {l : List En} {k i : Nat} (h : k < l.length) (hi : i < (remL l k).length) : (remL l k)[i] = l[if k ≤ i then i + 1 else i]'(by rw [remL_length h] at hi; split <;> omega) := by
  have e : (remL l k)[i]? = l[if k ≤ i then i + 1 else i]? := by
    unfold remL
    rw [List.getElem?_append, List.length_take, Nat.min_eq_left (Nat.le_of_lt h)]
    by_cases hk : k ≤ i
    · rw [if_neg (by omega), if_pos hk, List.getElem?_drop]
      congr 1
      omega
    · rw [if_pos (by omega), if_neg hk, List.getElem?_take, if_pos (by omega)]
  rw [List.getElem?_eq_getElem hi, List.getElem?_eq_getElem (by rw [remL_length h] at hi; split <;> omega)] at e
  exact Option.some.inj e
theorem remL_sub (l : List En) (k : Nat) : (remL l k).Sublist l := by
  conv => rhs; rw [← List.take_append_drop k l]
  refine List.Sublist.append_left ?_ _
  rw [← List.drop_drop]
  exact List.drop_sublist 1 _
theorem sumL_mono {a b : List (List UInt8)} (h : a.Sublist b) : sumL a ≤ sumL b := by
  induction h with
  | slnil => exact Nat.le_refl _
  | cons x _ ih => simp only [sumL]; omega
  | cons_cons x _ ih => simp only [sumL]; omega
theorem remL_good {l : List En} (h : GoodL l) (k : Nat) : GoodL (remL l k) := by
  refine ⟨h.sorted.sublist (remL_sub l k), fun e he => h.ok e ((remL_sub l k).subset he), ?_⟩
  have hf := h.fit
  simp only [fitsP, Bool.and_eq_true, decide_eq_true_eq, sizeP] at hf ⊢
  have h1 : (pgOf (remL l k)).items.Sublist (pgOf l).items := (remL_sub l k).map _
  have h2 := h1.length_le
  have h3 := sumL_mono h1
  have h4 : (pgOf (remL l k)).high.length = (pgOf l).high.length := rfl
  refine ⟨by omega, decide_eq_true ?_⟩
  have := of_decide_eq_true hf.2
  omega
theorem outP_of (l : List En) (k : Nat) : outP (pgOf l) k = pgOf (remL l k) := by simp [outP, pgOf, remL]
theorem sorted_inj {l : List En} (h : Sorted l) {i j : Nat} (hi : i < l.length) (hj : j < l.length) (he : l[i] = l[j]) : i = j := by
  rcases Nat.lt_trichotomy i j with h1 | h1 | h1
  · have := h.at hi hj h1
    rw [he, cmpE_self] at this
    omega
  · exact h1
  · have := h.at hj hi h1
    rw [he, cmpE_self] at this
    omega
theorem tmod_fine (a : Int) (n : Nat) (hn : 0 < n) : -(n : Int) < a.tmod n ∧ a.tmod n < n := by
  have h1 := Int.tmod_lt_of_pos a (show (0 : Int) < n by omega)
  have h2 := Int.tmod_lt_of_pos (-a) (show (0 : Int) < n by omega)
  rw [Int.neg_tmod] at h2
  omega
/-- The entries of a leaf that holds a list. -/
theorem entries_of {l : List En} (h : GoodL l) (iv : Value) (u : World) (hi : ItemsC u iv (pgOf l).items) :
    Calls Tryz.prog 42 #[pgV (pgOf l) iv] u fun x w' => ∃ a c, x = .returned (.tuple #[.slice a l.length c, .int .i64 0]) ∧ EnsS w' (.slice a l.length c) l ∧ Below u.heap.size u w' := by
  refine (entries_node (pgOf l) iv u (pgIn_good h hi)).mono fun x w' hx => ?_
  unfold EntPost at hx
  rw [entriesOk_of h, if_pos rfl, ens_of h.ok] at hx
  obtain ⟨⟨a, c, h1, h2⟩, h3⟩ := hx
  exact ⟨a, c, h1, h2, h3⟩
theorem idx_fine (a : Int) (n : Nat) (h0 : 0 < n) (h : n ≤ 1000) : ∃ k : Nat, (wrap64 (a.tmod n + n)).tmod n = (k : Int) ∧ k < n := by
  obtain ⟨h1, h2⟩ := tmod_fine a n h0
  obtain ⟨m, hm⟩ : ∃ m : Nat, a.tmod n + n = (m : Int) := ⟨(a.tmod n + n).toNat, by omega⟩
  rw [hm, wrap64_small m (by omega)]
  exact ⟨m % n, by rw [Int.ofNat_tmod], Nat.mod_lt _ h0⟩
/-- An entry taken out of a leaf that holds a list. -/
theorem remove_of {l : List En} (h : GoodL l) (k : Nat) (hk : k < l.length) (iv : Value) (u : World) (hi : ItemsC u iv (pgOf l).items) :
    Calls Tryz.prog 78 #[pgV (pgOf l) iv, enV l[k]] u fun x w' => ∃ iv', x = .returned (.tuple #[pgV (pgOf (remL l k)) iv', .int .i64 0]) ∧ ItemsC w' iv' (pgOf (remL l k)).items ∧ Below u.heap.size u w' := by
  refine (remove_any (pgOf l) iv l[k] u (pgIn_good h hi)).mono fun x w' hx => ?_
  obtain ⟨Q, c, iv', rfl, h2, h3, h4⟩ := hx
  rw [entriesOk_of h] at h4
  have he := ens_of h.ok
  generalize ensN (pgOf l) = m at *
  subst he
  rcases h4 with ⟨_, j, hj, h5, rfl, rfl⟩ | ⟨h5 | h5, _⟩
  · have := sorted_inj h.sorted hj hk h5
    subst this
    rw [outP_of] at h2 ⊢
    exact ⟨iv', rfl, h2, h3⟩
  · cases h5
  · exact absurd (List.getElem_mem hk) h5

end Go.Proofs.YtaninphcgeaepaaGreat
