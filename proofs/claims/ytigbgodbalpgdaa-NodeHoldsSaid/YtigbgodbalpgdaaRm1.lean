/- node.Remove. -/
import Derived.Test.YtigbgodbalpgdaaIx1
namespace Go.Proofs.Ytigbgodbalpgdaa
open Go.RowKit
attribute [local go_sem] givesF_none givesF_some evalF_tmp evalF_const evalF_global evalF_func lookL isB_bool isB_undef givesUpon_value givesUpon_skip givesUpon_enter

/-- What removing an entry answers. -/
def RemPost (P : Pg) (e : En) (w : World) (x : Ending) (w' : World) : Prop :=
  ∃ Q c iv, x = .returned (.tuple #[pgV Q iv, .int .i64 c]) ∧ ItemsC w' iv Q.items ∧ Below w.heap.size w w' ∧
    ((entriesOk P = true ∧ ∃ k, ∃ hk : k < (ensN P).length, (ensN P)[k] = e ∧ Q = outP P k ∧ c = 0) ∨ ((entriesOk P = false ∨ e ∉ ensN P) ∧ Q = zeroP ∧ c = 140))

set_option maxRecDepth 100000 in
set_option maxHeartbeats 4000000 in
theorem remove_any (P : Pg) (iv : Value) (e : En) (w_ : World) (hin : PgIn w_ iv P) :
    Calls Try.prog 38 #[pgV P iv, enV e] w_ (RemPost P e w_) := by
  have hix := fun (u : World) (v : Value) (h : EnsS u v (ensN P)) (hl : (ensN P).length ≤ 1759218604441) => index_any e (ensN P) v u h hl
  have hd : entriesOk P = (openOk P && decide (P.level = 0)) := rfl
  unfold enV at hix
  have HIx := keep hix
  have HD := keep hd
  clear hix hd
  obtain ⟨k, p, s⟩ := e
  obtain ⟨w0, hw0⟩ : ∃ w0, w0 = (((w_.alloc (.cells (pgCells P iv).toArray 39)).alloc (.cells #[.string (str k), .int .i64 p, .int .i64 s] 23)).alloc (.cells #[.int .i64 0, .int .i64 0, .int .i64 0, .int .i64 0, .string ⟨#[]⟩, .slice none 0 0] 39)) := ⟨_, rfl⟩
  have hg0 : Grow w_ w0 := by subst hw0; exact (((Grow.refl w_).alloc _).alloc _).alloc _
  have hP0 : Blk w0 w_.heap.size 39 (pgCells P iv) := by
    have := ((Blk.new w_ 39 (pgCells P iv)).alloc (.cells #[.string (str k), .int .i64 p, .int .i64 s] 23)).alloc (.cells #[.int .i64 0, .int .i64 0, .int .i64 0, .int .i64 0, .string ⟨#[]⟩, .slice none 0 0] 39)
    subst hw0; exact this
  have hE0 : Blk w0 (w_.heap.size + 1) 23 [.string (str k), .int .i64 p, .int .i64 s] := by
    have := (Blk.new (w_.alloc (.cells (pgCells P iv).toArray 39)) 23 [.string (str k), .int .i64 p, .int .i64 s]).alloc (.cells #[.int .i64 0, .int .i64 0, .int .i64 0, .int .i64 0, .string ⟨#[]⟩, .slice none 0 0] 39)
    have e : (w_.alloc (.cells (pgCells P iv).toArray 39)).heap.size = w_.heap.size + 1 := by simp
    rw [e] at this
    subst hw0; exact this
  have hR0 : Blk w0 (w_.heap.size + 2) 39 [.int .i64 0, .int .i64 0, .int .i64 0, .int .i64 0, .string ⟨#[]⟩, .slice none 0 0] := by
    have := Blk.new ((w_.alloc (.cells (pgCells P iv).toArray 39)).alloc (.cells #[.string (str k), .int .i64 p, .int .i64 s] 23)) 39 [.int .i64 0, .int .i64 0, .int .i64 0, .int .i64 0, .string ⟨#[]⟩, .slice none 0 0]
    have e : ((w_.alloc (.cells (pgCells P iv).toArray 39)).alloc (.cells #[.string (str k), .int .i64 p, .int .i64 s] 23)).heap.size = w_.heap.size + 2 := by simp
    rw [e] at this
    subst hw0; exact this
  have hop := opened_pg (hin.fits hg0)
  obtain ⟨ia, ic, rfl⟩ := items_form hin.1
  have HOp := keep hop
  have HIn := keep hin
  have HP0 := keep hP0
  have HE0 := keep hE0
  have HR0 := keep hR0
  clear hop hin hE0 hR0
  unfold pgCells at hw0 hP0
  obtain ⟨p0, p1, p2, p3, p4, p5, _⟩ := pgres hP0
  unfold pgV enV
  go_enter Try.func38, Try.ntmps38
  go_upto_region 1 with fail
  rw [← hw0]
  clear hw0
  go_wp2_with fail
  refine HOp.out.mono ?_
  rintro x w1 ⟨a1, n1, c1, a2, n2, c2, hi, bd, ok, rfl, hok, hyes, hb1⟩
  clear p0 p1 p2 p3 p4 p5 hP0
  obtain ⟨w2, hw2⟩ : ∃ w2, w2 = w1.alloc (.cells #[.slice a1 n1 c1, .slice a2 n2 c2, .string (str hi.1), .int .i64 hi.2.1, .int .i64 hi.2.2, .bool bd] 81) := ⟨_, rfl⟩
  have hg2 : Grow w0 w2 := by subst hw2; exact Grow.alloc hb1 _
  have hO2 : Blk w2 w1.heap.size 81 [.slice a1 n1 c1, .slice a2 n2 c2, .string (str hi.1), .int .i64 hi.2.1, .int .i64 hi.2.2, .bool bd] := by subst hw2; exact Blk.new w1 _ [_, _, _, _, _, _]
  have hyes2 : ok = true → EnsS w2 (.slice a1 n1 c1) (ensN P) ∧ IntsS w2 (.slice a2 n2 c2) (kidsN P) ∧ hi = hiN P ∧ bd = bdN P := fun h => ⟨by subst hw2; exact RowS.fits (hyes h).1 ((Grow.refl _).alloc _), by subst hw2; exact RowS.fits (hyes h).2.1 ((Grow.refl _).alloc _), (hyes h).2.2⟩
  have HYes := keep hyes2
  have HOk := keep hok
  have HO2 := keep hO2
  have HG2 := keep hg2
  have HGW := keep (Grow.trans hg0 hg2)
  clear hyes hyes2 hok hb1 hO2 hg2
  go_upto_region 2 with fail
  rw [← hw2]
  clear hw2
  have hP2 := HP0.out.fits HG2.out
  unfold pgCells at hP2
  obtain ⟨p0, p1, p2, p3, p4, p5, _⟩ := pgres hP2
  obtain ⟨o0, o1, o2, o3, o4, o5, _⟩ := pgres HO2.out
  have hE2 := HE0.out.fits HG2.out
  obtain ⟨e0, e1, e2, _⟩ := enres hE2
  have HIx2 := HIx.out
  try dsimp only at HIx2
  have HIx3 := keep HIx2
  clear HIx2
  have hd := HD.out
  rw [← HOk.out] at hd
  have HD2 := keep hd
  clear hd
  have hz2 := (HR0.out.fits HG2.out).lt
  cases ok with
  | false =>
    have hno : entriesOk P = false := HD2.out
    have HNo := keep hno
    clear hno
    have hR := HR0.out.fits HG2.out
    have Hset := keep (pgset hR (.int .i64 0) (.int .i64 0) (.int .i64 0) (.int .i64 0) (.string ⟨#[]⟩) (.slice none 0 0))
    have Hbut := keep (pgbut w2 (w_.heap.size + 2) (.int .i64 0) (.int .i64 0) (.int .i64 0) (.int .i64 0) (.string ⟨#[]⟩) (.slice none 0 0))
    have hlt2 := hR.lt
    obtain ⟨r0, r1, r2, r3, r4, r5, f0, f1, f2, f3, f4, f5⟩ := pgres hR
    clear hR
    go_wp2_with fail
    refine bodyPost_ret (v := .tuple #[pgV zeroP (.slice none 0 0), .int .i64 140]) ?_ rfl ⟨_, _, _, rfl, ItemsC.nil _, But.below HGW.out Hbut.out (by omega) (by omega), .inr ⟨.inl HNo.out, rfl, rfl⟩⟩
    obtain ⟨s0, s1, s2, s3, s4, s5, _⟩ := pgres Hset.out
    simp [results, Try.results38, go_sem, s0, s1, s2, s3, s4, s5, pgV, zeroP]
    rfl
  | true =>
    obtain ⟨hes, _, h2, h3⟩ := HYes.out rfl
    by_cases hlv : P.level = 0
    · have hyes : entriesOk P = true := by rw [HD2.out, decide_eq_true hlv]; rfl
      have hlv2 : (P.level != 0) = false := by simp [hlv]
      have hopen : openOk P = true := HOk.out.symm
      have hl255 := (open_fine hopen).1
      have hix := HIx3.out w2 _ hes (by rw [ensN_length]; omega)
      have HIx4 := keep hix
      have HYs := keep hyes
      have hlen := ensN_length P
      have HI2 := keep (Row.fits HIn.out.1 HGW.out : Items w2 (.slice ia P.items.length ic) P.items)
      clear hlv hes h2 h3 hyes hix hopen
      go_wp2_with fail
      refine HIx4.out.mono ?_
      rintro x w3 ⟨j, rfl, hj, hb3⟩
      have hE3 := hE2.fits hb3
      have hP3 := (HP0.out.fits HG2.out).fits hb3
      have HR3 := keep ((HR0.out.fits HG2.out).fits hb3)
      have HGW3 := keep (Grow.trans HGW.out hb3)
      have HI3 := keep (Row.fits HI2.out hb3 : Items w3 (.slice ia P.items.length ic) P.items)
      have hz3 := HR3.out.lt
      clear p0 p1 p2 p3 p4 p5 o0 o1 o2 o3 o4 o5 e0 e1 e2 hP2 hE2 hb3
      rcases hj with ⟨rfl, hm⟩ | ⟨j, rfl, hj, he⟩
      · have HM := keep hm
        clear hm
        have hR := HR3.out
        have Hset := keep (pgset hR (.int .i64 0) (.int .i64 0) (.int .i64 0) (.int .i64 0) (.string ⟨#[]⟩) (.slice none 0 0))
        have Hbut := keep (pgbut w3 (w_.heap.size + 2) (.int .i64 0) (.int .i64 0) (.int .i64 0) (.int .i64 0) (.string ⟨#[]⟩) (.slice none 0 0))
        have hlt2 := hR.lt
        obtain ⟨r0, r1, r2, r3, r4, r5, f0, f1, f2, f3, f4, f5⟩ := pgres hR
        clear hR
        go_wp2_with fail
        refine bodyPost_ret (v := .tuple #[pgV zeroP (.slice none 0 0), .int .i64 140]) ?_ rfl ⟨_, _, _, rfl, ItemsC.nil _, But.below HGW3.out Hbut.out (by omega) (by omega), .inr ⟨.inr HM.out, rfl, rfl⟩⟩
        obtain ⟨s0, s1, s2, s3, s4, s5, _⟩ := pgres Hset.out
        simp [results, Try.results38, go_sem, s0, s1, s2, s3, s4, s5, pgV, zeroP]
        rfl
      · have hout := out_any P (.slice ia P.items.length ic) j w3 HI3.out (by omega) (by omega)
        have HOut := keep hout
        have HE := keep he
        have hj0 : ¬ (j : Int) < 0 := by omega
        unfold pgCells at hP3
        obtain ⟨p0, p1, p2, p3, p4, p5, _⟩ := pgres hP3
        clear hout he hP3
        unfold PgPost pgV at HOut
        go_wp2_with fail
        refine HOut.out.mono ?_
        rintro x w4 ⟨iv4, rfl, hi4, hb4⟩
        generalize hQ : outP P j = Q at *
        have HQ := keep hQ
        obtain ⟨qa, qc, rfl⟩ := itemsS_form hi4.1
        have hR4 := HR3.out.fits hb4
        have Hset := keep (pgset hR4 (.int .i64 Q.lsn) (.int .i64 Q.kind) (.int .i64 Q.level) (.int .i64 Q.right) (.string (str Q.high)) (.slice qa Q.items.length qc))
        have Hbut := keep (pgbut w4 (w_.heap.size + 2) (.int .i64 Q.lsn) (.int .i64 Q.kind) (.int .i64 Q.level) (.int .i64 Q.right) (.string (str Q.high)) (.slice qa Q.items.length qc))
        have Hit := keep (itemsC_but hi4 Hbut.out hR4 (by decide))
        have HG4 := keep (Grow.trans HGW3.out hb4)
        have hz4 := hR4.lt
        obtain ⟨r0, r1, r2, r3, r4, r5, f0, f1, f2, f3, f4, f5⟩ := pgres hR4
        clear hQ hi4 hR4 hb4 p0 p1 p2 p3 p4 p5
        go_wp2_with fail
        refine bodyPost_ret (v := .tuple #[pgV Q (.slice qa Q.items.length qc), .int .i64 0]) ?_ rfl ⟨_, _, _, rfl, Hit.out, But.below HG4.out Hbut.out (by omega) (by omega), .inl ⟨HYs.out, j, hj, HE.out, HQ.out.symm, rfl⟩⟩
        obtain ⟨s0, s1, s2, s3, s4, s5, _⟩ := pgres Hset.out
        simp [results, Try.results38, go_sem, s0, s1, s2, s3, s4, s5, pgV]
    · have hno : entriesOk P = false := by rw [HD2.out, decide_eq_false hlv]; rfl
      have hlv2 : (P.level != 0) = true := by simp [hlv]
      have HNo := keep hno
      clear hlv hno hes h2 h3
      have hR := HR0.out.fits HG2.out
      have Hset := keep (pgset hR (.int .i64 0) (.int .i64 0) (.int .i64 0) (.int .i64 0) (.string ⟨#[]⟩) (.slice none 0 0))
      have Hbut := keep (pgbut w2 (w_.heap.size + 2) (.int .i64 0) (.int .i64 0) (.int .i64 0) (.int .i64 0) (.string ⟨#[]⟩) (.slice none 0 0))
      have hlt2 := hR.lt
      obtain ⟨r0, r1, r2, r3, r4, r5, f0, f1, f2, f3, f4, f5⟩ := pgres hR
      clear hR
      go_wp2_with fail
      refine bodyPost_ret (v := .tuple #[pgV zeroP (.slice none 0 0), .int .i64 140]) ?_ rfl ⟨_, _, _, rfl, ItemsC.nil _, But.below HGW.out Hbut.out (by omega) (by omega), .inr ⟨.inl HNo.out, rfl, rfl⟩⟩
      obtain ⟨s0, s1, s2, s3, s4, s5, _⟩ := pgres Hset.out
      simp [results, Try.results38, go_sem, s0, s1, s2, s3, s4, s5, pgV, zeroP]
      rfl

end Go.Proofs.Ytigbgodbalpgdaa
