
/- does, awake. -/
import Derived.Test.YtgijmlienolhpaaTx5
import Derived.Sort.AtCall
import Derived.Test.YtgijmlienolhpaaTb7
import Derived.Test.YtgijmlienolhpaaTs5
namespace Go.Proofs.Ytgijmlienolhpaa
open Go.RowKit Go.Maps

theorem Good.lenT {K : Nat} {T : Tr} (h : Good K (stT T)) : LenT T := fun x hx => h.acts (x.1, x.2.2) (List.mem_map.2 ⟨x, hx, rfl⟩)
theorem Good.xidT {K : Nat} {T : Tr} (h : Good K (stT T)) : ∀ x ∈ T, x.2.2.xid ≤ 9223372036854775807 := fun x hx => h.xids (x.1, x.2.2) (List.mem_map.2 ⟨x, hx, rfl⟩)
theorem Good.sizeT {K : Nat} {T : Tr} (h : Good K (stT T)) (hK : K ≤ 4398046511104) : T.length ≤ 4398046511104 := by
  have := h.len
  simp [stT] at this
  omega
theorem Out.refl (O : Nat → Prop) (w : World) : Out O w w := Out.of_below (Below.refl _ _)
/-- A call as the law has it. -/
def opC (c : Cl) (sv : Value) : List Value := [.int .i64 c.ask, .int .i64 c.who, .int .i64 c.n, .bool c.flag, .int .i64 c.next, sv]
def DoesPost (O : Nat → Prop) (tb : Nat) (S : St) (w : World) (e : Ending) (w' : World) : Prop := e = .returned (.tuple #[]) ∧ (∃ T', TabT w' O tb T' ∧ stT T' = S) ∧ Out O w w'

set_option maxRecDepth 100000 in
set_option maxHeartbeats 4000000 in
theorem does_any (O : Nat → Prop) (tb : Nat) (T : Tr) (c : Cl) (sv : Value) (hw : (Lit.int .i64 c.who).wf = true) (w_ : World) (h : TabT w_ O tb T) (hO : ∀ k, w_.heap.size ≤ k → O k) (hs : Ints w_ sv c.act) (hc : ClOk c) (K : Nat) (hK : K ≤ 4398046511104) (hG : Good K (stT T)) :
    Calls Try.prog 9 #[.pointer (some ⟨tb, 0, none⟩), .agg (opC c sv).toArray] w_ (DoesPost O tb (doesT c (stT T)) w_) := by
  obtain ⟨w1, hw1⟩ : ∃ w1, w1 = w_.alloc (.cells (opC c sv).toArray 30) := ⟨_, rfl⟩
  have hg1 : Grow w_ w1 := by subst hw1; exact (Grow.refl w_).alloc _
  have hx1 : Blk w1 w_.heap.size 30 (opC c sv) := by subst hw1; exact Blk.new w_ _ _
  have hO1 : ∀ k, w1.heap.size ≤ k → O k := fun k hk => hO k (by have := hg1.size; omega)
  have h1 := h.fits hg1
  have hbe := begin_any O tb T c.who c.next c.act sv hw w1 h1 hO1 (Row.fits hs hg1) hc.act (hG.sizeT hK)
  have hta := take_any O tb T c.who c.n hw w1 h1 (hG.sizeT hK) K hG.fit hG.xidT
  have hlo := logged_any O tb T c.who c.n c.flag hw w1 h1 K (by omega) hG.fit
  have hen := end_any O tb T c.who hw w1 h1 hG.lenT
  have hes : (if (atT c.who T).isSome then stT (delR c.who T) else stT T) = (endT c.who (stT T)).1 := by
    unfold endT
    rw [findT_st]
    unfold atT
    cases T.find? fun x => x.1 == c.who with
    | none => rfl
    | some x => simp [st_del]
  have HEs := keep hes
  have HBe := keep hbe
  have HTa := keep hta
  have HLo := keep hlo
  have HEn := keep hen
  have HG1 := keep hg1
  have H1 := keep h1
  clear hbe hta hlo hen hg1 h1 h hO hO1 hs hc hG hes hw hK
  obtain ⟨ask, who, n, flag, next, act⟩ := c
  unfold opC at hx1 hw1 ⊢
  unfold doesT
  dsimp only at hx1 hw1 HBe HTa HLo HEn HEs ⊢
  obtain ⟨x0, x1, x2, x3, x4, x5, _⟩ := six_of hx1
  clear hx1
  by_cases h0 : ask = 0
  · subst h0
    rw [if_pos rfl]
    go_enter Try.func9, Try.ntmps9
    go_upto_region 1 with fail
    rw [← hw1]
    clear hw1
    go_wp2_with (go_at_call 15; refine HBe.out.mono ?_; rintro e w2 ⟨rfl, ht, ho⟩)
    go_end0
    exact ⟨rfl, ht, (Out.of_below HG1.out).trans ho⟩
  · rw [if_neg h0]
    have e0 : (ask == 0) = false := by simpa using h0
    by_cases h1 : ask = 1
    · subst h1
      rw [if_pos rfl]
      clear h0 e0
      go_enter Try.func9, Try.ntmps9
      go_upto_region 1 with fail
      rw [← hw1]
      clear hw1
      go_wp2_with (go_at_call 17; refine HTa.out.mono ?_; rintro e w2 ⟨rfl, ht, ho⟩)
      go_end0
      exact ⟨rfl, ht, (Out.of_below HG1.out).trans ho⟩
    · rw [if_neg h1]
      have e1 : (ask == 1) = false := by simpa using h1
      by_cases h2 : ask = 2
      · subst h2
        rw [if_pos rfl]
        clear h0 e0 h1 e1
        go_enter Try.func9, Try.ntmps9
        go_upto_region 1 with fail
        rw [← hw1]
        clear hw1
        go_wp2_with (go_at_call 19; refine HLo.out.mono ?_; rintro e w2 ⟨rfl, ht, ho⟩)
        go_end0
        exact ⟨rfl, ht, (Out.of_below HG1.out).trans ho⟩
      · rw [if_neg h2]
        have e2 : (ask == 2) = false := by simpa using h2
        by_cases h3 : ask = 3
        · subst h3
          rw [if_pos rfl]
          clear h0 e0 h1 e1 h2 e2
          go_enter Try.func9, Try.ntmps9
          go_upto_region 1 with fail
          rw [← hw1]
          clear hw1
          go_wp2_with (go_at_call 21; refine HEn.out.mono ?_; rintro e w2 ⟨av, rfl, -, ht, ho⟩)
          go_end0
          refine ⟨rfl, ⟨_, ht, ?_⟩, (Out.of_below HG1.out).trans ho⟩
          rw [← HEs.out]
          split <;> rfl
        · rw [if_neg h3]
          have e3 : (ask == 3) = false := by simpa using h3
          clear h0 h1 h2 h3
          go_enter Try.func9, Try.ntmps9
          go_upto_region 1 with fail
          rw [← hw1]
          clear hw1
          go_wp2_with fail
          go_end0
          exact ⟨rfl, ⟨T, H1.out, rfl⟩, Out.of_below HG1.out⟩

def OfS (o : Option Tn) (w : World) (e : Ending) (w' : World) : Prop := ∃ av, e = .returned (.tuple #[tnV (o.getD tnZ) av, .bool o.isSome]) ∧ RowO w' (fun k => w.heap.size ≤ k) av (o.getD tnZ).act ∧ Below w.heap.size w w'
theorem of_call (O : Nat → Prop) (tb : Nat) (T : Tr) (who : Int) (hw : (Lit.int .i64 who).wf = true) (w_ : World) (h : TabT w_ O tb T) (K : Nat) (hG : Good K (stT T)) :
    Calls Try.prog 10 #[.pointer (some ⟨tb, 0, none⟩), .int .i64 who] w_ (OfS (findT who (stT T)) w_) := by
  refine (of_any O tb T who hw w_ h hG.lenT).mono ?_
  intro e w' he
  rw [findT_st]
  unfold OfPost atT at he
  cases hq : T.find? fun x => x.1 == who with
  | none => rw [hq] at he; exact he
  | some x => rw [hq] at he; exact he

theorem len_st (T : Tr) : T.length = (stT T).length := by simp [stT]
def CodePost2 (O : Nat → Prop) (tb : Nat) (S : St) (code : Int) (w : World) (e : Ending) (w' : World) : Prop := e = .returned (.int .i64 code) ∧ (∃ T', TabT w' O tb T' ∧ stT T' = S) ∧ Out O w w'
def tn1 : Tn := ⟨5, [], 5, 0, 0, 0⟩
def tn2 : Tn := ⟨5, [], 5, 40, 40, 1⟩
theorem aw1 : beginT 2 5 [] [] = ([(2, newT 5 [])], 0) := rfl
theorem aw2 : beginT 2 0 [] [(2, newT 5 [])] = ([(2, newT 5 [])], 183) := rfl
theorem aw3 : takeT 2 5 [(2, newT 5 [])] = ([(2, tn1)], 0) := by
  have h : ¬ (5 : Int) ∈ runT [(2, newT 5 [])] := by
    rw [mem_runT]
    rintro ⟨x, hx, h1, _⟩
    rw [List.mem_singleton.1 hx] at h1
    simp [newT] at h1
  unfold takeT
  rw [show findT 2 [(2, newT 5 [])] = some (newT 5 []) from rfl]
  dsimp only
  rw [if_neg (by rintro (h1 | h1 | h1); omega; exact h1 rfl; exact h h1)]
  rfl
theorem aw4 : loggedT 2 40 true [(2, tn1)] = ([(2, tn2)], 0) := by
  unfold loggedT
  rw [show findT 2 [(2, tn1)] = some tn1 from rfl]
  dsimp only
  rw [if_neg (by rintro (h1 | h1) <;> simp [tn1] at h1)]
  rfl
theorem aw5 : oldT [(2, tn2)] = 40 := by decide
theorem aw_good : Good 4 [(2, tn2)] := by
  have h := good_logged (good_take (good_begin (good_begin good_nil 2 5 [] (by decide)) 2 0 [] (by decide)) 2 5 (by decide)) 2 40 true
  rw [aw1, aw2, aw3, aw4] at h
  exact h

set_option maxRecDepth 100000 in
set_option maxHeartbeats 4000000 in
theorem awake_any (w_ : World) : Calls Try.prog 13 #[] w_ fun e w' => e = .returned (.bool true) ∧ Below w_.heap.size w_ w' := by
  have hw2 : (Lit.int .i64 2).wf = true := by decide
  have g1 := good_begin good_nil 2 5 [] (by decide)
  have g2 := good_begin g1 2 0 [] (by decide)
  have g3 := good_take g2 2 5 (by decide)
  have g4 := good_logged g3 2 40 true
  rw [aw1] at g1
  rw [aw1, aw2] at g2
  rw [aw1, aw2, aw3] at g3
  rw [aw1, aw2, aw3, aw4] at g4
  have hb1 := keep (show ∀ tb T w, TabT w (fun k => w_.heap.size ≤ k) tb T → stT T = [] → w_.heap.size ≤ w.heap.size → Calls Try.prog 15 #[.pointer (some ⟨tb, 0, none⟩), .int .i64 2, .agg #[.int .i64 5, .slice none 0 0]] w (CodePost2 (fun k => w_.heap.size ≤ k) tb [(2, newT 5 [])] 0 w) from fun tb T w h hs hz => by
    have := begin_any (fun k => w_.heap.size ≤ k) tb T 2 5 [] (.slice none 0 0) hw2 w h (fun k hk => Nat.le_trans hz hk) (Row.nil _ _ _ _) (by decide) (by rw [len_st, hs]; decide)
    rw [hs, aw1] at this
    exact this)
  have hb2 := keep (show ∀ tb T w, TabT w (fun k => w_.heap.size ≤ k) tb T → stT T = [(2, newT 5 [])] → w_.heap.size ≤ w.heap.size → Calls Try.prog 15 #[.pointer (some ⟨tb, 0, none⟩), .int .i64 2, .agg #[.int .i64 0, .slice none 0 0]] w (CodePost2 (fun k => w_.heap.size ≤ k) tb [(2, newT 5 [])] 183 w) from fun tb T w h hs hz => by
    have := begin_any (fun k => w_.heap.size ≤ k) tb T 2 0 [] (.slice none 0 0) hw2 w h (fun k hk => Nat.le_trans hz hk) (Row.nil _ _ _ _) (by decide) (by rw [len_st, hs]; decide)
    rw [hs, aw2] at this
    exact this)
  have hb3 := keep (show ∀ tb T w, TabT w (fun k => w_.heap.size ≤ k) tb T → stT T = [(2, newT 5 [])] → w_.heap.size ≤ w.heap.size → Calls Try.prog 17 #[.pointer (some ⟨tb, 0, none⟩), .int .i64 2, .int .i64 5] w (CodePost2 (fun k => w_.heap.size ≤ k) tb [(2, tn1)] 0 w) from fun tb T w h hs hz => by
    have := take_any (fun k => w_.heap.size ≤ k) tb T 2 5 hw2 w h (by rw [len_st, hs]; decide) 2 (hs ▸ g2.fit) (Good.xidT (K := 2) (hs ▸ g2))
    rw [hs, aw3] at this
    exact this)
  have hb4 := keep (show ∀ tb T w, TabT w (fun k => w_.heap.size ≤ k) tb T → stT T = [(2, tn1)] → w_.heap.size ≤ w.heap.size → Calls Try.prog 19 #[.pointer (some ⟨tb, 0, none⟩), .int .i64 2, .int .i64 40, .bool true] w (CodePost2 (fun k => w_.heap.size ≤ k) tb [(2, tn2)] 0 w) from fun tb T w h hs hz => by
    have := logged_any (fun k => w_.heap.size ≤ k) tb T 2 40 true hw2 w h 3 (by decide) (hs ▸ g3.fit)
    rw [hs, aw4] at this
    exact this)
  have hb5 := keep (show ∀ tb T w, TabT w (fun k => w_.heap.size ≤ k) tb T → stT T = [(2, tn2)] → w_.heap.size ≤ w.heap.size → Calls Try.prog 10 #[.pointer (some ⟨tb, 0, none⟩), .int .i64 2] w (fun e w' => ∃ av, e = .returned (.tuple #[.agg #[.int .i64 5, av, .int .i64 5, .int .i64 40, .int .i64 40, .int .i64 1], .bool true]) ∧ RowO w' (fun k => w.heap.size ≤ k) av [] ∧ Below w.heap.size w w') from fun tb T w h hs hz => by
    have := of_call (fun k => w_.heap.size ≤ k) tb T 2 hw2 w h 4 (hs ▸ g4)
    rw [hs, show findT 2 [(2, tn2)] = some tn2 from rfl] at this
    exact this)
  have hb6 := keep (show ∀ tb T w, TabT w (fun k => w_.heap.size ≤ k) tb T → stT T = [(2, tn2)] → w_.heap.size ≤ w.heap.size → Calls Try.prog 11 #[.pointer (some ⟨tb, 0, none⟩)] w (fun e w' => e = .returned (.int .i64 40) ∧ Below w.heap.size w w') from fun tb T w h hs hz => by
    have := oldest_any (fun k => w_.heap.size ≤ k) tb T w h (by rw [len_st, hs]; decide)
    rw [hs, aw5] at this
    exact this)
  clear g1 g2 g3 g4 hw2
  go_enter Try.func13, Try.ntmps13
  go_wp2_with fail
  refine (new_any w_).mono ?_
  rintro e w1 ⟨tb, rfl, hT1, hB1⟩
  have HT1 := keep hT1
  have HB1 := keep hB1
  clear hT1 hB1
  go_upto_region 4 with (first
    | (go_at_call_has 15 (Value.agg #[Value.int IntKind.i64 5, Value.slice none 0 0]); refine (hb1.out _ _ w1 HT1.out rfl HB1.out.size).mono ?_; rintro e w2 ⟨rfl, ⟨T2, hT2, hS2⟩, ho2⟩; have HT2 := keep hT2; have HS2 := keep hS2; have HB2 := keep (HB1.out.trans (ho2.below HB1.out.size)); clear hT2 hS2 ho2)
    | (go_at_call_has 15 (Value.agg #[Value.int IntKind.i64 0, Value.slice none 0 0]); refine (hb2.out _ _ w2 HT2.out HS2.out HB2.out.size).mono ?_; rintro e w3 ⟨rfl, ⟨T3, hT3, hS3⟩, ho3⟩; have HT3 := keep hT3; have HS3 := keep hS3; have HB3 := keep (HB2.out.trans (ho3.below HB2.out.size)); clear hT3 hS3 ho3)
    | (go_at_call 17; refine (hb3.out _ _ w3 HT3.out HS3.out HB3.out.size).mono ?_; rintro e w4 ⟨rfl, ⟨T4, hT4, hS4⟩, ho4⟩; have HT4 := keep hT4; have HS4 := keep hS4; have HB4 := keep (HB3.out.trans (ho4.below HB3.out.size)); clear hT4 hS4 ho4)
    | (go_at_call 19; refine (hb4.out _ _ w4 HT4.out HS4.out HB4.out.size).mono ?_; rintro e w5 ⟨rfl, ⟨T5, hT5, hS5⟩, ho5⟩; have HT5 := keep hT5; have HS5 := keep hS5; have HB5 := keep (HB4.out.trans (ho5.below HB4.out.size)); clear hT5 hS5 ho5))
  go_upto_region 5 with (go_at_call 10; refine (hb5.out _ _ w5 HT5.out HS5.out HB5.out.size).mono ?_; rintro e w6 ⟨av, rfl, hrow6, hb6'⟩; obtain ⟨a6, c6, rfl⟩ := row_sl hrow6.1.weak; have HG6 := keep hb6'; clear hrow6 hb6')
  obtain ⟨w7, hw7⟩ : ∃ w7, w7 = w6.alloc (.cells #[.int .i64 5, .slice a6 (List.length ([] : List Int)) c6, .int .i64 5, .int .i64 40, .int .i64 40, .int .i64 1] 32) := ⟨_, rfl⟩
  have hg7 : Grow w6 w7 := by subst hw7; exact (Grow.refl w6).alloc _
  have hx7 : Blk w7 w6.heap.size 32 [.int .i64 5, .slice a6 (List.length ([] : List Int)) c6, .int .i64 5, .int .i64 40, .int .i64 40, .int .i64 1] := by subst hw7; exact Blk.new w6 _ [_, _, _, _, _, _]
  first | rw [← hw7] | (simp only [List.length_nil] at hw7 ⊢; rw [← hw7])
  have HG7 := keep (Grow.trans HG6.out hg7)
  have HB7 := keep (HB5.out.trans (HG7.out.mono HB5.out.size))
  obtain ⟨x0, x1, x2, x3, x4, x5, _⟩ := six_of hx7
  clear hw7 hg7 hx7
  go_wp2_with (go_at_call 11; refine (hb6.out _ _ w7 (HT5.out.fits HG7.out) HS5.out HB7.out.size).mono ?_; rintro e w8 ⟨rfl, hb8⟩)
  go_ret
  exact ⟨rfl, HB7.out.trans (hb8.mono HB7.out.size)⟩

end Go.Proofs.Ytgijmlienolhpaa
