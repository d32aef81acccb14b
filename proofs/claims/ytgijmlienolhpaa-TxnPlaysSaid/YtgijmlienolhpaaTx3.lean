
/- Which transactions are open, in plain words: a list by sessions; its calls; what stays true of it. No program is named. -/
import Derived.Test.YtgijmlienolhpaaTx1
namespace Go.Proofs.Ytgijmlienolhpaa

/-- What is known of an open transaction. -/
structure Tn where
  next : Int
  act : List Int
  xid : Int
  first : Int
  last : Int
  undoes : Int

abbrev St := List (Int × Tn)
def findT (who : Int) (S : St) : Option Tn := (S.find? fun x => x.1 == who).map (·.2)
def insT (who : Int) (t : Tn) : St → St
  | [] => [(who, t)]
  | x :: r => if who < x.1 then (who, t) :: x :: r else x :: insT who t r
def delT (who : Int) (S : St) : St := S.filter fun x => x.1 != who
def setT (who : Int) (t : Tn) (S : St) : St := S.map fun x => if x.1 = who then (who, t) else x
def begs (S : St) : List (Int × Int) := S.filterMap fun x => if x.2.xid = 0 then none else some (x.2.xid, x.2.last)
def begunT (S : St) : List (Int × Int) := (begs S).mergeSort fun a b => decide (a.1 ≤ b.1)
def runT (S : St) : List Int := (begunT S).map (·.1)
def oldT (S : St) : Int := S.foldl (fun n x => if x.2.first ≠ 0 ∧ (n = 0 ∨ x.2.first < n) then x.2.first else n) 0

def newT (next : Int) (act : List Int) : Tn := ⟨next, act, 0, 0, 0, 0⟩
def beginT (who next : Int) (act : List Int) (S : St) : St × Int := if (findT who S).isSome then (S, 183) else (insT who (newT next act) S, 0)
def takeT (who xid : Int) (S : St) : St × Int :=
  match findT who S with
  | none => (S, 182)
  | some t => if xid < 1 ∨ t.xid ≠ 0 ∨ xid ∈ runT S then (S, 1) else (setT who { t with xid := xid } S, 0)
def logT (t : Tn) (lsn : Int) (un : Bool) : Tn := { t with last := lsn, first := if t.first = 0 then lsn else t.first, undoes := if un then t.undoes + 1 else t.undoes }
def loggedT (who lsn : Int) (un : Bool) (S : St) : St × Int :=
  match findT who S with
  | none => (S, 182)
  | some t => if t.xid = 0 ∨ lsn ≤ t.last then (S, 1) else (setT who (logT t lsn un) S, 0)
def endT (who : Int) (S : St) : St × Int := if (findT who S).isSome then (delT who S, 0) else (S, 182)

/-- A call of the law's. -/
structure Cl where
  ask : Int
  who : Int
  n : Int
  flag : Bool
  next : Int
  act : List Int
def doesT (c : Cl) (S : St) : St :=
  if c.ask = 0 then (beginT c.who c.next c.act S).1 else if c.ask = 1 then (takeT c.who c.n S).1 else if c.ask = 2 then (loggedT c.who c.n c.flag S).1 else if c.ask = 3 then (endT c.who S).1 else S

theorem findT_mem {who : Int} {S : St} {t : Tn} (h : findT who S = some t) : (who, t) ∈ S := by
  unfold findT at h
  obtain ⟨x, h1, rfl⟩ := Option.map_eq_some_iff.1 h
  have h2 := List.mem_of_find?_eq_some h1
  have h3 := List.find?_some h1
  have : x.1 = who := by simpa using h3
  rw [← this]; exact h2
theorem findT_none {who : Int} {S : St} (h : findT who S = none) : ∀ x ∈ S, x.1 ≠ who := by
  unfold findT at h
  rw [Option.map_eq_none_iff, List.find?_eq_none] at h
  intro x hx
  simpa using h x hx

theorem mem_insT {who : Int} {t : Tn} {S : St} {x : Int × Tn} : x ∈ insT who t S ↔ x = (who, t) ∨ x ∈ S := by
  induction S with
  | nil => simp [insT]
  | cons y r ih =>
    rw [insT]
    split
    · simp
    · simp only [List.mem_cons, ih]
      constructor
      · rintro (h | h | h)
        · exact .inr (.inl h)
        · exact .inl h
        · exact .inr (.inr h)
      · rintro (h | h | h)
        · exact .inr (.inl h)
        · exact .inl h
        · exact .inr (.inr h)
theorem insT_perm (who : Int) (t : Tn) (S : St) : (insT who t S).Perm ((who, t) :: S) := by
  induction S with
  | nil => exact List.Perm.refl _
  | cons y r ih =>
    rw [insT]
    split
    · exact List.Perm.refl _
    · exact (List.Perm.cons y ih).trans (List.Perm.swap _ _ _)
theorem insT_up {who : Int} {t : Tn} {S : St} (h : S.Pairwise fun a b => a.1 < b.1) (hn : ∀ x ∈ S, x.1 ≠ who) : (insT who t S).Pairwise fun a b => a.1 < b.1 := by
  induction S with
  | nil => simp [insT]
  | cons y r ih =>
    rw [List.pairwise_cons] at h
    rw [insT]
    split
    · rename_i hlt
      rw [List.pairwise_cons, List.pairwise_cons]
      refine ⟨?_, h⟩
      intro x hx
      rcases List.mem_cons.1 hx with rfl | hx
      · exact hlt
      · have := h.1 x hx; dsimp only; omega
    · rename_i hlt
      have hy := hn y (List.mem_cons_self ..)
      rw [List.pairwise_cons]
      refine ⟨?_, ih h.2 (fun x hx => hn x (List.mem_cons_of_mem _ hx))⟩
      intro x hx
      rcases mem_insT.1 hx with rfl | hx
      · dsimp only; omega
      · exact h.1 x hx

/-- What stays true, K calls or fewer having come. -/
structure Fit (K : Nat) (S : St) : Prop where
  up : S.Pairwise fun a b => a.1 < b.1
  pos : ∀ x ∈ S, 0 ≤ x.2.xid ∧ 0 ≤ x.2.first ∧ x.2.first ≤ x.2.last ∧ (x.2.first = 0 ↔ x.2.last = 0) ∧ 0 ≤ x.2.undoes ∧ x.2.undoes ≤ K
  ids : S.Pairwise fun a b => a.2.xid = b.2.xid → a.2.xid = 0

theorem fit_nil : Fit 0 [] := ⟨List.Pairwise.nil, by simp, List.Pairwise.nil⟩
theorem Fit.mono {K K' : Nat} {S : St} (h : Fit K S) (hk : K ≤ K') : Fit K' S :=
  ⟨h.up, fun x hx => by obtain ⟨a, b, c, d, e, f⟩ := h.pos x hx; exact ⟨a, b, c, d, e, by omega⟩, h.ids⟩
theorem mem_begs {S : St} {b : Int × Int} : b ∈ begs S ↔ ∃ x ∈ S, x.2.xid ≠ 0 ∧ b = (x.2.xid, x.2.last) := by
  unfold begs
  rw [List.mem_filterMap]
  constructor
  · rintro ⟨x, hx, h⟩
    split at h
    · cases h
    · rename_i h0
      exact ⟨x, hx, h0, (Option.some.inj h).symm⟩
  · rintro ⟨x, hx, h0, rfl⟩
    exact ⟨x, hx, by rw [if_neg h0]⟩
theorem begunT_perm (S : St) : (begunT S).Perm (begs S) := List.mergeSort_perm _ _
theorem begs_apart {S : St} (h : S.Pairwise fun a b => a.2.xid = b.2.xid → a.2.xid = 0) : (begs S).Pairwise fun a b => a.1 ≠ b.1 := by
  unfold begs
  rw [List.pairwise_filterMap]
  refine h.imp ?_
  intro a b hab x hx y hy
  split at hx
  · cases hx
  · rename_i ha
    split at hy
    · cases hy
    · cases hx
      cases hy
      exact fun e => ha (hab e)
theorem begunT_up {K : Nat} {S : St} (h : Fit K S) : (begunT S).Pairwise fun a b => a.1 < b.1 := by
  have h1 : (begunT S).Pairwise fun a b => decide (a.1 ≤ b.1) = true := List.pairwise_mergeSort (fun a b c h1 h2 => by simp at *; omega) (fun a b => by simp; omega) _
  have h2 : (begunT S).Pairwise fun a b => a.1 ≠ b.1 := ((begunT_perm S).symm.pairwise_iff (fun h => Ne.symm h)).1 (begs_apart h.ids)
  exact (h1.and h2).imp (fun ⟨a, b⟩ => by simp at a; omega)
theorem mem_runT {S : St} {n : Int} : n ∈ runT S ↔ ∃ x ∈ S, x.2.xid = n ∧ n ≠ 0 := by
  unfold runT
  rw [List.mem_map]
  constructor
  · rintro ⟨b, hb, rfl⟩
    obtain ⟨x, hx, h0, rfl⟩ := mem_begs.1 ((begunT_perm S).mem_iff.1 hb)
    exact ⟨x, hx, rfl, h0⟩
  · rintro ⟨x, hx, rfl, h0⟩
    exact ⟨(x.2.xid, x.2.last), (begunT_perm S).mem_iff.2 (mem_begs.2 ⟨x, hx, h0, rfl⟩), rfl⟩

theorem mem_setT {who : Int} {t : Tn} {S : St} {x : Int × Tn} (h : x ∈ setT who t S) : x = (who, t) ∨ (x ∈ S ∧ x.1 ≠ who) := by
  unfold setT at h
  obtain ⟨y, hy, rfl⟩ := List.mem_map.1 h
  by_cases he : y.1 = who
  · rw [if_pos he]; exact .inl rfl
  · rw [if_neg he]; exact .inr ⟨hy, he⟩
theorem setT_up {who : Int} {t : Tn} {S : St} (h : S.Pairwise fun a b => a.1 < b.1) : (setT who t S).Pairwise fun a b => a.1 < b.1 := by
  unfold setT
  rw [List.pairwise_map]
  refine h.imp ?_
  intro a b hab
  have e : ∀ x : Int × Tn, (if x.1 = who then (who, t) else x).1 = x.1 := by
    intro x; by_cases hx : x.1 = who
    · rw [if_pos hx]; exact hx.symm
    · rw [if_neg hx]
  rw [e, e]; exact hab
theorem setT_ids {who : Int} {t : Tn} {S : St} (hup : S.Pairwise fun a b => a.1 < b.1) (h : S.Pairwise fun a b => a.2.xid = b.2.xid → a.2.xid = 0) (hn : ∀ x ∈ S, x.1 ≠ who → x.2.xid = t.xid → t.xid = 0) :
    (setT who t S).Pairwise fun a b => a.2.xid = b.2.xid → a.2.xid = 0 := by
  unfold setT
  rw [List.pairwise_map]
  refine (hup.and h).imp_of_mem ?_
  intro a b ha hb ⟨hlt, hab⟩
  by_cases h1 : a.1 = who
  · have h2 : b.1 ≠ who := by omega
    rw [if_pos h1, if_neg h2]
    intro e
    exact hn b hb h2 e.symm
  · rw [if_neg h1]
    by_cases h2 : b.1 = who
    · rw [if_pos h2]
      intro e
      have := hn a ha h1 e
      dsimp only at e
      omega
    · rw [if_neg h2]; exact hab

theorem ids_symm {a b : Int × Tn} (h : a.2.xid = b.2.xid → a.2.xid = 0) : b.2.xid = a.2.xid → b.2.xid = 0 := fun e => by rw [e]; exact h e.symm
theorem pair_of {α : Type} {R : α → α → Prop} {l : List α} (h : l.Pairwise R) (hs : ∀ {a b}, R a b → R b a) {a b : α} (ha : a ∈ l) (hb : b ∈ l) (hne : a ≠ b) : R a b := by
  induction l with
  | nil => cases ha
  | cons x r ih =>
    rw [List.pairwise_cons] at h
    rcases List.mem_cons.1 ha with e1 | ha2
    · rcases List.mem_cons.1 hb with e2 | hb2
      · exact absurd (e1.trans e2.symm) hne
      · rw [e1]; exact h.1 b hb2
    · rcases List.mem_cons.1 hb with e2 | hb2
      · rw [e2]; exact hs (h.1 a ha2)
      · exact ih h.2 ha2 hb2
theorem begin_fit {K : Nat} {S : St} (h : Fit K S) (who next : Int) (act : List Int) : Fit (K + 1) (beginT who next act S).1 := by
  unfold beginT
  split
  · exact h.mono (by omega)
  · rename_i hf
    have hn : findT who S = none := by simpa using hf
    have hno := findT_none hn
    refine ⟨insT_up h.up hno, ?_, ?_⟩
    · intro x hx
      rcases mem_insT.1 hx with rfl | hx
      · simp [newT]; omega
      · obtain ⟨a, b, c, d, e, f⟩ := h.pos x hx; exact ⟨a, b, c, d, e, by omega⟩
    · refine ((insT_perm who (newT next act) S).pairwise_iff ids_symm).2 ?_
      rw [List.pairwise_cons]
      exact ⟨fun x _ _ => rfl, h.ids⟩
theorem take_fit {K : Nat} {S : St} (h : Fit K S) (who n : Int) : Fit (K + 1) (takeT who n S).1 := by
  unfold takeT
  split
  · exact h.mono (by omega)
  · rename_i t ht
    have hm := findT_mem ht
    split
    · exact h.mono (by omega)
    · rename_i hc
      have hn1 : ¬ n < 1 := fun e => hc (.inl e)
      have hx0 : t.xid = 0 := Decidable.byContradiction fun e => hc (.inr (.inl e))
      have hnr : ¬ n ∈ runT S := fun e => hc (.inr (.inr e))
      refine ⟨setT_up h.up, ?_, setT_ids h.up h.ids ?_⟩
      · intro x hx
        rcases mem_setT hx with rfl | ⟨hx, _⟩
        · obtain ⟨a, b, c, d, e, f⟩ := h.pos _ hm
          exact ⟨by dsimp only; omega, b, c, d, e, by dsimp only at f ⊢; omega⟩
        · obtain ⟨a, b, c, d, e, f⟩ := h.pos x hx; exact ⟨a, b, c, d, e, by omega⟩
      · intro x hx _ e
        dsimp only at e ⊢
        exact absurd (mem_runT.2 ⟨x, hx, e, by omega⟩) hnr
theorem logged_fit {K : Nat} {S : St} (h : Fit K S) (who n : Int) (un : Bool) : Fit (K + 1) (loggedT who n un S).1 := by
  unfold loggedT
  split
  · exact h.mono (by omega)
  · rename_i t ht
    have hm := findT_mem ht
    split
    · exact h.mono (by omega)
    · rename_i hc
      have hx0 : t.xid ≠ 0 := fun e => hc (.inl e)
      have hn : t.last < n := by
        rcases Int.lt_or_le t.last n with e | e
        · exact e
        · exact absurd (.inr e) hc
      refine ⟨setT_up h.up, ?_, setT_ids h.up h.ids ?_⟩
      · intro x hx
        rcases mem_setT hx with rfl | ⟨hx, _⟩
        · obtain ⟨a, b, c, d, e, f⟩ := h.pos _ hm
          dsimp only at a b c d e f
          unfold logT
          dsimp only
          refine ⟨a, ?_, ?_, ?_, ?_, ?_⟩
          · split <;> omega
          · split <;> omega
          · split <;> omega
          · split <;> omega
          · split <;> omega
        · obtain ⟨a, b, c, d, e, f⟩ := h.pos x hx; exact ⟨a, b, c, d, e, by omega⟩
      · intro x hx hw e
        have e' : x.2.xid = t.xid := e
        rcases Decidable.em (x.2.xid = 0) with h0 | h0
        · exact e ▸ h0
        · have hne : x ≠ (who, t) := fun e => hw (by rw [e])
          have := pair_of h.ids ids_symm hx hm hne e'
          exact absurd this h0
theorem end_fit {K : Nat} {S : St} (h : Fit K S) (who : Int) : Fit (K + 1) (endT who S).1 := by
  unfold endT
  split
  · exact ⟨h.up.filter _, fun x hx => by obtain ⟨a, b, c, d, e, f⟩ := h.pos x (List.mem_filter.1 hx).1; exact ⟨a, b, c, d, e, by omega⟩, h.ids.filter _⟩
  · exact h.mono (by omega)
theorem does_fit {K : Nat} {S : St} (h : Fit K S) (c : Cl) : Fit (K + 1) (doesT c S) := by
  unfold doesT
  split
  · exact begin_fit h _ _ _
  · split
    · exact take_fit h _ _
    · split
      · exact logged_fit h _ _ _
      · split
        · exact end_fit h _
        · exact h.mono (by omega)

end Go.Proofs.Ytgijmlienolhpaa
