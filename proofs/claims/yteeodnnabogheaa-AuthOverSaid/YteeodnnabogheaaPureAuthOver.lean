import Derived.Test.YteeodnnabogheaaXSAuthOver
import Derived.Test.YteeodnnabogheaaPureAuthChecks
namespace Go.Proofs.Yteeodnnabogheaa.Pure
open Go.RowKit Go.Proofs.Yteeodnnabogheaa.X Go.Proofs.YteeodnnabogheaaY Go.Proofs.YteeodnnabogheaaW.PrintWords Go.Proofs.YteeodnnabogheaaW.PrintLast Go.Proofs.YteeodnnabogheaaW.PrintMore

/-- the table of the lattice is the document's -/
def Tab (L : Lat) (t : List (List Bool)) : Prop := L.names.length ≤ 8 ∧ t.length = L.names.length ∧ ∀ a, a < L.names.length → (t.getD a []).length = L.names.length ∧ ∀ b, b < L.names.length → (t.getD a []).getD b false = L.leq.getD (a * 8 + b) false
def tabB (L : Lat) (t : List (List Bool)) : Bool := decide (L.names.length ≤ 8) && decide (t.length = L.names.length) && (List.range L.names.length).all fun a => decide ((t.getD a []).length = L.names.length) && (List.range L.names.length).all fun b => (t.getD a []).getD b false == L.leq.getD (a * 8 + b) false
theorem tabB_Tab {L : Lat} {t : List (List Bool)} (h : tabB L t = true) : Tab L t := by
  unfold tabB at h
  simp only [Bool.and_eq_true, decide_eq_true_eq, List.all_eq_true, List.mem_range, beq_iff_eq] at h
  exact ⟨h.1.1, h.1.2, fun a ha => ⟨(h.2 a ha).1, fun b hb => (h.2 a ha).2 b hb⟩⟩
def newTab (P : List ByteArray × List S52 × List S36) : Bool := match level_New.f 200 P.1 P.2.1 P.2.2, keyholeref01_Table.f 1500 P.1 P.2.1 P.2.2 with
  | some ([L], e), some t => decide (e = 0) && tabB L t
  | _, _ => false
theorem newTab_some (P : List ByteArray × List S52 × List S36) (h : newTab P = true) : ∃ (L : Lat) (t : List (List Bool)), Ev (fun k => level_New.f k P.1 P.2.1 P.2.2) ([L], 0) ∧ Ev (fun k => keyholeref01_Table.f k P.1 P.2.1 P.2.2) t ∧ Tab L t := by
  unfold newTab at h
  split at h
  · rename_i L e t he ht
    simp only [Bool.and_eq_true, decide_eq_true_eq] at h
    obtain ⟨rfl, hn⟩ := h
    exact ⟨L, t, Ev.of (level_New.mono _ _ _) he, Ev.of (keyholeref01_Table.mono _ _ _) ht, tabB_Tab hn⟩
  · cases h
theorem sortsT (a : Int) : ∃ (P : List ByteArray × List S52 × List S36) (L : Lat) (t : List (List Bool)), keyholeref01_Sort.f a = some P ∧ Ev (fun k => level_New.f k P.1 P.2.1 P.2.2) ([L], 0) ∧ Ev (fun k => keyholeref01_Table.f k P.1 P.2.1 P.2.2) t ∧ Tab L t := by
  have key : ∀ P : List ByteArray × List S52 × List S36, newTab P = true → ∃ (P' : List ByteArray × List S52 × List S36) (L : Lat) (t : List (List Bool)), some P = some P' ∧ Ev (fun k => level_New.f k P'.1 P'.2.1 P'.2.2) ([L], 0) ∧ Ev (fun k => keyholeref01_Table.f k P'.1 P'.2.1 P'.2.2) t ∧ Tab L t := by
    intro P h
    obtain ⟨L, t, h1, h2, h3⟩ := newTab_some P h
    exact ⟨P, L, t, rfl, h1, h2, h3⟩
  unfold keyholeref01_Sort.f
  split
  · exact key _ (by decide +kernel)
  split
  · exact key _ (by decide +kernel)
  split
  · exact key _ (by decide +kernel)
  split
  · exact key _ (by decide +kernel)
  split
  · exact key _ (by decide +kernel)
  · exact key _ (by decide +kernel)

/-! ### who has authority -/
def lq (L : Lat) (a b : Int) : Bool := L.is a && L.is b && tab8 L.leq false a b
theorem leq_f (L : Lat) (h8 : L.names.length ≤ 8) (a b : Int) : level_Lattice_Leq.f [L] a b = some (lq L a b) := by
  simp only [level_Lattice_Leq.f, lq]
  by_cases c : (L.is a && L.is b) = true
  · rw [if_pos c, c]
    simp only [Lat.is, Bool.and_eq_true, decide_eq_true_eq] at c
    rw [if_pos (by omega), if_pos (by omega), Bool.true_and]
  · rw [if_neg c, Bool.eq_false_iff.2 c, Bool.false_and]
def ovr (L : Lat) (l : List S36) (s : ByteArray) (a : Int) : Bool := match fi l s l.length 0 with
  | none => false
  | some q => anyFrom (fun j => lq L a ((l.getD q z36).f1.getD j 0)) (l.getD q z36).f1.length 0
theorem overLoop (L : Lat) (h8 : L.names.length ≤ 8) (a : Int) (o : List Int) (ho : o.length ≤ maxLen) : ∀ m j : Nat, j + m = o.length → Ev (fun k => auth_Over.l0 k [L] a o (o.length : Int) (j : Int)) (anyFrom (fun j => lq L a (o.getD j 0)) m j) := by
  have ho2 : o.length ≤ 9223372036854775807 := ho
  intro m
  induction m with
  | zero => intro i hi; exact ev_now (fun k => by rw [auth_Over.l0, if_neg (by omega)]; rfl)
  | succ m ih =>
    intro i hi
    have h1 := ih (i + 1) (by omega)
    have e : ((i + 1 : Nat) : Int) = wrap64 ((i : Int) + 1) := by rw [IntWalk.wrap64_in _ (by omega)]; rfl
    rw [e] at h1
    have e2 : rd o (i : Int) = o.getD i 0 := rfl
    simp only [anyFrom]
    by_cases c : lq L a (o.getD i 0) = true
    · rw [c, Bool.true_or]
      refine ev_now (fun k => ?_)
      rw [auth_Over.l0, if_pos (by omega), if_pos (by omega), if_pos (by omega), e2, leq_f L h8, Option.bind_some, if_pos c]
    · rw [Bool.eq_false_iff.2 c, Bool.false_or]
      refine Ev.step (fun k => ?_) h1
      rw [auth_Over.l0, if_pos (by omega), if_pos (by omega), if_pos (by omega), e2, leq_f L h8, Option.bind_some, if_neg c]
theorem fi_lt (l : List S36) (s : ByteArray) : ∀ m i q : Nat, fi l s m i = some q → q < i + m := by
  intro m
  induction m with
  | zero => intro i q h; simp [fi] at h
  | succ m ih =>
    intro i q h
    rw [fi] at h
    split at h
    · injection h with h; omega
    · have := ih _ _ h; omega
theorem overProg (L : Lat) (h8 : L.names.length ≤ 8) (l : List S36) (hl : l.length ≤ maxLen) (ho : ∀ y ∈ l, Ok36 y) (s : ByteArray) (a : Int) : Ev (fun k => auth_Over.f k [L] l s a) (ovr L l s a) := by
  unfold auth_Over.f ovr
  refine Ev.bind (findProg l hl s l.length 0 (by omega)) ?_
  cases hf : fi l s l.length 0 with
  | none => exact Ev.congr (fun k => by rw [if_neg (by simp)]) (Ev.now _)
  | some q =>
    have hq := fi_lt _ _ _ _ _ hf
    have ho2 := ok36 (ho _ (getD_mem (z := z36) (show q < l.length by omega)))
    refine Ev.congr (fun k => ?_) (overLoop L h8 a (l.getD q z36).f1 ho2.2 _ 0 (Nat.zero_add _))
    show (if true = true then (if 0 ≤ (q : Int) then (if (q : Int) < (l.length : Int) then _ else none) else none) else some false) = _
    rw [if_pos rfl, if_pos (by omega), if_pos (by omega)]
    rfl

/-! ### the levels over which it has -/
def flt (f : Int → Bool) : Nat → Nat → List Int
  | 0, _ => []
  | m + 1, a => if f a = true then (a : Int) :: flt f m (a + 1) else flt f m (a + 1)
theorem reachLoop (L : Lat) (h8 : L.names.length ≤ 8) (l : List S36) (hl : l.length ≤ maxLen) (ho : ∀ y ∈ l, Ok36 y) (s : ByteArray) : ∀ m a : Nat, a + m = L.names.length → ∀ out : List Int, out.length ≤ a →
    Ev (fun k => auth_Reach.l0 k [L] l s out (L.names.length : Int) (a : Int)) (out ++ flt (ovr L l s) m a) := by
  intro m
  induction m with
  | zero => intro a ha out hout; rw [flt, List.append_nil]; exact ev_now (fun k => by rw [auth_Reach.l0, if_neg (by omega)])
  | succ m ih =>
    intro a ha out hout
    have e : ((a + 1 : Nat) : Int) = wrap64 ((a : Int) + 1) := by rw [IntWalk.wrap64_in _ (by omega)]; rfl
    refine Ev.step (f := fun k => (auth_Over.f k [L] l s a).bind fun t => if t = true then (if out.length < 17592186044416 then auth_Reach.l0 k [L] l s (out ++ [(a : Int)]) (L.names.length : Int) (wrap64 ((a : Int) + 1)) else none) else auth_Reach.l0 k [L] l s out (L.names.length : Int) (wrap64 ((a : Int) + 1))) (fun k => by rw [auth_Reach.l0, if_pos (by omega)]) ?_
    refine Ev.bind (overProg L h8 l hl ho s a) ?_
    rw [flt]
    by_cases c : ovr L l s a = true
    · have h1 := ih (a + 1) (by omega) (out ++ [(a : Int)]) (by rw [List.length_append]; simp; omega)
      rw [e] at h1
      rw [if_pos c, show out ++ (a : Int) :: flt (ovr L l s) m (a + 1) = (out ++ [(a : Int)]) ++ flt (ovr L l s) m (a + 1) by simp]
      exact Ev.congr (fun k => by rw [if_pos c, if_pos (by omega)]) h1
    · have h1 := ih (a + 1) (by omega) out (by omega)
      rw [e] at h1
      rw [if_neg c]
      exact Ev.congr (fun k => by rw [if_neg c]) h1
theorem reachProg (L : Lat) (h8 : L.names.length ≤ 8) (l : List S36) (hl : l.length ≤ maxLen) (ho : ∀ y ∈ l, Ok36 y) (s : ByteArray) : Ev (fun k => auth_Reach.f k [L] l s) (flt (ovr L l s) L.names.length 0) :=
  Ev.congr (f := fun k => auth_Reach.l0 k [L] l s ([] : List Int) (L.names.length : Int) ((0 : Nat) : Int)) (fun k => rfl) (reachLoop L h8 l hl ho s _ 0 (Nat.zero_add _) [] (Nat.le_refl _))

/-! ### the law -/
section
variable {L : Lat} {t : List (List Bool)} {l : List S36} {s : ByteArray} {r : List Int}
theorem lawEnd (hT : Tab L t) (hl : l.length ≤ maxLen) (ho : ∀ y ∈ l, Ok36 y) (kk : Int) (a : Nat) (ha : a = L.names.length) (i : Nat) (hi : i = r.length) : Ev (fun k => keyholelaw02_AuthOver.l0 k l s [L] t kk r (i : Int) (a : Int)) true := by
  have hn : ∀ x : Int, L.is x = false → ovr L l s x = false := by
    intro x hx
    unfold ovr
    split
    · rfl
    · rename_i q _
      have : ∀ m j, anyFrom (fun j => lq L x ((l.getD q z36).f1.getD j 0)) m j = false := by
        intro m
        induction m with
        | zero => intro j; rfl
        | succ m ih => intro j; rw [anyFrom, ih]; simp [lq, hx]
      exact this _ _
  have h1 := overProg L hT.1 l hl ho s (-1)
  have h2 := overProg L hT.1 l hl ho s (t.length : Int)
  rw [hn _ (by simp [Lat.is])] at h1
  rw [hn _ (by rw [hT.2.1]; simp [Lat.is])] at h2
  have := hT.2.1
  refine Ev.step (f := fun k => (auth_Over.f k [L] l s (-1)).bind fun u => if u = true then none else (auth_Over.f k [L] l s (t.length : Int)).bind fun u => if u = true then none else (keyholelaw02_lives.f k).bind fun u => some u) (fun k => by rw [keyholelaw02_AuthOver.l0, if_neg (by omega), if_pos (by omega)]) ?_
  refine Ev.bind h1 ?_
  refine Ev.congr (fun k => by rw [if_neg (by simp)]) (Ev.bind h2 ?_)
  exact Ev.congr (fun k => by rw [if_neg (by simp)]) (Ev.bind lives_true (Ev.now true))
theorem lawTurn (hT : Tab L t) (hl : l.length ≤ maxLen) (ho : ∀ y ∈ l, Ok36 y) (kk : Int) (a : Nat) (ha : a < L.names.length) (i : Nat) (w : Bool) (hw : w = ovr L l s a) (hr : w = true → i < r.length ∧ r.getD i 0 = (a : Int))
    (hi : i ≤ a) (h : Ev (fun k => keyholelaw02_AuthOver.l0 k l s [L] t kk r ((if w = true then i + 1 else i : Nat) : Int) ((a + 1 : Nat) : Int)) true) :
    Ev (fun k => keyholelaw02_AuthOver.j3 k l s [L] t kk r (i : Int) (a : Int) w) true := by
  have h8 := hT.1
  have e : ((a + 1 : Nat) : Int) = wrap64 ((a : Int) + 1) := by rw [IntWalk.wrap64_in _ (by omega)]; rfl
  have e1 : ((i + 1 : Nat) : Int) = wrap64 ((i : Int) + 1) := by rw [IntWalk.wrap64_in _ (by omega)]; rfl
  have h4 : Ev (fun k => keyholelaw02_AuthOver.j4 k l s [L] t kk r (i : Int) (a : Int) w false) true := by
    refine Ev.step (fun k => ?_) h
    rw [keyholelaw02_AuthOver.j4, if_neg (by simp)]
    cases w with
    | true => rw [if_pos rfl, if_pos rfl, e, e1]
    | false => rw [if_neg (by simp), if_neg (by simp), e]
  refine Ev.step (f := fun k => (auth_Over.f k [L] l s a).bind fun u => if (u != w) = true then keyholelaw02_AuthOver.j4 k l s [L] t kk r (i : Int) (a : Int) w true else if w = true then (if (i : Int) ≥ (r.length : Int) then keyholelaw02_AuthOver.j4 k l s [L] t kk r (i : Int) (a : Int) w true else if 0 ≤ (i : Int) then (if (i : Int) < (r.length : Int) then keyholelaw02_AuthOver.j4 k l s [L] t kk r (i : Int) (a : Int) w ((rd r i) != (a : Int)) else none) else none) else keyholelaw02_AuthOver.j4 k l s [L] t kk r (i : Int) (a : Int) w false) (fun k => by rw [keyholelaw02_AuthOver.j3]) ?_
  refine Ev.bind (overProg L h8 l hl ho s a) ?_
  rw [← hw]
  refine Ev.congr (fun k => ?_) h4
  rw [if_neg (by simp)]
  cases w with
  | false => rw [if_neg (by simp)]
  | true =>
    obtain ⟨h5, h6⟩ := hr rfl
    have e3 : rd r (i : Int) = (a : Int) := h6
    rw [if_pos rfl, if_neg (by omega), if_pos (by omega), if_pos (by omega), e3]
    rw [show ((a : Int) != (a : Int)) = false by simp]
theorem lawWant (hT : Tab L t) (q : Nat) (hq : q < l.length) (hl : l.length ≤ maxLen) (hol : (l.getD q z36).f1.length ≤ maxLen) (a : Nat) (ha : a < L.names.length) (i : Nat) : ∀ (m j : Nat), j + m = (l.getD q z36).f1.length → ∀ w : Bool,
    Ev (fun k => keyholelaw02_AuthOver.j3 k l s [L] t (q : Int) r (i : Int) (a : Int) (w || anyFrom (fun j => lq L a ((l.getD q z36).f1.getD j 0)) m j)) true → Ev (fun k => keyholelaw02_AuthOver.l1 k l s [L] t (q : Int) r (i : Int) (a : Int) w (j : Int)) true := by
  have hol2 : (l.getD q z36).f1.length ≤ 9223372036854775807 := hol
  have e2 : (rd_T36 l (q : Int)).f1 = (l.getD q z36).f1 := rfl
  generalize (l.getD q z36).f1 = o at *
  have htl := hT.2.1
  intro m
  induction m with
  | zero =>
    intro j hj w h
    refine Ev.step (fun k => ?_) h
    rw [keyholelaw02_AuthOver.l1, if_pos (by omega), if_pos (by omega), if_pos (by omega), e2, if_neg (by omega)]
    simp [anyFrom]
  | succ m ih =>
    intro j hj w h
    have e : ((j + 1 : Nat) : Int) = wrap64 ((j : Int) + 1) := by rw [IntWalk.wrap64_in _ (by omega)]; rfl
    have e5 : rd o (j : Int) = o.getD j 0 := rfl
    have h1 := ih (j + 1) (by omega) (w || lq L a (o.getD j 0)) (by rw [anyFrom, ← Bool.or_assoc] at h; exact h)
    rw [e] at h1
    refine Ev.step (fun k => ?_) h1
    rw [keyholelaw02_AuthOver.l1, if_pos (by omega), if_pos (by omega), if_pos (by omega), e2, if_pos (by omega), if_pos (by omega), e5]
    cases w with
    | true => rw [if_pos rfl, Bool.true_or]
    | false =>
      rw [if_neg (by simp), Bool.false_or]
      have ha' : L.is (a : Int) = true := by simp only [Lat.is, Bool.and_eq_true, decide_eq_true_eq]; omega
      by_cases c1 : o.getD j 0 ≥ 0
      · rw [if_pos c1]
        by_cases c2 : o.getD j 0 < (t.length : Int)
        · obtain ⟨b, hb⟩ : ∃ b : Nat, o.getD j 0 = (b : Int) := ⟨(o.getD j 0).toNat, by omega⟩
          have hbn : b < L.names.length := by omega
          obtain ⟨h3, h4⟩ := hT.2.2 a ha
          have e6 : rd_L11 t (a : Int) = t.getD a [] := rfl
          rw [if_pos c2, if_pos (by omega), if_pos (by omega), if_pos (by omega), e6, h3, if_pos (by omega)]
          have hb' : L.is (b : Int) = true := by simp only [Lat.is, Bool.and_eq_true, decide_eq_true_eq]; omega
          have : rdOf false (t.getD a []) (o.getD j 0) = lq L (a : Int) (o.getD j 0) := by
            rw [hb]
            unfold lq
            rw [ha', hb']
            show (t.getD a []).getD b false = _
            rw [h4 b hbn]
            rfl
          rw [this]
        · rw [if_neg c2]
          have : lq L (a : Int) (o.getD j 0) = false := by
            unfold lq
            rw [show L.is (o.getD j 0) = false by simp only [Lat.is]; rw [decide_eq_false (show ¬ (o.getD j 0 < (L.names.length : Int)) by omega), Bool.and_false], Bool.and_false, Bool.false_and]
          rw [this]
      · rw [if_neg c1]
        have : lq L (a : Int) (o.getD j 0) = false := by
          unfold lq
          rw [show L.is (o.getD j 0) = false by simp only [Lat.is]; rw [decide_eq_false (show ¬ (0 ≤ o.getD j 0) by omega), Bool.false_and], Bool.and_false, Bool.false_and]
        rw [this]
theorem lawLoop (hT : Tab L t) (hl : l.length ≤ maxLen) (ho : ∀ y ∈ l, Ok36 y) : ∀ (m a : Nat), a + m = L.names.length → ∀ (r1 : List Int), r1.length ≤ a → r = r1 ++ flt (ovr L l s) m a →
    Ev (fun k => keyholelaw02_AuthOver.l0 k l s [L] t (match fi l s l.length 0 with | some j => (j : Int) | none => -1) r (r1.length : Int) (a : Int)) true := by
  intro m
  induction m with
  | zero => intro a ha r1 h1 hr; exact lawEnd hT hl ho _ a (by omega) _ (by rw [hr, flt, List.append_nil])
  | succ m ih =>
    intro a ha r1 h1 hr
    have htl := hT.2.1
    have h8 := hT.1
    have hnext : ∀ kk : Int, kk = (match fi l s l.length 0 with | some j => (j : Int) | none => -1) → Ev (fun k => keyholelaw02_AuthOver.j3 k l s [L] t kk r (r1.length : Int) (a : Int) (ovr L l s a)) true := by
      intro kk hkk
      subst hkk
      refine lawTurn hT hl ho _ a (by omega) r1.length _ rfl ?_ h1 ?_
      · intro c
        rw [hr, flt, if_pos c]
        constructor
        · rw [List.length_append, List.length_cons]; omega
        · simp [List.getD]
      · by_cases c : ovr L l s a = true
        · rw [if_pos c]
          have := ih (a + 1) (by omega) (r1 ++ [(a : Int)]) (by rw [List.length_append]; simp; omega) (by rw [hr, flt, if_pos c]; simp)
          rwa [show (r1 ++ [(a : Int)]).length = r1.length + 1 by simp] at this
        · rw [if_neg c]
          exact ih (a + 1) (by omega) r1 (by omega) (by rw [hr, flt, if_neg c])
    refine Ev.step (f := fun k => keyholelaw02_AuthOver.l1 k l s [L] t (match fi l s l.length 0 with | some j => (j : Int) | none => -1) r (r1.length : Int) (a : Int) false 0) (fun k => by rw [keyholelaw02_AuthOver.l0, if_pos (by omega)]) ?_
    cases hf : fi l s l.length 0 with
    | none =>
      have h5 := hnext (-1) (by rw [hf])
      rw [show ovr L l s a = false by unfold ovr; rw [hf]] at h5
      refine Ev.step (fun k => ?_) h5
      show keyholelaw02_AuthOver.l1 (k + 1) l s [L] t (-1) r (r1.length : Int) (a : Int) false 0 = _
      rw [keyholelaw02_AuthOver.l1, if_neg (by omega)]
    | some q =>
      have hq := fi_lt _ _ _ _ _ hf
      have ho2 := ok36 (ho _ (getD_mem (z := z36) (show q < l.length by omega)))
      have h5 := hnext (q : Int) (by rw [hf])
      rw [show ovr L l s a = anyFrom (fun j => lq L a ((l.getD q z36).f1.getD j 0)) (l.getD q z36).f1.length 0 by unfold ovr; rw [hf]] at h5
      exact lawWant hT q (by omega) hl ho2.2 a (by omega) r1.length _ 0 (Nat.zero_add _) false (by rw [Bool.false_or]; exact h5)
end
theorem AuthOver : keyholelaw02_AuthOver.Pure := by
  intro a l s ha ⟨hl, _, ho⟩ hs
  apply Ev.rounds
  obtain ⟨b, hb⟩ := light_some l hl
  obtain ⟨P, L, t, hP, hL, ht, hT⟩ := sortsT a
  unfold keyholelaw02_AuthOver.f
  refine Ev.bind hb ?_
  cases b with
  | false => exact Ev.congr (fun k => by rw [if_neg (by simp)]) (Ev.bind lives_true (Ev.now true))
  | true =>
    have hj : ∀ kk : Int, kk = (match fi l s l.length 0 with | some j => (j : Int) | none => -1) → Ev (fun k => keyholelaw02_AuthOver.j0 k l s [L] t kk false) true := by
      intro kk hkk
      subst hkk
      refine Ev.step (f := fun k => (auth_Reach.f k [L] l s).bind fun r => keyholelaw02_AuthOver.l0 k l s [L] t (match fi l s l.length 0 with | some j => (j : Int) | none => -1) r 0 0) (fun k => by rw [keyholelaw02_AuthOver.j0, if_neg (by simp)]) ?_
      refine Ev.bind (reachProg L hT.1 l hl ho s) ?_
      exact lawLoop hT hl ho L.names.length 0 (Nat.zero_add _) [] (Nat.le_refl _) rfl
    refine Ev.congr (f := fun k => (level_New.f k P.1 P.2.1 P.2.2).bind fun bt => (keyholeref01_Table.f k P.1 P.2.1 P.2.2).bind fun t => (keyholelaw02_find.f k l s).bind fun u => (auth_Find.f k l s).bind fun v => (if (v.2 != (decide (u ≥ 0))) = true then (keyholelaw02_AuthOver.j0 k l s bt.1 t u true) else (if v.2 = true then (if v.1 = u then (keyholelaw02_AuthOver.j0 k l s bt.1 t u false) else (keyholelaw02_AuthOver.j0 k l s bt.1 t u true)) else (keyholelaw02_AuthOver.j0 k l s bt.1 t u (v.1 != 0))))) (fun k => by rw [if_pos rfl, hP]; rfl) ?_
    refine Ev.bind hL ?_
    refine Ev.bind ht ?_
    refine Ev.bind (findLaw l hl s l.length 0 (by omega)) ?_
    refine Ev.bind (findProg l hl s l.length 0 (by omega)) ?_
    cases hf : fi l s l.length 0 with
    | none =>
      refine Ev.congr (fun k => ?_) (hj (-1) (by rw [hf]))
      rfl
    | some q =>
      refine Ev.congr (fun k => ?_) (hj (q : Int) (by rw [hf]))
      show (if (true != (decide ((q : Int) ≥ 0))) = true then _ else (if true = true then (if (q : Int) = (q : Int) then _ else _) else _)) = _
      rw [if_neg (by rw [decide_eq_true (show (q : Int) ≥ 0 by omega)]; simp), if_pos rfl, if_pos rfl]
end Go.Proofs.Yteeodnnabogheaa.Pure
