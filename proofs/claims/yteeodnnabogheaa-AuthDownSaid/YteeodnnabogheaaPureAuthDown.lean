import Derived.Test.YteeodnnabogheaaXSAuthDown
import Derived.Test.YteeodnnabogheaaPAuth
namespace Go.Proofs.Yteeodnnabogheaa.Pure
open Go.RowKit Go.Proofs.Yteeodnnabogheaa.X Go.Proofs.YteeodnnabogheaaY Go.Proofs.YteeodnnabogheaaW.PrintWords Go.Proofs.YteeodnnabogheaaW.PrintLast Go.Proofs.YteeodnnabogheaaW.PrintMore

section
variable {L : Lat} {l : List S36} {s : ByteArray}
theorem downOne (hO : Ord L) (hl : l.length ≤ maxLen) (ho : ∀ y ∈ l, Ok36 y) (a : Nat) (ha : a < L.names.length) (h : Ev (fun k => keyholelaw02_AuthDown.l0 k l s [L] ((a + 1 : Nat) : Int)) true) : ∀ m b : Nat, b + m = L.names.length → Ev (fun k => keyholelaw02_AuthDown.l1 k l s [L] (a : Int) (b : Int)) true := by
  have h8 := hO.1
  intro m
  induction m with
  | zero =>
    intro b hb
    · have e : ((a + 1 : Nat) : Int) = wrap64 ((a : Int) + 1) := by rw [IntWalk.wrap64_in _ (by omega)]; rfl
      rw [e] at h
      refine Ev.step (fun k => ?_) h
      rw [keyholelaw02_AuthDown.l1]
      simp only [level_Lattice_Size.f, Option.bind_some]
      rw [if_neg (by omega)]
  | succ m ih =>
    intro b hb
    have h1 := ih (b + 1) (by omega)
    have e : ((b + 1 : Nat) : Int) = wrap64 ((b : Int) + 1) := by rw [IntWalk.wrap64_in _ (by omega)]; rfl
    rw [e] at h1
    refine Ev.step (f := fun k => if lq L a b = true then ((auth_Over.f k [L] l s (b : Int)).bind fun t => if t = true then ((auth_Over.f k [L] l s (a : Int)).bind fun u => if u = true then keyholelaw02_AuthDown.l1 k l s [L] (a : Int) (wrap64 ((b : Int) + 1)) else none) else keyholelaw02_AuthDown.l1 k l s [L] (a : Int) (wrap64 ((b : Int) + 1))) else keyholelaw02_AuthDown.l1 k l s [L] (a : Int) (wrap64 ((b : Int) + 1))) (fun k => ?_) ?_
    · rw [keyholelaw02_AuthDown.l1]
      simp only [level_Lattice_Size.f, Option.bind_some]
      rw [if_pos (by omega), leq_f L h8, Option.bind_some]
    · by_cases c : lq L a b = true
      · refine Ev.congr (fun k => by rw [if_pos c]) (Ev.bind (overProg L h8 l hl ho s (b : Int)) ?_)
        by_cases c2 : ovr L l s (b : Int) = true
        · refine Ev.congr (fun k => by rw [if_pos c2]) (Ev.bind (overProg L h8 l hl ho s (a : Int)) ?_)
          rw [ovr_down hO c c2]
          exact Ev.congr (fun k => by rw [if_pos rfl]) h1
        · exact Ev.congr (fun k => by rw [if_neg c2]) h1
      · exact Ev.congr (fun k => by rw [if_neg c]) h1
theorem downOwn (hO : Ord L) (hl : l.length ≤ maxLen) (ho : ∀ y ∈ l, Ok36 y) (q : Nat) (hq : fi l s l.length 0 = some q) : ∀ m j : Nat, j + m = (l.getD q z36).f1.length → Ev (fun k => keyholelaw02_AuthDown.l2 k l s [L] (q : Int) true (j : Int)) true := by
  have h8 := hO.1
  have hql := fi_lt _ _ _ _ _ hq
  have ho2 := ok36 (ho _ (getD_mem (z := z36) (show q < l.length by omega)))
  have hol2 : (l.getD q z36).f1.length ≤ 9223372036854775807 := ho2.2
  have e2 : (rd_T36 l (q : Int)).f1 = (l.getD q z36).f1 := rfl
  intro m
  induction m with
  | zero =>
    intro j hj
    refine Ev.step (f := fun k => keyholelaw02_AuthDown.j4 k l s [L] (q : Int) true (j : Int) false) (fun k => ?_) ?_
    · rw [keyholelaw02_AuthDown.l2, if_pos rfl, if_pos (by omega), if_pos (by omega), e2, decide_eq_false (by omega)]
    · refine Ev.step (f := fun k => (keyholelaw02_lives.f k).bind fun t => some t) (fun k => by rw [keyholelaw02_AuthDown.j4, if_neg (by simp)]) (Ev.bind lives_true (Ev.now true))
  | succ m ih =>
    intro j hj
    have h1 := ih (j + 1) (by omega)
    have e : ((j + 1 : Nat) : Int) = wrap64 ((j : Int) + 1) := by rw [IntWalk.wrap64_in _ (by omega)]; rfl
    rw [e] at h1
    have e5 : rd (l.getD q z36).f1 (j : Int) = (l.getD q z36).f1.getD j 0 := rfl
    refine Ev.step (f := fun k => keyholelaw02_AuthDown.j4 k l s [L] (q : Int) true (j : Int) true) (fun k => ?_) ?_
    · rw [keyholelaw02_AuthDown.l2, if_pos rfl, if_pos (by omega), if_pos (by omega), e2, decide_eq_true (by omega)]
    · refine Ev.step (f := fun k => if L.is ((l.getD q z36).f1.getD j 0) = true then ((auth_Over.f k [L] l s ((l.getD q z36).f1.getD j 0)).bind fun t => if t = true then keyholelaw02_AuthDown.l2 k l s [L] (q : Int) true (wrap64 ((j : Int) + 1)) else none) else keyholelaw02_AuthDown.l2 k l s [L] (q : Int) true (wrap64 ((j : Int) + 1))) (fun k => ?_) ?_
      · rw [keyholelaw02_AuthDown.j4, if_pos rfl, if_pos (by omega), if_pos (by omega), if_pos (by omega), e2, if_pos (by omega), e5]
        simp only [level_Lattice_Is.f, Option.bind_some]
      · by_cases c : L.is ((l.getD q z36).f1.getD j 0) = true
        · refine Ev.congr (fun k => by rw [if_pos c]) (Ev.bind (overProg L h8 l hl ho s _) ?_)
          have : ovr L l s ((l.getD q z36).f1.getD j 0) = true := by
            unfold ovr
            rw [hq]
            exact any_at (f := fun j' => lq L ((l.getD q z36).f1.getD j 0) ((l.getD q z36).f1.getD j' 0)) (j := j) (lq_refl hO c) _ _ (Nat.zero_le _) (by omega)
          rw [this]
          exact Ev.congr (fun k => by rw [if_pos rfl]) h1
        · exact Ev.congr (fun k => by rw [if_neg c]) h1
theorem downAll (hO : Ord L) (hl : l.length ≤ maxLen) (ho : ∀ y ∈ l, Ok36 y) : ∀ m a : Nat, a + m = L.names.length → Ev (fun k => keyholelaw02_AuthDown.l0 k l s [L] (a : Int)) true := by
  have h8 := hO.1
  intro m
  induction m with
  | zero =>
    intro a ha
    refine Ev.step (f := fun k => (auth_Find.f k l s).bind fun b => keyholelaw02_AuthDown.l2 k l s [L] b.1 b.2 0) (fun k => ?_) ?_
    · rw [keyholelaw02_AuthDown.l0]
      simp only [level_Lattice_Size.f, Option.bind_some]
      rw [if_neg (by omega)]
    · refine Ev.bind (findProg l hl s l.length 0 (by omega)) ?_
      cases hf : fi l s l.length 0 with
      | none =>
        refine Ev.step (f := fun k => keyholelaw02_AuthDown.j4 k l s [L] 0 false 0 false) (fun k => ?_) ?_
        · show keyholelaw02_AuthDown.l2 (k + 1) l s [L] 0 false 0 = _
          rw [keyholelaw02_AuthDown.l2, if_neg (by simp)]
        · exact Ev.step (f := fun k => (keyholelaw02_lives.f k).bind fun t => some t) (fun k => by rw [keyholelaw02_AuthDown.j4, if_neg (by simp)]) (Ev.bind lives_true (Ev.now true))
      | some q => exact downOwn hO hl ho q hf _ 0 (Nat.zero_add _)
  | succ m ih =>
    intro a ha
    refine Ev.step (fun k => ?_) (downOne hO hl ho a (by omega) (ih (a + 1) (by omega)) L.names.length 0 (Nat.zero_add _))
    rw [keyholelaw02_AuthDown.l0]
    simp only [level_Lattice_Size.f, Option.bind_some]
    rw [if_pos (by omega)]
    rfl
end
theorem AuthDown : keyholelaw02_AuthDown.Pure := by
  intro a l s ha ⟨hl, _, ho⟩ hs
  apply Ev.rounds
  obtain ⟨b, hb⟩ := light_some l hl
  obtain ⟨P, L, hP, hL, hO⟩ := sortsO a
  refine Ev.congr (f := fun k => (level_New.f k P.1 P.2.1 P.2.2).bind fun bt => (keyholelaw02_light.f k l).bind fun t => (if t = true then (if bt.2 = 0 then (if 0 < (bt.1.length : Int) then (keyholelaw02_AuthDown.j0 k l s bt.1 bt.2 false) else none) else (keyholelaw02_AuthDown.j0 k l s bt.1 bt.2 true)) else (keyholelaw02_AuthDown.j0 k l s bt.1 bt.2 true))) (fun k => by rw [keyholelaw02_AuthDown.f, hP]; rfl) ?_
  refine Ev.bind hL ?_
  refine Ev.bind hb ?_
  cases b with
  | false =>
    refine Ev.congr (f := fun k => keyholelaw02_AuthDown.j0 k l s [L] 0 true) (fun k => by rw [if_neg (by simp)]) ?_
    exact Ev.step (f := fun k => (keyholelaw02_lives.f k).bind fun t => some t) (fun k => by rw [keyholelaw02_AuthDown.j0, if_pos rfl, if_pos rfl]) (Ev.bind lives_true (Ev.now true))
  | true =>
    refine Ev.congr (f := fun k => keyholelaw02_AuthDown.j0 k l s [L] 0 false) (fun k => by rw [if_pos rfl, if_pos rfl, if_pos (by simp)]) ?_
    exact Ev.step (fun k => by rw [keyholelaw02_AuthDown.j0, if_neg (by simp)]; rfl) (downAll hO hl ho L.names.length 0 (Nat.zero_add _))
end Go.Proofs.Yteeodnnabogheaa.Pure
