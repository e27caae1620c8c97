import Derived.Test.YteeodnnabogheaaXSAuthTogether
import Derived.Test.YteeodnnabogheaaPAuth
namespace Go.Proofs.Yteeodnnabogheaa.Pure
open Go.RowKit Go.Proofs.Yteeodnnabogheaa.X Go.Proofs.YteeodnnabogheaaY Go.Proofs.YteeodnnabogheaaW.PrintWords Go.Proofs.YteeodnnabogheaaW.PrintLast Go.Proofs.YteeodnnabogheaaW.PrintMore

def four (x y : Int) : List S36 := [(⟨(⟨#[97]⟩ : ByteArray), (([x] : List Int))⟩ : S36), (⟨(⟨#[98]⟩ : ByteArray), (([y] : List Int))⟩ : S36), (⟨(⟨#[99]⟩ : ByteArray), (([mn x y, mx x y] : List Int))⟩ : S36), (⟨(⟨#[100]⟩ : ByteArray), ([] : List Int)⟩ : S36)]
theorem ne_ab : ¬ (⟨#[97]⟩ : ByteArray).toList = (⟨#[98]⟩ : ByteArray).toList := by decide +kernel
theorem ne_ac : ¬ (⟨#[97]⟩ : ByteArray).toList = (⟨#[99]⟩ : ByteArray).toList := by decide +kernel
theorem ne_bc : ¬ (⟨#[98]⟩ : ByteArray).toList = (⟨#[99]⟩ : ByteArray).toList := by decide +kernel
theorem ne_ad : ¬ (⟨#[97]⟩ : ByteArray).toList = (⟨#[100]⟩ : ByteArray).toList := by decide +kernel
theorem ne_bd : ¬ (⟨#[98]⟩ : ByteArray).toList = (⟨#[100]⟩ : ByteArray).toList := by decide +kernel
theorem ne_cd : ¬ (⟨#[99]⟩ : ByteArray).toList = (⟨#[100]⟩ : ByteArray).toList := by decide +kernel
theorem fi_a (x y : Int) : fi (four x y) (⟨#[97]⟩ : ByteArray) (four x y).length 0 = some 0 := by
  show fi (four x y) (⟨#[97]⟩ : ByteArray) (3 + 1) 0 = some 0
  rw [fi, if_pos (show ((four x y).getD 0 z36).f0.toList = (⟨#[97]⟩ : ByteArray).toList from rfl)]
theorem fi_b (x y : Int) : fi (four x y) (⟨#[98]⟩ : ByteArray) (four x y).length 0 = some 1 := by
  show fi (four x y) (⟨#[98]⟩ : ByteArray) (2 + 1 + 1) 0 = some 1
  rw [fi, if_neg (show ¬ ((four x y).getD 0 z36).f0.toList = (⟨#[98]⟩ : ByteArray).toList from ne_ab), fi, if_pos (show ((four x y).getD 1 z36).f0.toList = (⟨#[98]⟩ : ByteArray).toList from rfl)]
theorem fi_c (x y : Int) : fi (four x y) (⟨#[99]⟩ : ByteArray) (four x y).length 0 = some 2 := by
  show fi (four x y) (⟨#[99]⟩ : ByteArray) (1 + 1 + 1 + 1) 0 = some 2
  rw [fi, if_neg (show ¬ ((four x y).getD 0 z36).f0.toList = (⟨#[99]⟩ : ByteArray).toList from ne_ac), fi, if_neg (show ¬ ((four x y).getD 1 z36).f0.toList = (⟨#[99]⟩ : ByteArray).toList from ne_bc), fi, if_pos (show ((four x y).getD 2 z36).f0.toList = (⟨#[99]⟩ : ByteArray).toList from rfl)]
theorem fi_d (x y : Int) : fi (four x y) (⟨#[100]⟩ : ByteArray) (four x y).length 0 = some 3 := by
  show fi (four x y) (⟨#[100]⟩ : ByteArray) (0 + 1 + 1 + 1 + 1) 0 = some 3
  rw [fi, if_neg (show ¬ ((four x y).getD 0 z36).f0.toList = (⟨#[100]⟩ : ByteArray).toList from ne_ad), fi, if_neg (show ¬ ((four x y).getD 1 z36).f0.toList = (⟨#[100]⟩ : ByteArray).toList from ne_bd), fi, if_neg (show ¬ ((four x y).getD 2 z36).f0.toList = (⟨#[100]⟩ : ByteArray).toList from ne_cd), fi, if_pos (show ((four x y).getD 3 z36).f0.toList = (⟨#[100]⟩ : ByteArray).toList from rfl)]
theorem ov_a (L : Lat) (x y a : Int) : ovr L (four x y) (⟨#[97]⟩ : ByteArray) a = lq L a x := by
  unfold ovr; rw [fi_a]; show (lq L a x || false) = _; rw [Bool.or_false]
theorem ov_b (L : Lat) (x y a : Int) : ovr L (four x y) (⟨#[98]⟩ : ByteArray) a = lq L a y := by
  unfold ovr; rw [fi_b]; show (lq L a y || false) = _; rw [Bool.or_false]
theorem ov_c (L : Lat) (x y a : Int) : ovr L (four x y) (⟨#[99]⟩ : ByteArray) a = (lq L a x || lq L a y) := by
  unfold ovr; rw [fi_c]; show (lq L a (mn x y) || (lq L a (mx x y) || false)) = _
  rw [Bool.or_false]
  unfold mn mx
  by_cases c : y < x
  · rw [if_pos c, if_neg (by omega), Bool.or_comm]
  · rw [if_neg c]
    by_cases c2 : x < y
    · rw [if_pos c2]
    · rw [if_neg c2, show y = x by omega]
theorem ov_d (L : Lat) (x y a : Int) : ovr L (four x y) (⟨#[100]⟩ : ByteArray) a = false := by
  unfold ovr; rw [fi_d]; rfl
theorem flt_none {f : Int → Bool} (h : ∀ a, f a = false) : ∀ m a, flt f m a = [] := by
  intro m
  induction m with
  | zero => intro a; rfl
  | succ m ih => intro a; rw [flt, if_neg (by rw [h]; simp), ih]
theorem four_len (x y : Int) : (four x y).length ≤ maxLen := by show (4 : Nat) ≤ 9223372036854775807; decide
theorem four_ok {x y : Int} (hx : (Lit.int .i64 x).wf = true) (hy : (Lit.int .i64 y).wf = true) : ∀ p ∈ four x y, Ok36 p := by
  have hmn : (Lit.int .i64 (mn x y)).wf = true := by unfold mn; split <;> assumption
  have hmx : (Lit.int .i64 (mx x y)).wf = true := by unfold mx; split <;> assumption
  intro p hp
  simp only [four, List.mem_cons, List.mem_nil_iff, or_false] at hp
  have hm : ∀ n : Nat, n ≤ 4 → n ≤ maxLen := fun n h => Nat.le_trans h (by decide)
  rcases hp with rfl | rfl | rfl | rfl
  · exact ⟨show (1 : Nat) ≤ 140737488351232 by decide, hm 1 (by decide), show (1 * 8 : Nat) ≤ 140737488351232 by decide, by simpa using hx⟩
  · exact ⟨show (1 : Nat) ≤ 140737488351232 by decide, hm 1 (by decide), show (1 * 8 : Nat) ≤ 140737488351232 by decide, by simpa using hy⟩
  · exact ⟨show (1 : Nat) ≤ 140737488351232 by decide, hm 2 (by decide), show (2 * 8 : Nat) ≤ 140737488351232 by decide, by simpa using ⟨hmn, hmx⟩⟩
  · exact ⟨show (1 : Nat) ≤ 140737488351232 by decide, hm 0 (by decide), show (0 * 8 : Nat) ≤ 140737488351232 by decide, by simp⟩
theorem togetherAll {L : Lat} (hO : Ord L) {x y : Int} (hx : (Lit.int .i64 x).wf = true) (hy : (Lit.int .i64 y).wf = true) : ∀ m a : Nat, a + m = L.names.length → Ev (fun k => keyholelaw02_AuthTogether.l0 k [L] (four x y) (a : Int) x y) true := by
  have h8 := hO.1
  have hp := fun s (a : Int) => overProg L h8 (four x y) (four_len x y) (four_ok hx hy) s a
  intro m
  induction m with
  | zero =>
    intro a ha
    refine Ev.step (f := fun k => (auth_Reach.f k [L] (four x y) (⟨#[100]⟩ : ByteArray)).bind fun r => if (r.length : Int) = 0 then (keyholelaw02_lives.f k).bind fun t => some t else none) (fun k => ?_) ?_
    · rw [keyholelaw02_AuthTogether.l0]
      simp only [level_Lattice_Size.f, Option.bind_some]
      rw [if_neg (by omega)]
    · refine Ev.bind (reachProg L h8 (four x y) (four_len x y) (four_ok hx hy) _) ?_
      rw [flt_none (ov_d L x y)]
      exact Ev.congr (fun k => by rw [if_pos (show ((([] : List Int).length : Nat) : Int) = 0 from rfl)]) (Ev.bind lives_true (Ev.now true))
  | succ m ih =>
    intro a ha
    have h1 := ih (a + 1) (by omega)
    have e : ((a + 1 : Nat) : Int) = wrap64 ((a : Int) + 1) := by rw [IntWalk.wrap64_in _ (by omega)]; rfl
    rw [e] at h1
    have pa := hp (⟨#[97]⟩ : ByteArray) (a : Int)
    have pb := hp (⟨#[98]⟩ : ByteArray) (a : Int)
    have pc := hp (⟨#[99]⟩ : ByteArray) (a : Int)
    have pd := hp (⟨#[100]⟩ : ByteArray) (a : Int)
    rw [ov_a] at pa
    rw [ov_b] at pb
    rw [ov_c] at pc
    rw [ov_d] at pd
    refine Ev.step (f := fun k => (auth_Over.f k [L] (four x y) (⟨#[97]⟩ : ByteArray) (a : Int)).bind fun u => (auth_Over.f k [L] (four x y) (⟨#[98]⟩ : ByteArray) (a : Int)).bind fun v => (auth_Over.f k [L] (four x y) (⟨#[99]⟩ : ByteArray) (a : Int)).bind fun c => if u = true then (if (c != true) = true then none else (if (u != lq L a x) = true then none else (auth_Over.f k [L] (four x y) (⟨#[100]⟩ : ByteArray) (a : Int)).bind fun d => if d = true then none else keyholelaw02_AuthTogether.l0 k [L] (four x y) (wrap64 ((a : Int) + 1)) x y)) else (if (c != v) = true then none else (if (u != lq L a x) = true then none else (auth_Over.f k [L] (four x y) (⟨#[100]⟩ : ByteArray) (a : Int)).bind fun d => if d = true then none else keyholelaw02_AuthTogether.l0 k [L] (four x y) (wrap64 ((a : Int) + 1)) x y))) (fun k => ?_) ?_
    · rw [keyholelaw02_AuthTogether.l0]
      simp only [level_Lattice_Size.f, Option.bind_some]
      rw [if_pos (by omega)]
      simp only [leq_f L h8, Option.bind_some]
    · have h2 : Ev (fun k => (auth_Over.f k [L] (four x y) (⟨#[100]⟩ : ByteArray) (a : Int)).bind fun d => if d = true then none else keyholelaw02_AuthTogether.l0 k [L] (four x y) (wrap64 ((a : Int) + 1)) x y) true :=
        Ev.bind pd (Ev.congr (fun k => by rw [if_neg (by simp)]) h1)
      refine Ev.bind pa (Ev.bind pb (Ev.bind pc (Ev.congr (fun k => ?_) h2)))
      cases lq L (a : Int) x with
      | true => rw [if_pos rfl, Bool.true_or, if_neg (by simp), if_neg (by simp)]
      | false => rw [if_neg (by simp), Bool.false_or, if_neg (by simp), if_neg (by simp)]
theorem ok52 {x : S52} (h : Ok52 x) : (Lit.int .i64 x.f0).wf = true ∧ (Lit.int .i64 x.f1).wf = true := by
  cases h with
  | mk h0 h1 => exact ⟨h0, h1⟩
theorem AuthTogether : keyholelaw02_AuthTogether.Pure := by
  intro a p ha hp
  obtain ⟨hx, hy⟩ := ok52 hp
  generalize p.f0 = x at *
  generalize p.f1 = y at *
  apply Ev.rounds
  obtain ⟨P, L, hP, hL, hO⟩ := sortsO a
  refine Ev.congr (f := fun k => (level_New.f k P.1 P.2.1 P.2.2).bind fun bt => (if bt.2 = 0 then (if 0 < (bt.1.length : Int) then ((level_Lattice_Is.f bt.1 x).bind fun t230 => (if t230 = true then ((level_Lattice_Is.f bt.1 y).bind fun t231 => (keyholelaw02_AuthTogether.j0 k bt.1 bt.2 (!t231) x y)) else (keyholelaw02_AuthTogether.j0 k bt.1 bt.2 true x y))) else (none)) else (keyholelaw02_AuthTogether.j0 k bt.1 bt.2 true x y))) (fun k => by rw [keyholelaw02_AuthTogether.f, hP]; rfl) ?_
  refine Ev.bind hL ?_
  have hno : Ev (fun k => keyholelaw02_AuthTogether.j0 k [L] 0 true x y) true :=
    Ev.step (f := fun k => (keyholelaw02_lives.f k).bind fun t => some t) (fun k => by rw [keyholelaw02_AuthTogether.j0, if_pos rfl, if_pos rfl]) (Ev.bind lives_true (Ev.now true))
  have hyes : Ev (fun k => keyholelaw02_AuthTogether.j0 k [L] 0 false x y) true :=
    Ev.step (fun k => by rw [keyholelaw02_AuthTogether.j0, if_neg (by simp)]; rfl) (togetherAll hO hx hy L.names.length 0 (Nat.zero_add _))
  refine Ev.congr (f := fun k => if L.is x = true then keyholelaw02_AuthTogether.j0 k [L] 0 (!L.is y) x y else keyholelaw02_AuthTogether.j0 k [L] 0 true x y) (fun k => by rw [if_pos rfl, if_pos (by simp)]; simp only [level_Lattice_Is.f, Option.bind_some]) ?_
  cases hx2 : L.is x with
  | false => exact Ev.congr (fun k => by rw [if_neg (by simp)]) hno
  | true =>
    refine Ev.congr (f := fun k => keyholelaw02_AuthTogether.j0 k [L] 0 (!L.is y) x y) (fun k => by rw [if_pos rfl]) ?_
    cases L.is y with
    | true => exact hyes
    | false => exact hno
end Go.Proofs.Yteeodnnabogheaa.Pure
