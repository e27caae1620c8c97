/- Laws of an order with joins and meets. -/
import Derived.Test.YtdpfpdejipkffaaSLat0
namespace Go.Ab
set_option linter.unusedVariables false
set_option linter.unusedSimpArgs false
section
variable {L : Lt} (O : L.Ok) {a b c : Nat} (ha : a < L.n) (hb : b < L.n) (hc : c < L.n)
include O ha hb
theorem Lt.Ok.join_eq {x : Nat} (hx : x < L.n) (h1 : L.leq a x = true) (h2 : L.leq b x = true) (h : ∀ d, d < L.n → L.leq a d = true → L.leq b d = true → L.leq x d = true) : L.join a b = x :=
  O.anti _ _ (O.join a b ha hb) hx (O.joinm a b x ha hb hx h1 h2) (h _ (O.join a b ha hb) (O.joinl a b ha hb) (O.joinr a b ha hb))
theorem Lt.Ok.meet_eq {x : Nat} (hx : x < L.n) (h1 : L.leq x a = true) (h2 : L.leq x b = true) (h : ∀ d, d < L.n → L.leq d a = true → L.leq d b = true → L.leq d x = true) : L.meet a b = x :=
  O.anti _ _ (O.meet a b ha hb) hx (h _ (O.meet a b ha hb) (O.meetl a b ha hb) (O.meetr a b ha hb)) (O.meetm a b x ha hb hx h1 h2)
theorem Lt.Ok.join_comm : L.join a b = L.join b a :=
  O.join_eq ha hb (O.join b a hb ha) (O.joinr b a hb ha) (O.joinl b a hb ha) fun d hd x y => O.joinm b a d hb ha hd y x
theorem Lt.Ok.meet_comm : L.meet a b = L.meet b a :=
  O.meet_eq ha hb (O.meet b a hb ha) (O.meetr b a hb ha) (O.meetl b a hb ha) fun d hd x y => O.meetm b a d hb ha hd y x
theorem Lt.Ok.leq_join : L.leq a b = decide (L.join a b = b) := by
  rw [Bool.eq_iff_iff, decide_eq_true_eq]
  constructor
  · intro h; exact O.join_eq ha hb hb h (O.refl b hb) fun d hd _ y => y
  · intro h; have := O.joinl a b ha hb; rwa [h] at this
theorem Lt.Ok.leq_meet : L.leq a b = decide (L.meet a b = a) := by
  rw [Bool.eq_iff_iff, decide_eq_true_eq]
  constructor
  · intro h; exact O.meet_eq ha hb ha (O.refl a ha) h fun d hd x _ => x
  · intro h; have := O.meetr a b ha hb; rwa [h] at this
theorem Lt.Ok.abs1 : L.join a (L.meet a b) = a :=
  O.join_eq ha (O.meet a b ha hb) ha (O.refl a ha) (O.meetl a b ha hb) fun d hd x _ => x
theorem Lt.Ok.abs2 : L.meet a (L.join a b) = a :=
  O.meet_eq ha (O.join a b ha hb) ha (O.refl a ha) (O.joinl a b ha hb) fun d hd x _ => x
include hc
theorem Lt.Ok.join_assoc : L.join a (L.join b c) = L.join (L.join a b) c := by
  have h1 := O.join b c hb hc
  have h2 := O.join a b ha hb
  have h3 := O.join (L.join a b) c h2 hc
  have l1 := O.joinl _ c h2 hc
  have ra := O.trans _ _ _ ha h2 h3 (O.joinl a b ha hb) l1
  have rb := O.trans _ _ _ hb h2 h3 (O.joinr a b ha hb) l1
  refine O.join_eq ha h1 h3 ra (O.joinm b c _ hb hc h3 rb (O.joinr _ c h2 hc)) fun d hd x y => ?_
  have yb := O.trans _ _ _ hb h1 hd (O.joinl b c hb hc) y
  have yc := O.trans _ _ _ hc h1 hd (O.joinr b c hb hc) y
  exact O.joinm _ c d h2 hc hd (O.joinm a b d ha hb hd x yb) yc
theorem Lt.Ok.meet_assoc : L.meet a (L.meet b c) = L.meet (L.meet a b) c := by
  have h1 := O.meet b c hb hc
  have h2 := O.meet a b ha hb
  have h3 := O.meet (L.meet a b) c h2 hc
  have l1 := O.meetl _ c h2 hc
  have ra := O.trans _ _ _ h3 h2 ha l1 (O.meetl a b ha hb)
  have rb := O.trans _ _ _ h3 h2 hb l1 (O.meetr a b ha hb)
  refine O.meet_eq ha h1 h3 ra (O.meetm b c _ hb hc h3 rb (O.meetr _ c h2 hc)) fun d hd x y => ?_
  have yb := O.trans _ _ _ hd h1 hb y (O.meetl b c hb hc)
  have yc := O.trans _ _ _ hd h1 hc y (O.meetr b c hb hc)
  exact O.meetm _ c d h2 hc hd (O.meetm a b d ha hb hd x yb) yc
end
theorem Lt.joinI_nat {L : Lt} {a b : Nat} (ha : a < L.n) (hb : b < L.n) : L.joinI a b = L.join a b := by
  unfold Lt.joinI
  rw [if_pos ⟨Lt.is_iff.2 ⟨by omega, by omega⟩, Lt.is_iff.2 ⟨by omega, by omega⟩⟩]
  simp
theorem Lt.meetI_nat {L : Lt} {a b : Nat} (ha : a < L.n) (hb : b < L.n) : L.meetI a b = L.meet a b := by
  unfold Lt.meetI
  rw [if_pos ⟨Lt.is_iff.2 ⟨by omega, by omega⟩, Lt.is_iff.2 ⟨by omega, by omega⟩⟩]
  simp
theorem Lt.leqI_nat {L : Lt} {a b : Nat} (ha : a < L.n) (hb : b < L.n) : L.leqI a b = L.leq a b := by
  unfold Lt.leqI
  rw [Lt.is_iff.2 ⟨by omega, by omega⟩, Lt.is_iff.2 ⟨by omega, by omega⟩]
  simp
/-- A number is made a level. -/
theorem lev_of (x : Int) {n : Nat} (h1 : 1 ≤ n) (h8 : n ≤ 8) : ∃ i : Nat, i < n ∧ Int.tmod (IntKind.wrap .i64 ((Int.tmod x n) + n)) n = (i : Int) := by
  have hn : (0 : Int) < (n : Int) := by omega
  have b1 := Int.lt_tmod_of_pos x hn
  have b2 := Int.tmod_lt_of_pos x hn
  rw [wrap64 (by omega) (by omega)]
  have hp : 0 ≤ x.tmod n + n := by omega
  have c1 := Int.tmod_nonneg (n : Int) hp
  have c2 := Int.tmod_lt_of_pos (x.tmod n + n) hn
  refine ⟨((x.tmod n + n).tmod n).toNat, by omega, by omega⟩
end Go.Ab
