/- Laws of an order with joins and meets. -/
import Derived.Test.YtdpfpdejipkffaaSLat0
namespace Go.Ab
set_option linter.unusedVariables false
set_option linter.unusedSimpArgs false
section
variable {L : Lt} (O : L.Ok) {a b c : Nat} (ha : a < L.n) (hb : b < L.n) (hc : c < L.n)
include O ha hb
theorem Lt.Ok.join_eq {x : Nat} (hx : x < L.n) (h1 : L.leq a x = true) (h2 : L.leq b x = true) (h : ∀ d, d < L.n → L.leq a d = true → L.leq b d = true → L.leq x d = true) : L.join a b = x :=
  O.anti _ _ (O.join a b ha hb) hx (O.joinm a b x ha hb hx h1 h2) (h _ (O.join a b ha hb) (O.joinl a b ha hb) (O.joinr a b ha hb))
theorem Lt.Ok.join_comm : L.join a b = L.join b a :=
  O.join_eq ha hb (O.join b a hb ha) (O.joinr b a hb ha) (O.joinl b a hb ha) fun d hd x y => O.joinm b a d hb ha hd y x
include hc
theorem Lt.Ok.join_assoc : L.join a (L.join b c) = L.join (L.join a b) c := by
  have h1 := O.join b c hb hc
  have h2 := O.join a b ha hb
  have h3 := O.join (L.join a b) c h2 hc
  have l1 := O.joinl _ c h2 hc
  have ra := O.trans _ _ _ ha h2 h3 (O.joinl a b ha hb) l1
  have rb := O.trans _ _ _ hb h2 h3 (O.joinr a b ha hb) l1
  refine O.join_eq ha h1 h3 ra (O.joinm b c _ hb hc h3 rb (O.joinr _ c h2 hc)) fun d hd x y => ?_
  have yb := O.trans _ _ _ hb h1 hd (O.joinl b c hb hc) y
  have yc := O.trans _ _ _ hc h1 hd (O.joinr b c hb hc) y
  exact O.joinm _ c d h2 hc hd (O.joinm a b d ha hb hd x yb) yc
end
theorem Lt.joinI_nat {L : Lt} {a b : Nat} (ha : a < L.n) (hb : b < L.n) : L.joinI a b = L.join a b := by
  unfold Lt.joinI
  rw [if_pos ⟨Lt.is_iff.2 ⟨by omega, by omega⟩, Lt.is_iff.2 ⟨by omega, by omega⟩⟩]
  simp
theorem Lt.leqI_nat {L : Lt} {a b : Nat} (ha : a < L.n) (hb : b < L.n) : L.leqI a b = L.leq a b := by
  unfold Lt.leqI
  rw [Lt.is_iff.2 ⟨by omega, by omega⟩, Lt.is_iff.2 ⟨by omega, by omega⟩]
  simp
end Go.Ab
