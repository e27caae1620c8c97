/- The reference: a node without its labels, its shape, whether it may be. -/
import Derived.Test.YtdpfpdejipkffaaSNode1
import Derived.Test.YtdpfpdejipkffaaSIsR
namespace Go.Ab
set_option linter.unusedVariables false
set_option linter.unusedSimpArgs false

mutual
def strip : ND → JV
  | .mk _ _ k c s t is ks => .mk k c s t (strips is) ks
def strips : List ND → List JV
  | [] => []
  | v :: r => strip v :: strips r
end
def JV.z0 : JV := .mk 0 0 0 ⟨#[]⟩ [] []
def preB (k : Int) (li lk : Nat) : Bool := !((k == 6) && ((lk : Int) != (li : Int))) && !((k != 5) && ((k != 6) && decide ((li : Int) > 0)))
mutual
def shapeB : JV → Bool
  | .mk k c s t is ks => preB k is.length ks.length && (isR (.mk k c s t (List.replicate ks.length JV.z0) ks) 0 && shapeBs is)
def shapeBs : List JV → Bool
  | [] => true
  | v :: r => shapeB v && shapeBs r
end
/-- No list in a value is great, and no text. -/
inductive JV.Tiny : JV → Prop where
  | mk {k c s : Int} {t : ByteArray} {is : List JV} {ks : List ByteArray} (hi : is.length ≤ 134217728) (hk : ks.length ≤ 134217728) (ht : t.size ≤ 134217728) (hs : ∀ s ∈ ks, s.size ≤ 134217728) (h : ∀ v ∈ is, JV.Tiny v) : (JV.mk k c s t is ks).Tiny
end Go.Ab
