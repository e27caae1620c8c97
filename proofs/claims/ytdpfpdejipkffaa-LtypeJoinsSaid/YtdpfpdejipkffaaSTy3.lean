/- Whether a node fits a type. -/
import Derived.Test.YtdpfpdejipkffaaSTy2
namespace Go.Ab
set_option linter.unusedVariables false
set_option linter.unusedSimpArgs false
set_option linter.unusedSectionVars false
mutual
def fitsN (L : Lt) : ND → TY → Bool
  | .mk a d k c s t is ks, x => L.leqI a x.a && fitsNs L is k ks x
def fitsNs (L : Lt) : List ND → Int → List ByteArray → TY → Bool
  | [], _, _, _ => true
  | v :: r, k, ks, x => (match ks with
    | key :: _ => if k = 6 then fitsN L v (ofT x key) else L.leqI v.d x.r
    | [] => L.leqI v.d x.r) && fitsNs L r k ks.tail x
end
end Go.Ab
