/- The reference's labels of nodes. -/
import Derived.Test.YtdpfpdejipkffaaSNode0
import Derived.Test.YtdpfpdejipkffaaSTab9J
namespace Go.Ab
set_option linter.unusedVariables false
set_option linter.unusedSimpArgs false

mutual
def labB (L : Lt) : ND → Bool
  | .mk a _ _ _ _ _ is _ => L.is a && labBs L is
def labBs (L : Lt) : List ND → Bool
  | [] => true
  | v :: r => labB L v && labBs L r
end
mutual
def deepN (L : Lt) : ND → Nat
  | .mk a _ _ _ _ _ is _ => deepNs L a.toNat is
def deepNs (L : Lt) : Nat → List ND → Nat
  | acc, [] => acc
  | acc, v :: r => deepNs L (L.join acc (deepN L v)) r
end
mutual
def rightB (L : Lt) : ND → Bool
  | .mk a d k c s t is ks => decide (d = (deepNs L a.toNat is : Int)) && rightBs L is
def rightBs (L : Lt) : List ND → Bool
  | [] => true
  | v :: r => rightB L v && rightBs L r
end
theorem labB_mk (L : Lt) (a d k c s : Int) (t : ByteArray) (is : List ND) (ks : List ByteArray) : labB L (.mk a d k c s t is ks) = (L.is a && labBs L is) := by simp [labB]
theorem deepN_mk (L : Lt) (a d k c s : Int) (t : ByteArray) (is : List ND) (ks : List ByteArray) : deepN L (.mk a d k c s t is ks) = deepNs L a.toNat is := by simp [deepN]
mutual
theorem deepN_lt {L : Lt} (O : L.Ok) : ∀ v : ND, labB L v = true → deepN L v < L.n
  | .mk a d k c s t is ks, h => by
    rw [labB_mk, Bool.and_eq_true] at h
    have := Lt.is_iff.1 h.1
    rw [deepN_mk]
    exact deepNs_lt O is a.toNat (by omega) h.2
theorem deepNs_lt {L : Lt} (O : L.Ok) : ∀ (l : List ND) (acc : Nat), acc < L.n → labBs L l = true → deepNs L acc l < L.n
  | [], acc, h, _ => h
  | v :: r, acc, h, hl => by
    simp only [labBs, Bool.and_eq_true] at hl
    exact deepNs_lt O r _ (O.join _ _ h (deepN_lt O v hl.1)) hl.2
end

end Go.Ab
