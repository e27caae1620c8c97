/- Whether a value may be, as the reference says. -/
import Derived.Test.YtdpfpdejipkffaaSUtf1
namespace Go.Ab
set_option linter.unusedVariables false
set_option linter.unusedSimpArgs false
set_option linter.unusedSectionVars false

def textB (s : ByteArray) : Bool := (signsL s.data.toList).isSome
def leB (a b : ByteArray) : Bool := Op.bytesLess a.toList b.toList || a.toList == b.toList

def num4B (c s : Int) : Bool := !(decide (s < 0)) && (!(decide (s > 9)) && (!(decide (c ≥ 1000000000000000)) && (!(decide (c ≤ (-1000000000000000))) && ((s == 0) || (Int.tmod c 10 != 0)))))
def zeroB (k c s : Int) (t : ByteArray) (li lk : Int) : Bool :=
  !((k != 3) && ((c != 0) || (s != 0))) && (!((k != 4) && ((k != 7) && !(t.toList == (⟨#[]⟩ : ByteArray).toList))) && (((k == 5) || ((k == 6) || (li == 0))) && ((k == 6) || (lk == 0))))
def keysOk : Option ByteArray → List ByteArray → Bool
  | _, [] => true
  | p, s :: r => textB s && ((match p with | none => true | some q => !(leB s q)) && keysOk (some s) r)

mutual
def isR : JV → Int → Bool
  | .mk k c s t is ks, d => !(decide (k < 0)) && (!(decide (k > 7)) && (zeroB k c s t is.length ks.length && (!(decide (d > 32)) && (textB t && ((!(k == 3) || num4B c s) && ((!(k == 6) || !((ks.length : Int) != is.length)) && (keysOk none ks && isRs is (IntKind.wrap .i64 (d + 1)))))))))
def isRs : List JV → Int → Bool
  | [], _ => true
  | v :: r, d => !(v.k == 7) && (isR v d && isRs r d)
end

section
variable (d k c s : Int) (t : ByteArray) (is : List JV) (ks : List ByteArray) (hks : ∀ s ∈ ks, s.size ≤ 8796093022208) (hlk : ks.length ≤ 1152921504606846976)
include hks hlk

end

/-- All texts in a value are short. -/
inductive JV.Short : JV → Prop where
  | mk {k c s : Int} {t : ByteArray} {is : List JV} {ks : List ByteArray} (ht : t.size ≤ 8796093022208) (hs : ∀ s ∈ ks, s.size ≤ 8796093022208) (h : ∀ v ∈ is, v.Short) : (JV.mk k c s t is ks).Short

end Go.Ab
