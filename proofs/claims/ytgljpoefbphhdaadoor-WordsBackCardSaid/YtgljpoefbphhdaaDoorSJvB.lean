/- Values of documents, told. -/
import Derived.Test.YtgljpoefbphhdaaDoorT
namespace Go.Ab
set_option linter.unusedVariables false
set_option linter.unusedSimpArgs false

inductive JV where
  | mk (k c s : Int) (t : ByteArray) (is : List JV) (ks : List ByteArray)
  deriving Inhabited

mutual
def JV.enc : JV → FV
  | .mk k c s t is ks => .ag [.int .i64 k, .int .i64 c, .int .i64 s, .str t, .sl (JV.encs is), .sl (ks.map .str)]
def JV.encs : List JV → List FV
  | [] => []
  | v :: r => v.enc :: JV.encs r
end
@[simp] theorem JV.enc_fits (v : JV) : v.enc.fits 6 true = true := by
  obtain ⟨k, c, s, t, is, ks⟩ := v
  simp [JV.enc]
@[simp] theorem JV.all_fits (l : List JV) : (l.map JV.enc).all (FV.fits 6 true) = true := Ab.all_fits _ (fun v => v.enc_fits) l

def JV.k : JV → Int | .mk k _ _ _ _ _ => k
def JV.is : JV → List JV | .mk _ _ _ _ is _ => is
def JV.ks : JV → List ByteArray | .mk _ _ _ _ _ ks => ks

/-- No list in it is so long that a place in it is no whole number of the machine. -/
inductive JV.Sm : JV → Prop where
  | mk {k c s : Int} {t : ByteArray} {is : List JV} {ks : List ByteArray} (hi : is.length ≤ 1152921504606846976) (hk : ks.length ≤ 1152921504606846976) (h : ∀ v ∈ is, v.Sm) : (JV.mk k c s t is ks).Sm
theorem drop_cons {α : Type} {l : List α} {i : Nat} (h : i < l.length) : l.drop i = l[i] :: l.drop (i + 1) := List.drop_eq_getElem_cons h

theorem when_go {β : Type} {b : Bool} {x y : Option β} (h : b = true) (h2 : x = y) : when b x = y := by rw [h]; exact h2

end Go.Ab
