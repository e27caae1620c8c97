/- What the language itself reads of a text, sign by sign, is what the reference reads. -/
import Derived.Test.YtgljpoefbphhdaaDoorSUtf3
import Derived.Lib.DecodeN
namespace Go.Ab
set_option linter.unusedVariables false
set_option linter.unusedSimpArgs false
def qB (l : List UInt8) : ByteArray := ⟨l.toArray⟩
/-- The signs from a place on. -/
inductive SgAt (s : ByteArray) : Nat → List Int → Prop
  | nil (pos : Nat) (h : s.size ≤ pos) : SgAt s pos []
  | cons (pos k : Nat) (c : Int) (cs : List Int) (hd : Utf8.decode s pos = (c.toNat, k)) (h : pos < s.size) (hk : 1 ≤ k) (hk2 : pos + k ≤ s.size) (h0 : 0 ≤ c) (h1 : c ≤ 1114111) (h2 : ¬ (55296 ≤ c ∧ c < 57344)) (hb : toB (putB c) = (s.data.toList.drop pos).take k) (r : SgAt s (pos + k) cs) : SgAt s pos (c :: cs)
theorem SgAt.len {s : ByteArray} {pos : Nat} {cs : List Int} (h : SgAt s pos cs) (hp : pos ≤ s.size) : cs.length + pos ≤ s.size := by
  induction h with
  | nil pos h => simp; omega
  | cons pos k c cs hd h hk hk2 h0 h1 h2 hb r ih => have := ih (by omega); simp; omega
theorem SgAt.bytes {s : ByteArray} {pos : Nat} {cs : List Int} (h : SgAt s pos cs) : s.data.toList.drop pos = toB (cs.flatMap putB) := by
  induction h with
  | nil pos h => rw [List.drop_eq_nil_of_le (by rw [bytes_size]; exact h)]; rfl
  | cons pos k c cs hd h hk hk2 h0 h1 h2 hb r ih =>
    rw [← List.take_append_drop k (s.data.toList.drop pos), ← hb, List.drop_drop, ih]
    simp [toB, List.flatMap_cons]
end Go.Ab
