/- Texts as rows of bytes; joined; told several times. -/
import Derived.Test.YtgljpoefbphhdaaDoorT
namespace Go.Ab
set_option linter.unusedVariables false
set_option linter.unusedSimpArgs false
set_option linter.unusedSectionVars false
/-- A text of these bytes. -/
def BB (l : List UInt8) : ByteArray := ⟨l.toArray⟩
def LB (s : ByteArray) : List UInt8 := s.data.toList
theorem BB_LB (s : ByteArray) : BB (LB s) = s := by unfold BB LB; rw [Array.toArray_toList]
theorem LB_BB (l : List UInt8) : LB (BB l) = l := rfl
theorem BB_size (l : List UInt8) : (BB l).size = l.length := rfl
theorem BB_inj {l m : List UInt8} : BB l = BB m ↔ l = m := ⟨fun h => by simpa [LB_BB] using congrArg LB h, fun h => by rw [h]⟩
theorem BB_beq (l m : List UInt8) : ((BB l).toList == (BB m).toList) = decide (l = m) := by
  rw [bytes_beq]; simp [BB_inj]
theorem BB_nil : (⟨#[]⟩ : ByteArray) = BB [] := rfl
theorem ext_BB (s : ByteArray) (a b : Nat) : ByteArray.extract s a b = BB (((LB s).take b).drop a) := by
  apply ByteArray.ext
  rw [ByteArray.data_extract]
  simp [BB, LB, ← Array.toList_inj, List.drop_take]
section
variable (l : List ByteArray) (b : ByteArray) (hl : l.length ≤ 1099511627776) (hb : b.size ≤ 1099511627776) (hs : ∀ x ∈ l, x.size ≤ 1099511627776)
include hl hb hs
end

end Go.Ab
