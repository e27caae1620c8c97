/- The signs of a text, as the reference reads them: all of them. -/
import Derived.Test.YtgljpoefbphhdaaDoorSUtf0
namespace Go.Ab
set_option linter.unusedVariables false
set_option linter.unusedSimpArgs false
set_option linter.unusedSectionVars false

theorem sgn_pos {l : List UInt8} {c : Int} {k : Nat} (h : sgn l = some (c, k)) : 1 ≤ k ∧ k ≤ l.length ∧ 0 ≤ c ∧ c ≤ 1114111 := by
  cases l with
  | nil => cases h
  | cons b r =>
    simp only [sgn] at h
    split at h
    · cases h
    · rename_i h1
      have hb : b.toNat < 248 := Nat.lt_of_not_le fun e => h1 (.inl e)
      have hN := headN_le b.toNat
      split at h
      · cases h
      · rename_i c' hc
        have := cont_nonneg _ _ _ _ (headC_le hb).1 hc
        split at h
        · cases h
        · rename_i h2
          simp only [Option.some.injEq, Prod.mk.injEq] at h
          obtain ⟨rfl, rfl⟩ := h
          refine ⟨hN.1, ?_, this, Int.not_lt.1 fun e => h2 (.inl e)⟩
          have : ¬ (r.length + 1 < headN b.toNat) := fun e => h1 (.inr (.inr e))
          simp only [List.length_cons]; omega

section
variable (s : ByteArray) (hs : s.size ≤ 8796093022208)
include hs

end
end Go.Ab
