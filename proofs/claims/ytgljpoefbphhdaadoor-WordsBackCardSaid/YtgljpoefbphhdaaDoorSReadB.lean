/- What an argument is read as: numbers, truths, texts, arrays of them, structs. -/
import Derived.Test.YtgljpoefbphhdaaDoorT
namespace Go.Ab
set_option linter.unusedSectionVars false
set_option linter.unusedVariables false
set_option linter.unusedSimpArgs false

section
variable {P : Program} {D B : Nat}

theorem wc_str {f : FV} (h : WC P D B .str f) : ∃ s, f = .str s ∧ s.size ≤ B := by
  cases h; exact ⟨_, rfl, by assumption⟩
theorem str_of {t : Nat} (hft : flat P D t = [.str]) (hst : szOf P t = some (1, false)) {f : FV} (h : WV P D B t f) : ∃ a : ByteArray, f = .str a ∧ a.size ≤ B := by
  obtain ⟨⟨n, agg, hs, hfit⟩, H⟩ := h
  rw [hst] at hs; cases hs
  have hc := (fits_one hfit).2.2
  exact wc_str (H 0 f .str (by rw [hc]; rfl) (by rw [hft]; rfl))
end
end Go.Ab
