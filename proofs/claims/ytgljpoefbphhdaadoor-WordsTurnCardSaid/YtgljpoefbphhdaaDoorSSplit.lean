/- A text split at any other one. -/
import Derived.Test.YtgljpoefbphhdaaDoorSWords1
import Derived.Test.YtgljpoefbphhdaaDoorSSgn
import Derived.Lib.IndexBytes
namespace Go.Ab
set_option linter.unusedVariables false
set_option linter.unusedSimpArgs false
set_option linter.unusedSectionVars false
open Go.Lib (index occAt)
theorem index_occ : ∀ (s sub : List UInt8) (i : Nat), index s sub = i → occAt s sub i = true ∧ (∀ j, j < i → occAt s sub j = false) ∧ i ≤ s.length
  | [], sub, i, h => by
    unfold index at h
    split at h
    · rename_i he
      obtain rfl : i = 0 := by omega
      refine ⟨?_, fun j hj => by omega, Nat.zero_le _⟩
      have : sub = [] := List.isEmpty_iff.1 he
      subst this; rfl
    · omega
  | b :: l, sub, i, h => by
    unfold index at h
    split at h
    · rename_i he
      obtain rfl : i = 0 := by omega
      exact ⟨he, fun j hj => by omega, Nat.zero_le _⟩
    · rename_i he
      split at h
      · omega
      · obtain ⟨k, rfl⟩ : ∃ k, i = k + 1 := ⟨i - 1, by have := Lib.index_ge l sub; rename_i hne; simp at hne; omega⟩
        obtain ⟨h1, h2, h3⟩ := index_occ l sub k (by omega)
        refine ⟨h1, fun j hj => ?_, by simp; omega⟩
        cases j with
        | zero => exact Bool.eq_false_iff.2 he
        | succ j => exact h2 j (by omega)
theorem index_no : ∀ (s sub : List UInt8), index s sub = -1 ∨ ∃ i : Nat, index s sub = i := by
  intro s sub
  have := Lib.index_ge s sub
  by_cases h : index s sub = -1
  · exact .inl h
  · exact .inr ⟨(index s sub).toNat, by omega⟩
theorem occ_iff {s sub : List UInt8} {i : Nat} : occAt s sub i = decide ((s.drop i).take sub.length = sub) := by
  unfold occAt
  rw [Bool.eq_iff_iff, List.isPrefixOf_iff_prefix, decide_eq_true_eq, List.prefix_iff_eq_take]
  exact eq_comm
theorem occ_len {s sub : List UInt8} {i : Nat} (h : occAt s sub i = true) (hne : sub ≠ []) : i + sub.length ≤ s.length := by
  rw [occ_iff, decide_eq_true_eq] at h
  have := congrArg List.length h
  rw [List.length_take, List.length_drop] at this
  have h2 := List.length_pos_iff.2 hne
  omega
end Go.Ab
