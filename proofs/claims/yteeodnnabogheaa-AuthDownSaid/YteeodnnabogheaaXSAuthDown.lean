-- Written for this claim by a program of the session, out of the translation's print. Lean checks it.
import Derived.Test.YteeodnnabogheaaXRd
import Derived.Test.YteeodnnabogheaaX6
namespace Go.Proofs.Yteeodnnabogheaa.X
open Go.RowKit Go.Proofs.YteeodnnabogheaaY Go.Proofs.YteeodnnabogheaaW.PrintWords Go.Proofs.YteeodnnabogheaaW.PrintLast Go.Proofs.YteeodnnabogheaaW.PrintMore
attribute [local go_sem] max2_int min2_int max_two min_two max_three min_three max_four min_four   -- for this text's walks alone
set_option linter.unusedVariables false
set_option linter.unusedSimpArgs false

/-- THE ONE PURE STATEMENT of keyholelaw02_AuthDown. -/
def keyholelaw02_AuthDown.Pure : Prop := ∀ (a0 : Int) (a1 : List (S36)) (a2 : ByteArray), (Lit.int .i64 a0).wf = true → (a1.length ≤ maxLen ∧ a1.length * 40 ≤ 140737488351232 ∧ ∀ y0 ∈ a1, Ok36 y0) → a2.size ≤ 140737488351232 → ∃ k, keyholelaw02_AuthDown.f k a0 a1 a2 = some true
end Go.Proofs.Yteeodnnabogheaa.X
