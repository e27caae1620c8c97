-- Written for this claim by a program of the session, out of the translation's print. Lean checks it.
import Derived.Test.YtjkdheebgmnpmaaXRd
import Derived.Test.YtjkdheebgmnpmaaX4
namespace Go.Proofs.Ytjkdheebgmnpmaa.X
open Go.RowKit Go.Proofs.YtjkdheebgmnpmaaY Go.Proofs.YtjkdheebgmnpmaaW.PrintWords Go.Proofs.YtjkdheebgmnpmaaW.PrintLast Go.Proofs.YtjkdheebgmnpmaaW.PrintMore
attribute [local go_sem] max2_int min2_int max_two min_two max_three min_three max_four min_four   -- for this text's walks alone
set_option linter.unusedVariables false
set_option linter.unusedSimpArgs false

/-- THE ONE PURE STATEMENT of keyholelaw05_JvalSizes. -/
def keyholelaw05_JvalSizes.Pure : Prop := ∀ (a0 : S27) (a1 : Int), Ok27 a0 → (Lit.int .i64 a1).wf = true → ∃ k, keyholelaw05_JvalSizes.f k a0.f0 a0.f1.f0 a0.f1.f1 a0.f2 a0.f3 a0.f4 a1 = some true
end Go.Proofs.Ytjkdheebgmnpmaa.X
