-- Written for this claim by a program of the session, out of the translation's print. Lean checks it.
import Derived.Test.YteeodnnabogheaaXRd
import Derived.Test.YteeodnnabogheaaX7
namespace Go.Proofs.Yteeodnnabogheaa.X
open Go.RowKit Go.Proofs.YteeodnnabogheaaY Go.Proofs.YteeodnnabogheaaW.PrintWords Go.Proofs.YteeodnnabogheaaW.PrintLast Go.Proofs.YteeodnnabogheaaW.PrintMore
attribute [local go_sem] max2_int min2_int max_two min_two max_three min_three max_four min_four   -- for this text's walks alone
set_option linter.unusedVariables false
set_option linter.unusedSimpArgs false

/-- THE ONE PURE STATEMENT of keyholelaw02_AuthTogether. -/
def keyholelaw02_AuthTogether.Pure : Prop := ∀ (a0 : Int) (a1 : S52), (Lit.int .i64 a0).wf = true → Ok52 a1 → ∃ k, keyholelaw02_AuthTogether.f k a0 a1.f0 a1.f1 = some true
end Go.Proofs.Yteeodnnabogheaa.X
