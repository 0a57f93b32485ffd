/- The plain statement of FnExactReadFrame, over its printed function. -/
import Derived.Test.YtblmghlopolknaaQFnExactReadFramex5
import Derived.Test.YtblmghlopolknaaOpen
namespace Go.Proofs.Ytblmghlopolknaa.SaysFnExactReadFrame
open Go.RowKit Go.Proofs.Ytblmghlopolknaa.QFnExactReadFrame Go.Proofs.YtblmghlopolknaaW.PrintWords Go.Proofs.Ytblmghlopolknaa.Open
set_option linter.unusedVariables false
def Says : Prop := ∀ (a0 : List (Int)), (a0.length ≤ maxLen ∧ ∀ y0 ∈ a0, (Lit.int .u8 y0).wf = true) → ∃ k, laws_FnExactReadFrame.f k a0 = some true
end Go.Proofs.Ytblmghlopolknaa.SaysFnExactReadFrame
