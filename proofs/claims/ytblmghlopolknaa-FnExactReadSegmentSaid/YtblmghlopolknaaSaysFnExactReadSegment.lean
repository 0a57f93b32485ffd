/- The plain statement of FnExactReadSegment, over its printed function. -/
import Derived.Test.YtblmghlopolknaaQFnExactReadSegmentx5
import Derived.Test.YtblmghlopolknaaOpen
namespace Go.Proofs.Ytblmghlopolknaa.SaysFnExactReadSegment
open Go.RowKit Go.Proofs.Ytblmghlopolknaa.QFnExactReadSegment Go.Proofs.YtblmghlopolknaaW.PrintWords Go.Proofs.Ytblmghlopolknaa.Open
set_option linter.unusedVariables false
def Says : Prop := ∀ (a0 : List (Int)), (a0.length ≤ maxLen ∧ ∀ y0 ∈ a0, (Lit.int .u8 y0).wf = true) → ∃ k, laws_FnExactReadSegment.f k a0 = some true
end Go.Proofs.Ytblmghlopolknaa.SaysFnExactReadSegment
