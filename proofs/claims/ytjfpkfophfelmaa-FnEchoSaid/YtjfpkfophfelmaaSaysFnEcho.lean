/- The plain statement of FnEcho, over its printed function. -/
import Derived.Test.YtjfpkfophfelmaaQFnEchox8
import Derived.Test.YtjfpkfophfelmaaOpen
namespace Go.Proofs.Ytjfpkfophfelmaa.SaysFnEcho
open Go.RowKit Go.Proofs.Ytjfpkfophfelmaa.QFnEcho Go.Proofs.YtjfpkfophfelmaaV.PrintWords Go.Proofs.Ytjfpkfophfelmaa.Open
set_option linter.unusedVariables false
def Says : Prop := ∀ (a0 : List (Int)) (a1 : List (Int)), (a0.length ≤ maxLen ∧ ∀ y0 ∈ a0, (Lit.int .u8 y0).wf = true) → (a1.length ≤ maxLen ∧ ∀ y0 ∈ a1, (Lit.int .u8 y0).wf = true) → ∃ k, laws_FnEcho.f k a0 a1 = some true
end Go.Proofs.Ytjfpkfophfelmaa.SaysFnEcho
