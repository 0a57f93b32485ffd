/- The plain statement of FnExactSum16, over its printed function. -/
import Derived.Test.YthjeegnmmeifbaaPFnExactSum16x2
import Derived.Test.YthjeegnmmeifbaaOpen
namespace Go.Proofs.Ythjeegnmmeifbaa.SaysFnExactSum16
open Go.RowKit Go.Proofs.Ythjeegnmmeifbaa.PFnExactSum16 Go.Proofs.YthjeegnmmeifbaaW.PrintWords Go.Proofs.Ythjeegnmmeifbaa.Open
set_option linter.unusedVariables false
def Says : Prop := ∀ (a0 : List (Int)), (a0.length ≤ maxLen ∧ ∀ y0 ∈ a0, (Lit.int .u8 y0).wf = true) → ∃ k, laws_FnExactSum16.f k a0 = some true
end Go.Proofs.Ythjeegnmmeifbaa.SaysFnExactSum16
