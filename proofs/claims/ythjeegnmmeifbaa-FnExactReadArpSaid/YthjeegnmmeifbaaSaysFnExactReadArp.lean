/- The plain statement of FnExactReadArp, over its printed function. -/
import Derived.Test.YthjeegnmmeifbaaQFnExactReadArpx3
import Derived.Test.YthjeegnmmeifbaaOpen
namespace Go.Proofs.Ythjeegnmmeifbaa.SaysFnExactReadArp
open Go.RowKit Go.Proofs.Ythjeegnmmeifbaa.QFnExactReadArp Go.Proofs.YthjeegnmmeifbaaW.PrintWords Go.Proofs.Ythjeegnmmeifbaa.Open
set_option linter.unusedVariables false
def Says : Prop := ∀ (a0 : List (Int)), (a0.length ≤ maxLen ∧ ∀ y0 ∈ a0, (Lit.int .u8 y0).wf = true) → ∃ k, laws_FnExactReadArp.f k a0 = some true
end Go.Proofs.Ythjeegnmmeifbaa.SaysFnExactReadArp
