/- The plain statement of FnSums, over its printed function. -/
import Derived.Test.YthjeegnmmeifbaaQFnSumsx2
import Derived.Test.YthjeegnmmeifbaaOpen
namespace Go.Proofs.Ythjeegnmmeifbaa.SaysFnSums
open Go.RowKit Go.Proofs.Ythjeegnmmeifbaa.QFnSums Go.Proofs.YthjeegnmmeifbaaW.PrintWords Go.Proofs.Ythjeegnmmeifbaa.Open
set_option linter.unusedVariables false
def Says : Prop := ∀ (a0 : List (Int)) (a1 : List (Int)), (a0.length ≤ maxLen ∧ ∀ y0 ∈ a0, (Lit.int .u8 y0).wf = true) → (a1.length ≤ maxLen ∧ ∀ y0 ∈ a1, (Lit.int .u8 y0).wf = true) → ∃ k, laws_FnSums.f k a0 a1 = some true
end Go.Proofs.Ythjeegnmmeifbaa.SaysFnSums
