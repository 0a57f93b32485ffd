/- The plain statement of FnDistances. -/
import Derived.Test.YtepfpdaehcmblaaDI
namespace Go.Proofs.Ytepfpdaehcmblaa.SaysFnDistances
open Go Go.B Go.Proofs.Ytepfpdaehcmblaa.B
set_option linter.unusedVariables false
def Says : Prop := ∀ (a0 : List Int), (a0.length ≤ maxLen ∧ ∀ y0 ∈ a0, (Lit.int .u8 y0).wf = true) → ∃ k, f3 k a0 = some true
end Go.Proofs.Ytepfpdaehcmblaa.SaysFnDistances
