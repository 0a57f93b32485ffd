/- The plain statement of FnErrors. -/
import Derived.Test.YtepfpdaehcmblaaER
namespace Go.Proofs.Ytepfpdaehcmblaa.SaysFnErrors
open Go Go.B Go.Proofs.Ytepfpdaehcmblaa.B
set_option linter.unusedVariables false
def Says : Prop := ∀ (a0 : List Int) (a1 : List Int), (a0.length ≤ maxLen ∧ ∀ y0 ∈ a0, (Lit.int .u8 y0).wf = true) → (a1.length ≤ maxLen ∧ ∀ y0 ∈ a1, (Lit.int .u8 y0).wf = true) → ∃ k, f7 k a0 a1 = some true
end Go.Proofs.Ytepfpdaehcmblaa.SaysFnErrors
