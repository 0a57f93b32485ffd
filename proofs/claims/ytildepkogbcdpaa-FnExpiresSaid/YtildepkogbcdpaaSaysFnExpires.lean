/- The plain statement of FnExpires. -/
import Derived.Test.YtildepkogbcdpaaEP
namespace Go.Proofs.Ytildepkogbcdpaa.SaysFnExpires
open Go Go.B Go.Proofs.Ytildepkogbcdpaa.B
set_option linter.unusedVariables false
def Says : Prop := ∀ (a0 : List Int) (a1 : List Int), (a0.length ≤ maxLen ∧ ∀ y0 ∈ a0, (Lit.int .u8 y0).wf = true) → (a1.length ≤ maxLen ∧ ∀ y0 ∈ a1, (Lit.int .u8 y0).wf = true) → ∃ k, f12 k a0 a1 = some true
end Go.Proofs.Ytildepkogbcdpaa.SaysFnExpires
