/- The plain statement of FnExactNewQueues. -/
import Derived.Test.YtildepkogbcdpaaNQ
namespace Go.Proofs.Ytildepkogbcdpaa.SaysFnExactNewQueues
open Go Go.B Go.Proofs.Ytildepkogbcdpaa.B
set_option linter.unusedVariables false
def Says : Prop := ∀ (a0 : List Int) (a1 : List Int), (a0.length ≤ maxLen ∧ ∀ y0 ∈ a0, (Lit.int .i64 y0).wf = true) → (a1.length ≤ maxLen ∧ ∀ y0 ∈ a1, (Lit.int .i64 y0).wf = true) → ∃ k, f4 k a0 a1 = some true
end Go.Proofs.Ytildepkogbcdpaa.SaysFnExactNewQueues
