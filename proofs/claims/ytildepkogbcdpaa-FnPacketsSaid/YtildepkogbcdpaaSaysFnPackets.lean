/- The plain statement of FnPackets. -/
import Derived.Test.YtildepkogbcdpaaPK
namespace Go.Proofs.Ytildepkogbcdpaa.SaysFnPackets
open Go Go.B Go.Proofs.Ytildepkogbcdpaa.B
set_option linter.unusedVariables false
def Says : Prop := ∀ (a0 : List Int), (a0.length ≤ maxLen ∧ ∀ y0 ∈ a0, (Lit.int .u8 y0).wf = true) → ∃ k, f9 k a0 = some true
end Go.Proofs.Ytildepkogbcdpaa.SaysFnPackets
