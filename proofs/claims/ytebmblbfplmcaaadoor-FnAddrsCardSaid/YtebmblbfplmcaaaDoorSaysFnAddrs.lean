/- The plain statement of FnAddrs. -/
import Derived.Test.YtebmblbfplmcaaaDoorAD
namespace Go.Proofs.YtebmblbfplmcaaaDoor.SaysFnAddrs
open Go Go.B Go.Proofs.YtebmblbfplmcaaaDoor.B
set_option linter.unusedVariables false
def Says : Prop := ∀ (a0 : List Int), (a0.length ≤ maxLen ∧ ∀ y0 ∈ a0, (Lit.int .u8 y0).wf = true) → ∃ k, f5 k a0 = some true
end Go.Proofs.YtebmblbfplmcaaaDoor.SaysFnAddrs
