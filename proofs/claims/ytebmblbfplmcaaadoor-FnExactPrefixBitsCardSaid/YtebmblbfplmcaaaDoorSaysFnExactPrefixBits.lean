/- The plain statement of FnExactPrefixBits. -/
import Derived.Test.YtebmblbfplmcaaaDoorRA
namespace Go.Proofs.YtebmblbfplmcaaaDoor.SaysFnExactPrefixBits
open Go Go.B Go.Proofs.YtebmblbfplmcaaaDoor.B
set_option linter.unusedVariables false
def Says : Prop := ∀ (a0 : ByteArray), a0.size ≤ maxLen → ∃ k, f4 k a0 = some true
end Go.Proofs.YtebmblbfplmcaaaDoor.SaysFnExactPrefixBits
