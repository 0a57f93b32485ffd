/- The plain statement of FnExactArpBytes, over its printed function. -/
import Derived.Test.YtjfpkfophfelmaaQFnExactArpBytesx2
import Derived.Test.YtjfpkfophfelmaaOpen
namespace Go.Proofs.Ytjfpkfophfelmaa.SaysFnExactArpBytes
open Go.RowKit Go.Proofs.Ytjfpkfophfelmaa.QFnExactArpBytes Go.Proofs.YtjfpkfophfelmaaV.PrintWords Go.Proofs.Ytjfpkfophfelmaa.Open
set_option linter.unusedVariables false
def Says : Prop := ∀ (a0_0 : Bool) (a0_1 : ByteArray) (a0_2 : ByteArray) (a0_3 : ByteArray) (a0_4 : ByteArray), True → a0_1.size ≤ maxLen → a0_2.size ≤ maxLen → a0_3.size ≤ maxLen → a0_4.size ≤ maxLen → ∃ k, laws_FnExactArpBytes.f k a0_0 a0_1 a0_2 a0_3 a0_4 = some true
end Go.Proofs.Ytjfpkfophfelmaa.SaysFnExactArpBytes
