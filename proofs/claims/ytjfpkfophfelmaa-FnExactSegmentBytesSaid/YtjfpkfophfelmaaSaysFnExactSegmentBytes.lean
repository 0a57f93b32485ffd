/- The plain statement of FnExactSegmentBytes, over its printed function. -/
import Derived.Test.YtjfpkfophfelmaaQFnExactSegmentBytesx4
import Derived.Test.YtjfpkfophfelmaaOpen
namespace Go.Proofs.Ytjfpkfophfelmaa.SaysFnExactSegmentBytes
open Go.RowKit Go.Proofs.Ytjfpkfophfelmaa.QFnExactSegmentBytes Go.Proofs.YtjfpkfophfelmaaV.PrintWords Go.Proofs.Ytjfpkfophfelmaa.Open
set_option linter.unusedVariables false
def Says : Prop := ∀ (a0_0 : Int) (a0_1 : ByteArray) (a0_2 : Bool), (Lit.int .i64 a0_0).wf = true → a0_1.size ≤ maxLen → True → ∃ k, laws_FnExactSegmentBytes.f k a0_0 a0_1 a0_2 = some true
end Go.Proofs.Ytjfpkfophfelmaa.SaysFnExactSegmentBytes
