/- The plain statement of FnExactFrameBytes, over its printed function. -/
import Derived.Test.YtjfpkfophfelmaaQFnExactFrameBytesx3
import Derived.Test.YtjfpkfophfelmaaOpen
namespace Go.Proofs.Ytjfpkfophfelmaa.SaysFnExactFrameBytes
open Go.RowKit Go.Proofs.Ytjfpkfophfelmaa.QFnExactFrameBytes Go.Proofs.YtjfpkfophfelmaaV.PrintWords Go.Proofs.Ytjfpkfophfelmaa.Open
set_option linter.unusedVariables false
def Says : Prop := ∀ (a0_0 : ByteArray) (a0_1 : ByteArray) (a0_2 : Int) (a0_3 : List (Int)), a0_0.size ≤ maxLen → a0_1.size ≤ maxLen → (Lit.int .i64 a0_2).wf = true → (a0_3.length ≤ maxLen ∧ ∀ y0 ∈ a0_3, (Lit.int .u8 y0).wf = true) → ∃ k, laws_FnExactFrameBytes.f k a0_0 a0_1 a0_2 a0_3 = some true
end Go.Proofs.Ytjfpkfophfelmaa.SaysFnExactFrameBytes
