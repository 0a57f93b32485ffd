/- The plain statement of FnExactReadLink, over its printed function. -/
import Derived.Test.YthjeegnmmeifbaaQFnExactReadLinkx2
import Derived.Test.YthjeegnmmeifbaaOpen
namespace Go.Proofs.Ythjeegnmmeifbaa.SaysFnExactReadLink
open Go.RowKit Go.Proofs.Ythjeegnmmeifbaa.QFnExactReadLink Go.Proofs.YthjeegnmmeifbaaW.PrintWords Go.Proofs.Ythjeegnmmeifbaa.Open
set_option linter.unusedVariables false
def Says : Prop := ∀ (a0 : ByteArray), a0.size ≤ maxLen → ∃ k, laws_FnExactReadLink.f k a0 = some true
end Go.Proofs.Ythjeegnmmeifbaa.SaysFnExactReadLink
