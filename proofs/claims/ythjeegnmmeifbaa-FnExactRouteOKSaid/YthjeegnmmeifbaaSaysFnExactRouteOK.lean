/- The plain statement of FnExactRouteOK, over its printed function. -/
import Derived.Test.YthjeegnmmeifbaaPFnExactRouteOKx1
import Derived.Test.YthjeegnmmeifbaaOpen
namespace Go.Proofs.Ythjeegnmmeifbaa.SaysFnExactRouteOK
open Go.RowKit Go.Proofs.Ythjeegnmmeifbaa.PFnExactRouteOK Go.Proofs.YthjeegnmmeifbaaW.PrintWords Go.Proofs.Ythjeegnmmeifbaa.Open
set_option linter.unusedVariables false
def Says : Prop := ∀ (a0_0 : ByteArray) (a0_1 : Int) (a0_2 : Int), a0_0.size ≤ maxLen → (Lit.int .i64 a0_1).wf = true → (Lit.int .i64 a0_2).wf = true → ∃ k, laws_FnExactRouteOK.f k a0_0 a0_1 a0_2 = some true
end Go.Proofs.Ythjeegnmmeifbaa.SaysFnExactRouteOK
