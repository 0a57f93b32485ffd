/- The plain statement of FnExactBoxesOK, over its printed function. -/
import Derived.Test.YtjfpkfophfelmaaQFnExactBoxesOKx7
import Derived.Test.YtjfpkfophfelmaaOpen
namespace Go.Proofs.Ytjfpkfophfelmaa.SaysFnExactBoxesOK
open Go.RowKit Go.Proofs.Ytjfpkfophfelmaa.QFnExactBoxesOK Go.Proofs.YtjfpkfophfelmaaV.PrintWords Go.Proofs.Ytjfpkfophfelmaa.Open
set_option linter.unusedVariables false
def OK170 (x : S170) : Prop := (Lit.int .i64 x.f0).wf = true ∧ True ∧ (x.f2.length ≤ maxLen ∧ ∀ y0 ∈ x.f2, (Lit.int .u8 y0).wf = true)
def OK137 (x : S137) : Prop := x.f0.size ≤ maxLen ∧ x.f1.size ≤ maxLen ∧ (Lit.int .i64 x.f2).wf = true ∧ (Lit.int .i64 x.f3).wf = true ∧ (Lit.int .i64 x.f4).wf = true ∧ (x.f5.length ≤ maxLen ∧ ∀ y0 ∈ x.f5, OK170 y0)
def Says : Prop := ∀ (a0 : List (S137)), (a0.length ≤ maxLen ∧ ∀ y0 ∈ a0, OK137 y0) → ∃ k, laws_FnExactBoxesOK.f k a0 = some true
end Go.Proofs.Ytjfpkfophfelmaa.SaysFnExactBoxesOK
