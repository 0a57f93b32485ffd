/- The plain statement of FnExactCacheOK, over its printed function. -/
import Derived.Test.YtblmghlopolknaaQFnExactCacheOKx6
import Derived.Test.YtblmghlopolknaaOpen
namespace Go.Proofs.Ytblmghlopolknaa.SaysFnExactCacheOK
open Go.RowKit Go.Proofs.Ytblmghlopolknaa.QFnExactCacheOK Go.Proofs.YtblmghlopolknaaW.PrintWords Go.Proofs.Ytblmghlopolknaa.Open
set_option linter.unusedVariables false
def OK165 (x : S165) : Prop := x.f0.size ≤ maxLen ∧ x.f1.size ≤ maxLen ∧ (Lit.int .i64 x.f2).wf = true ∧ (Lit.int .i64 x.f3).wf = true ∧ (Lit.int .i64 x.f4).wf = true ∧ (x.f5.length ≤ maxLen ∧ ∀ y0 ∈ x.f5, (Lit.int .i64 y0).wf = true)
def Says : Prop := ∀ (a0_0 : Int) (a0_1 : List (S165)), (Lit.int .i64 a0_0).wf = true → (a0_1.length ≤ maxLen ∧ ∀ y0 ∈ a0_1, OK165 y0) → ∃ k, laws_FnExactCacheOK.f k a0_0 a0_1 = some true
end Go.Proofs.Ytblmghlopolknaa.SaysFnExactCacheOK
