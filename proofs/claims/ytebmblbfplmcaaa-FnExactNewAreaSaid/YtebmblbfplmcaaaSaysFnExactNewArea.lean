/- The plain statement of FnExactNewArea. -/
import Derived.Test.YtebmblbfplmcaaaNA
namespace Go.Proofs.Ytebmblbfplmcaaa.SaysFnExactNewArea
open Go Go.B Go.Proofs.Ytebmblbfplmcaaa.B
set_option linter.unusedVariables false
def OK100 (x : S100) : Prop := ((Lit.int .i64 x.f0).wf = true ∧ (Lit.int .i64 x.f1).wf = true ∧ (Lit.int .i64 x.f2).wf = true ∧ True)
def Says : Prop := ∀ (a0 : Int) (a1 : List S100), (Lit.int .i64 a0).wf = true → (a1.length ≤ maxLen ∧ ∀ y0 ∈ a1, OK100 y0) → ∃ k, f5 k a0 a1 = some true
end Go.Proofs.Ytebmblbfplmcaaa.SaysFnExactNewArea
