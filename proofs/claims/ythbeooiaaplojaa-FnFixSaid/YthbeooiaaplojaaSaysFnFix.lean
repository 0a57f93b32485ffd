/- The plain statement of FnFix, over its printed function. -/
import Derived.Test.YthbeooiaaplojaaQFnFixx3
import Derived.Test.YthbeooiaaplojaaOpen
namespace Go.Proofs.Ythbeooiaaplojaa.SaysFnFix
open Go.RowKit Go.Proofs.Ythbeooiaaplojaa.QFnFix Go.Proofs.YthbeooiaaplojaaW.PrintWords Go.Proofs.Ythbeooiaaplojaa.Open
set_option linter.unusedVariables false
def Says : Prop := ∀ (a0 : List (Int)) (a1 : List (Int)), (a0.length ≤ maxLen ∧ ∀ y0 ∈ a0, (Lit.int .u8 y0).wf = true) → (a1.length ≤ maxLen ∧ ∀ y0 ∈ a1, (Lit.int .u8 y0).wf = true) → ∃ k, laws_FnFix.f k a0 a1 = some true
end Go.Proofs.Ythbeooiaaplojaa.SaysFnFix
