/- The plain statement of FnExactQueuesOK. -/
import Derived.Test.YtildepkogbcdpaaFQ
namespace Go.Proofs.Ytildepkogbcdpaa.SaysFnExactQueuesOK
open Go Go.B Go.Proofs.Ytildepkogbcdpaa.B
set_option linter.unusedVariables false
def OK242 (x : S242) : Prop := ((Lit.int .i64 x.f0).wf = true ∧ (Lit.int .i64 x.f1).wf = true)
def OK189 (x : S189) : Prop := ((Lit.int .i64 x.f0).wf = true ∧ (Lit.int .i64 x.f1).wf = true ∧ (x.f2.length ≤ maxLen ∧ ∀ y0 ∈ x.f2, OK242 y0) ∧ (Lit.int .i64 x.f3).wf = true ∧ (Lit.int .i64 x.f4).wf = true ∧ (Lit.int .i64 x.f5).wf = true)
def Says : Prop := ∀ (a0_0 : List S189) (a0_1 : List Int) (a0_2 : Bool), (a0_0.length ≤ maxLen ∧ ∀ y0 ∈ a0_0, OK189 y0) → (a0_1.length ≤ maxLen ∧ ∀ y0 ∈ a0_1, (Lit.int .i64 y0).wf = true) → True → ∃ k, f6 k a0_0 a0_1 a0_2 = some true
end Go.Proofs.Ytildepkogbcdpaa.SaysFnExactQueuesOK
