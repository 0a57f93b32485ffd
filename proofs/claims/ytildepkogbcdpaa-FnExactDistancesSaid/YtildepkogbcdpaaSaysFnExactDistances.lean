/- The plain statement of FnExactDistances. -/
import Derived.Test.YtildepkogbcdpaaDI
namespace Go.Proofs.Ytildepkogbcdpaa.SaysFnExactDistances
open Go Go.B Go.Proofs.Ytildepkogbcdpaa.B
set_option linter.unusedVariables false
def OK195 (x : S195) : Prop := ((Lit.int .i64 x.f0).wf = true ∧ (Lit.int .i64 x.f1).wf = true ∧ (Lit.int .i64 x.f2).wf = true ∧ True)
def OK225 (x : S225) : Prop := ((Lit.int .i64 x.f0).wf = true ∧ (Lit.int .i64 x.f1).wf = true ∧ (Lit.int .i64 x.f2).wf = true)
def Says : Prop := ∀ (a0_0 : List S195) (a0_1 : List (List S225)) (a0_2 : Int), (a0_0.length ≤ maxLen ∧ ∀ y0 ∈ a0_0, OK195 y0) → (a0_1.length ≤ maxLen ∧ ∀ y0 ∈ a0_1, (y0.length ≤ maxLen ∧ ∀ y1 ∈ y0, OK225 y1)) → (Lit.int .i64 a0_2).wf = true → ∃ k, f13 k a0_0 a0_1 a0_2 = some true
end Go.Proofs.Ytildepkogbcdpaa.SaysFnExactDistances
