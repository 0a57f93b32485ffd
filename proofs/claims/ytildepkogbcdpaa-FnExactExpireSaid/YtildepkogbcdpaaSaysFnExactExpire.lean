/- The plain statement of FnExactExpire. -/
import Derived.Test.YtildepkogbcdpaaEX
namespace Go.Proofs.Ytildepkogbcdpaa.SaysFnExactExpire
open Go Go.B Go.Proofs.Ytildepkogbcdpaa.B
set_option linter.unusedVariables false
def OK238 (x : S238) : Prop := ((Lit.int .i64 x.f0).wf = true ∧ True ∧ (x.f2.length ≤ maxLen ∧ ∀ y0 ∈ x.f2, (Lit.int .u8 y0).wf = true))
def OK176 (x : S176) : Prop := (x.f0.size ≤ maxLen ∧ x.f1.size ≤ maxLen ∧ (Lit.int .i64 x.f2).wf = true ∧ (Lit.int .i64 x.f3).wf = true ∧ (Lit.int .i64 x.f4).wf = true ∧ (x.f5.length ≤ maxLen ∧ ∀ y0 ∈ x.f5, OK238 y0))
def Says : Prop := ∀ (a0 : List S176) (a1 : Int), (a0.length ≤ maxLen ∧ ∀ y0 ∈ a0, OK176 y0) → (Lit.int .i64 a1).wf = true → ∃ k, f14 k a0 a1 = some true
end Go.Proofs.Ytildepkogbcdpaa.SaysFnExactExpire
