/- The plain statement of FnExactFragment. -/
import Derived.Test.YtildepkogbcdpaaFR
namespace Go.Proofs.Ytildepkogbcdpaa.SaysFnExactFragment
open Go Go.B Go.Proofs.Ytildepkogbcdpaa.B
set_option linter.unusedVariables false
def Says : Prop := ∀ (a0_0 : Int) (a0_1 : ByteArray) (a0_2 : ByteArray) (a0_3 : Int) (a0_4 : Int) (a0_5 : Int) (a0_6 : Int) (a0_7 : Bool) (a0_8 : Bool) (a0_9 : List Int) (a1 : Int), (Lit.int .i64 a0_0).wf = true → a0_1.size ≤ maxLen → a0_2.size ≤ maxLen → (Lit.int .i64 a0_3).wf = true → (Lit.int .i64 a0_4).wf = true → (Lit.int .i64 a0_5).wf = true → (Lit.int .i64 a0_6).wf = true → True → True → (a0_9.length ≤ maxLen ∧ ∀ y0 ∈ a0_9, (Lit.int .u8 y0).wf = true) → (Lit.int .i64 a1).wf = true → ∃ k, f10 k a0_0 a0_1 a0_2 a0_3 a0_4 a0_5 a0_6 a0_7 a0_8 a0_9 a1 = some true
end Go.Proofs.Ytildepkogbcdpaa.SaysFnExactFragment
