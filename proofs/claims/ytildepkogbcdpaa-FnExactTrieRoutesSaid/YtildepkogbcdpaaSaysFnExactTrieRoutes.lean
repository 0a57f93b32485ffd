/- The plain statement of FnExactTrieRoutes. -/
import Derived.Test.YtildepkogbcdpaaTR
namespace Go.Proofs.Ytildepkogbcdpaa.SaysFnExactTrieRoutes
open Go Go.B Go.Proofs.Ytildepkogbcdpaa.B
set_option linter.unusedVariables false
inductive OK72 : S72 → Prop
  | mk {x : S72} (_h0 : x.f0.size ≤ maxLen) (_h1 : True) (_h2 : (Lit.int .i64 x.f2).wf = true) (_h3 : (Lit.int .i64 x.f3).wf = true) (_h4 : x.f4.length ≤ maxLen) (_h5 : ∀ y ∈ x.f4, OK72 y) : OK72 x
def Says : Prop := ∀ (a0_0 : ByteArray) (a0_1 : Bool) (a0_2 : Int) (a0_3 : Int) (a0_4 : List S72), a0_0.size ≤ maxLen → True → (Lit.int .i64 a0_2).wf = true → (Lit.int .i64 a0_3).wf = true → (a0_4.length ≤ maxLen ∧ ∀ y0 ∈ a0_4, OK72 y0) → ∃ k, f8 k a0_0 a0_1 a0_2 a0_3 a0_4 = some true
end Go.Proofs.Ytildepkogbcdpaa.SaysFnExactTrieRoutes
