/- The plain statement of FnExactNodeOK, over its printed function. -/
import Derived.Test.YthknoffionodmaaQFnExactNodeOKx19
import Derived.Test.YthknoffionodmaaOpen
namespace Go.Proofs.Ythknoffionodmaa.SaysFnExactNodeOK
open Go.RowKit Go.Proofs.Ythknoffionodmaa.QFnExactNodeOK Go.Proofs.YthknoffionodmaaV.PrintWords Go.Proofs.Ythknoffionodmaa.Open
set_option linter.unusedVariables false
def OK85 (x : S85) : Prop := ∀ Q : S85 → Prop, (∀ z : S85, z.f0.size ≤ maxLen → True → (Lit.int .i64 z.f2).wf = true → (Lit.int .i64 z.f3).wf = true → (z.f4.length ≤ maxLen ∧ ∀ y0 ∈ z.f4, Q y0) → Q z) → Q x
theorem OK85.mk {z : S85} (h : z.f0.size ≤ maxLen ∧ True ∧ (Lit.int .i64 z.f2).wf = true ∧ (Lit.int .i64 z.f3).wf = true ∧ (z.f4.length ≤ maxLen ∧ ∀ y0 ∈ z.f4, OK85 y0)) : OK85 z := by
  intro Q hQ
  obtain ⟨h0, h1, h2, h3, h4⟩ := h
  exact hQ z h0 h1 h2 h3 ⟨h4.1, fun y hy => h4.2 y hy Q hQ⟩
theorem OK85.cases {z : S85} (h : OK85 z) : z.f0.size ≤ maxLen ∧ True ∧ (Lit.int .i64 z.f2).wf = true ∧ (Lit.int .i64 z.f3).wf = true ∧ (z.f4.length ≤ maxLen ∧ ∀ y0 ∈ z.f4, OK85 y0) := by
  exact (h (fun z => OK85 z ∧ (z.f0.size ≤ maxLen ∧ True ∧ (Lit.int .i64 z.f2).wf = true ∧ (Lit.int .i64 z.f3).wf = true ∧ (z.f4.length ≤ maxLen ∧ ∀ y0 ∈ z.f4, OK85 y0))) (fun z h0 h1 h2 h3 h4 => by
    have hh : z.f0.size ≤ maxLen ∧ True ∧ (Lit.int .i64 z.f2).wf = true ∧ (Lit.int .i64 z.f3).wf = true ∧ (z.f4.length ≤ maxLen ∧ ∀ y0 ∈ z.f4, OK85 y0) := ⟨h0, h1, h2, h3, h4.1, fun y hy => (h4.2 y hy).1⟩
    exact ⟨OK85.mk hh, hh⟩)).2
def Says : Prop := ∀ (a0_0 : S85) (a0_1 : S85) (a0_2 : List (ByteArray)) (a0_3 : List (Int)), OK85 a0_0 → OK85 a0_1 → (a0_2.length ≤ maxLen ∧ ∀ y0 ∈ a0_2, y0.size ≤ maxLen) → (a0_3.length ≤ maxLen ∧ ∀ y0 ∈ a0_3, (Lit.int .i64 y0).wf = true) → ∃ k, laws_FnExactNodeOK.f k a0_0.f0 a0_0.f1 a0_0.f2 a0_0.f3 a0_0.f4 a0_1.f0 a0_1.f1 a0_1.f2 a0_1.f3 a0_1.f4 a0_2 a0_3 = some true
end Go.Proofs.Ythknoffionodmaa.SaysFnExactNodeOK
