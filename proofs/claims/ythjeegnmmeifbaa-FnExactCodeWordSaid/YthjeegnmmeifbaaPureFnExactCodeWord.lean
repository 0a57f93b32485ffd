/- The program's CodeWord answers what the reference's answers, for every int; no condition. -/
import Derived.Test.YthjeegnmmeifbaaPFnExactCodeWordx1
import Derived.Test.YthjeegnmmeifbaaAid
namespace Go.Proofs.Ythjeegnmmeifbaa.Pure
open Go.RowKit Go.Proofs.Ythjeegnmmeifbaa.PFnExactCodeWord Go.Proofs.YthjeegnmmeifbaaW.PrintWords Go.Proofs.YthjeegnmmeifbaaW.PrintLast Go.Proofs.Ythjeegnmmeifbaa.Aid

theorem codeWord_same (a : Int) : ∃ r, spec_CodeWord.f a = some r ∧ impl_CodeWord.f a = some r := by
  unfold spec_CodeWord.f impl_CodeWord.f
  simp only [Option.bind_some]
  by_cases h1 : a < 0
  · simp only [if_pos h1]
    exact ⟨_, rfl, rfl⟩
  · simp only [if_neg h1]
    split
    · exact ⟨_, rfl, rfl⟩
    · rename_i h2
      simp only [if_pos (Int.not_lt.1 h1), if_pos (Int.not_le.1 h2)]
      exact ⟨_, rfl, rfl⟩

theorem FnExactCodeWord : laws_FnExactCodeWord.Pure := by
  intro a _
  obtain ⟨r, h1, h2⟩ := codeWord_same a
  unfold laws_FnExactCodeWord.f
  rw [h1, h2]
  simp only [Option.bind_some, if_true]

end Go.Proofs.Ythjeegnmmeifbaa.Pure
