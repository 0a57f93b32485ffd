/- The program's SeqBefore answers what the reference's answers, for all ints; no condition. -/
import Derived.Test.YthjeegnmmeifbaaPFnExactSeqBeforex1
import Derived.Test.YthjeegnmmeifbaaAid
namespace Go.Proofs.Ythjeegnmmeifbaa.Pure
open Go.RowKit Go.Proofs.Ythjeegnmmeifbaa.PFnExactSeqBefore Go.Proofs.YthjeegnmmeifbaaW.PrintWords Go.Proofs.YthjeegnmmeifbaaW.PrintLast Go.Proofs.Ythjeegnmmeifbaa.Aid

theorem spec_in (a b c : Int) : spec_l01In.f a b c = some (decide (b ≤ a ∧ a ≤ c)) := by
  unfold spec_l01In.f
  split <;> simp <;> omega
theorem impl_in (a b c : Int) : impl_inRange.f a b c = some (decide (b ≤ a ∧ a ≤ c)) := by
  unfold impl_inRange.f
  split <;> simp <;> omega

theorem FnExactSeqBefore : laws_FnExactSeqBefore.Pure := by
  intro a b _ _
  refine Ev.rounds (g := fun k => laws_FnExactSeqBefore.f k a b) ?_
  unfold laws_FnExactSeqBefore.f spec_SeqBefore.f impl_SeqBefore.f
  simp only [spec_in, impl_in, Option.bind_some]
  by_cases ha : 0 ≤ a ∧ a ≤ 4294967295
  · by_cases hb : 0 ≤ b ∧ b ≤ 4294967295
    · simp only [ha, hb, and_self, decide_true, if_true, Bool.not_true]
      refine Ev.bind (a := (decide (1 ≤ Int.tmod (wrap64 ((wrap64 (b - a)) + 4294967296)) 4294967296 ∧ Int.tmod (wrap64 ((wrap64 (b - a)) + 4294967296)) 4294967296 ≤ 2147483647), 0)) ?_ ?_
      · apply ev_succ
        simp only [spec_SeqBefore.j0, spec_l08Minus.f, spec_in, Option.bind_some, Bool.false_eq_true, if_false]
        exact Ev.now _
      · simp only [bne_self_eq_false, Bool.false_eq_true, if_false, if_true, Option.bind_some]
        exact Ev.now _
    · simp only [ha, hb, and_self, decide_true, decide_false, if_true, Bool.not_false, Bool.false_eq_true, if_false]
      refine Ev.bind (a := (false, 4)) ?_ ?_
      · apply ev_succ
        simp only [spec_SeqBefore.j0, if_true]
        exact Ev.now _
      · simp only [bne_self_eq_false, Bool.false_eq_true, if_false, if_true, Option.bind_some]
        exact Ev.now _
  · simp only [ha, decide_false, Bool.false_eq_true, if_false]
    refine Ev.bind (a := (false, 4)) ?_ ?_
    · apply ev_succ
      simp only [spec_SeqBefore.j0, if_true]
      exact Ev.now _
    · simp only [bne_self_eq_false, Bool.false_eq_true, if_false, if_true, Option.bind_some]
      exact Ev.now _

end Go.Proofs.Ythjeegnmmeifbaa.Pure
