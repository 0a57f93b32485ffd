/- The program's FixSum answers what the reference's answers, for all ints; no condition. -/
import Derived.Test.YthjeegnmmeifbaaPFnExactFixSumx1
import Derived.Test.YthjeegnmmeifbaaAid
namespace Go.Proofs.Ythjeegnmmeifbaa.Pure
open Go.RowKit Go.Proofs.Ythjeegnmmeifbaa.PFnExactFixSum Go.Proofs.YthjeegnmmeifbaaW.PrintWords Go.Proofs.YthjeegnmmeifbaaW.PrintLast Go.Proofs.Ythjeegnmmeifbaa.Aid

theorem spec_in (a b c : Int) : spec_l01In.f a b c = some (decide (b ≤ a ∧ a ≤ c)) := by
  unfold spec_l01In.f
  split <;> simp <;> omega
theorem impl_in (a b c : Int) : impl_inRange.f a b c = some (decide (b ≤ a ∧ a ≤ c)) := by
  unfold impl_inRange.f
  split <;> simp <;> omega

theorem loops (d : Nat) : ∀ n : Int, 0 ≤ n → n ≤ 1000000 → n ≤ d → ∃ r, Ev (fun k => spec_FixSum.l0 k n) r ∧ Ev (fun k => impl_FixSum.l0 k n) r := by
  induction d with
  | zero =>
    intro n h0 h1 h2
    refine ⟨(wrap64 (65535 - n), 0), ?_, ?_⟩
    · apply ev_succ
      simp only [spec_FixSum.l0]
      exact ev_neg (by omega) (Ev.now _)
    · apply ev_succ
      simp only [impl_FixSum.l0]
      exact ev_neg (by omega) (Ev.now _)
  | succ d ih =>
    intro n h0 h1 h2
    by_cases hn : n > 65535
    · have e1 : wrap64 ((Int.tmod n 65536) + (wrap64 (Int.tdiv n 65536))) = n % 65536 + n / 65536 := by
        rw [Int.tmod_eq_emod_of_nonneg h0, Int.tdiv_eq_ediv_of_nonneg h0]
        unfold wrap64
        omega
      have e2 : wrap64 ((Go.bits .and .i64 n 65535) + (n / 65536)) = n % 65536 + n / 65536 := by
        rw [and_65535 h0 (by omega)]
        unfold wrap64
        omega
      obtain ⟨r, g1, g2⟩ := ih (n % 65536 + n / 65536) (by omega) (by omega) (by omega)
      refine ⟨r, ?_, ?_⟩
      · apply ev_succ
        simp only [spec_FixSum.l0]
        refine ev_pos hn ?_
        rw [e1]
        exact g1
      · apply ev_succ
        simp only [impl_FixSum.l0]
        refine ev_pos hn ?_
        rw [e2]
        exact g2
    · refine ⟨(wrap64 (65535 - n), 0), ?_, ?_⟩
      · apply ev_succ
        simp only [spec_FixSum.l0]
        exact ev_neg (by omega) (Ev.now _)
      · apply ev_succ
        simp only [impl_FixSum.l0]
        exact ev_neg (by omega) (Ev.now _)

theorem j0_yes (a b c : Int) : Ev (fun k => spec_FixSum.j0 k a b c true) (0, 4) ∧ Ev (fun k => impl_FixSum.j0 k a b c true) (0, 4) := by
  constructor
  · apply ev_succ
    simp only [spec_FixSum.j0, if_true]
    exact Ev.now _
  · apply ev_succ
    simp only [impl_FixSum.j0, if_true]
    exact Ev.now _

theorem same (a b c : Int) : ∃ r, Ev (fun k => spec_FixSum.f k a b c) r ∧ Ev (fun k => impl_FixSum.f k a b c) r := by
  unfold spec_FixSum.f impl_FixSum.f
  simp only [spec_in, impl_in, Option.bind_some]
  by_cases ha : 0 ≤ a ∧ a ≤ 65535
  · by_cases hb : 0 ≤ b ∧ b ≤ 65535
    · by_cases hc : 0 ≤ c ∧ c ≤ 65535
      · simp only [ha, hb, hc, and_self, decide_true, if_true, Bool.not_true]
        have e : (wrap64 ((wrap64 ((wrap64 ((wrap64 (65535 - a)) + 65535)) - b)) + c)) = 65535 - a + 65535 - b + c := by
          unfold wrap64
          omega
        obtain ⟨r, g1, g2⟩ := loops 1000000 (65535 - a + 65535 - b + c) (by omega) (by omega) (by omega)
        refine ⟨r, ?_, ?_⟩
        · apply ev_succ
          simp only [spec_FixSum.j0, Bool.false_eq_true, if_false, e]
          exact g1
        · apply ev_succ
          simp only [impl_FixSum.j0, Bool.false_eq_true, if_false, e]
          exact g2
      · simp only [ha, hb, hc, and_self, decide_true, decide_false, if_true, Bool.not_false]
        exact ⟨_, j0_yes a b c⟩
    · simp only [ha, hb, and_self, decide_true, decide_false, if_true, Bool.false_eq_true, if_false]
      exact ⟨_, j0_yes a b c⟩
  · simp only [ha, decide_false, Bool.false_eq_true, if_false]
    exact ⟨_, j0_yes a b c⟩

theorem FnExactFixSum : laws_FnExactFixSum.Pure := by
  intro a b c _ _ _
  refine Ev.rounds (g := fun k => laws_FnExactFixSum.f k a b c) ?_
  unfold laws_FnExactFixSum.f
  obtain ⟨r, g1, g2⟩ := same a b c
  exact Ev.bind g1 (Ev.bind g2 (ev_pos rfl (ev_pos rfl (Ev.now _))))

end Go.Proofs.Ythjeegnmmeifbaa.Pure
