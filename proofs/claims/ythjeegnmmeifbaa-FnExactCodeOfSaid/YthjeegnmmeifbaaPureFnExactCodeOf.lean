/- The program's CodeOf answers what the reference's answers, for every text; no condition. -/
import Derived.Test.YthjeegnmmeifbaaPFnExactCodeOfx1
import Derived.Test.YthjeegnmmeifbaaAid
namespace Go.Proofs.Ythjeegnmmeifbaa.Pure
open Go.RowKit Go.Proofs.Ythjeegnmmeifbaa.PFnExactCodeOf Go.Proofs.YthjeegnmmeifbaaW.PrintWords Go.Proofs.YthjeegnmmeifbaaW.PrintLast Go.Proofs.Ythjeegnmmeifbaa.Aid

theorem codeWord_same (a : Int) : ∃ r, spec_CodeWord.f a = some r ∧ impl_CodeWord.f a = some r := by
  unfold spec_CodeWord.f impl_CodeWord.f
  simp only [Option.bind_some]
  by_cases h1 : a < 0
  · simp only [if_pos h1]
    exact ⟨_, rfl, rfl⟩
  · simp only [if_neg h1]
    split
    · exact ⟨_, rfl, rfl⟩
    · rename_i h2
      simp only [if_pos (Int.not_lt.1 h1), if_pos (Int.not_le.1 h2)]
      exact ⟨_, rfl, rfl⟩

theorem codeWord_ne (a : Int) (h0 : 0 ≤ a) (h1 : a ≤ 15) : ∃ r, impl_CodeWord.f a = some r ∧ r.toList ≠ [] := by
  obtain h | h | h | h | h | h | h | h | h | h | h | h | h | h | h | h : a = 0 ∨ a = 1 ∨ a = 2 ∨ a = 3 ∨ a = 4 ∨ a = 5 ∨ a = 6 ∨ a = 7 ∨ a = 8 ∨ a = 9 ∨ a = 10 ∨ a = 11 ∨ a = 12 ∨ a = 13 ∨ a = 14 ∨ a = 15 := by omega
  all_goals
    subst h
    refine ⟨_, rfl, ?_⟩
    decide +kernel

/-- Both loops, from a code on. -/
theorem codeOf_loops (s : ByteArray) (d : Nat) : ∀ i : Int, 0 ≤ i → i = 16 - d → ∃ r, Ev (fun k => spec_CodeOf.l0 k s i) r ∧ Ev (fun k => impl_CodeOf.l0 k s i) r ∧ (s.toList = [] → r = -1) := by
  induction d with
  | zero =>
    intro i h0 hi
    refine ⟨-1, ?_, ?_, fun _ => rfl⟩
    · apply ev_succ
      simp only [spec_CodeOf.l0]
      exact ev_neg (by omega) (Ev.now _)
    · apply ev_succ
      simp only [impl_CodeOf.l0]
      exact ev_neg (by omega) (Ev.now _)
  | succ d ih =>
    intro i h0 hi
    have hw : wrap64 (i + 1) = i + 1 := wrap64_in (by omega) (by omega)
    obtain ⟨r, h1, h2⟩ := codeWord_same i
    obtain ⟨r', h3, hne⟩ := codeWord_ne i (by omega) (by omega)
    obtain rfl : r = r' := Option.some.inj (h2.symm.trans h3)
    by_cases e : r.toList = s.toList
    · refine ⟨i, ?_, ?_, fun hs => absurd (e.trans hs) hne⟩
      · apply ev_succ
        simp only [spec_CodeOf.l0]
        exact ev_pos (by omega) (ev_bindc h1 (ev_pos e (Ev.now _)))
      · apply ev_succ
        simp only [impl_CodeOf.l0]
        exact ev_pos (by omega) (ev_bindc h2 (ev_pos e (Ev.now _)))
    · obtain ⟨q, g1, g2, g3⟩ := ih (i + 1) (by omega) (by omega)
      refine ⟨q, ?_, ?_, g3⟩
      · apply ev_succ
        simp only [spec_CodeOf.l0]
        refine ev_pos (by omega) (ev_bindc h1 (ev_neg e ?_))
        rw [hw]
        exact g1
      · apply ev_succ
        simp only [impl_CodeOf.l0]
        refine ev_pos (by omega) (ev_bindc h2 (ev_neg e ?_))
        rw [hw]
        exact g2

theorem FnExactCodeOf : laws_FnExactCodeOf.Pure := by
  intro s hs
  refine Ev.rounds (g := fun k => laws_FnExactCodeOf.f k s) ?_
  unfold laws_FnExactCodeOf.f
  refine ev_ite (fun _ => Ev.now _) (fun _ => ?_)
  obtain ⟨r, h1, h2, h3⟩ := codeOf_loops s 16 0 (by omega) (by omega)
  refine Ev.bind (a := r) h1 (Ev.bind (a := r) ?_ (ev_pos rfl (Ev.now _)))
  unfold impl_CodeOf.f
  refine ev_ite (fun e => ?_) (fun _ => h2)
  rw [h3 e]
  exact Ev.now _

end Go.Proofs.Ythjeegnmmeifbaa.Pure
