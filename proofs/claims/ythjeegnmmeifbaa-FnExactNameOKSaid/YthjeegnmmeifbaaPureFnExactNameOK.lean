/- The program's NameOK answers what the reference's answers, for every text; no condition. -/
import Derived.Test.YthjeegnmmeifbaaPFnExactNameOKx2
import Derived.Test.YthjeegnmmeifbaaAid
namespace Go.Proofs.Ythjeegnmmeifbaa.Pure
open Go.RowKit Go.Proofs.Ythjeegnmmeifbaa.PFnExactNameOK Go.Proofs.YthjeegnmmeifbaaW.PrintWords Go.Proofs.YthjeegnmmeifbaaW.PrintLast Go.Proofs.Ythjeegnmmeifbaa.Aid

/-- A letter, or the low line. -/
def letter (c : Int) : Bool := (decide (97 ≤ c) && decide (c ≤ 122)) || (decide (65 ≤ c) && decide (c ≤ 90)) || c == 95
def digit (c : Int) : Bool := decide (48 ≤ c) && decide (c ≤ 57)

theorem spec_letter (c : Int) : spec_l00Letter.f c = some (letter c) := by
  unfold spec_l00Letter.f letter
  repeat' split
  all_goals (simp_all <;> omega)
theorem spec_digit (c : Int) : spec_l00Digit.f c = some (digit c) := by
  unfold spec_l00Digit.f digit
  split <;> simp_all <;> omega
theorem impl_byte (c : Int) (b : Bool) : impl_nameByte.f c b = some (letter c || (!b && digit c)) := by
  unfold impl_nameByte.f letter digit
  repeat' split
  all_goals (simp_all <;> omega)

theorem loops (s : ByteArray) (hs : s.size ≤ 140737488351232) (d : Nat) : ∀ i : Int, 1 ≤ i → i = s.size - d → ∃ r, Ev (fun k => spec_l00Word.l0 k s i) r ∧ Ev (fun k => impl_NameOK.l0 k s i) r := by
  induction d with
  | zero =>
    intro i h0 hi
    refine ⟨true, ?_, ?_⟩
    · apply ev_succ
      simp only [spec_l00Word.l0]
      exact ev_neg (by omega) (Ev.now _)
    · apply ev_succ
      simp only [impl_NameOK.l0]
      exact ev_neg (by omega) (Ev.now _)
  | succ d ih =>
    intro i h0 hi
    have hw : wrap64 (i + 1) = i + 1 := wrap64_in (by omega) (by omega)
    have hf : (i == 0) = false := beq_eq_false_iff_ne.2 (by omega)
    obtain ⟨r, g1, g2⟩ := ih (i + 1) (by omega) (by omega)
    by_cases hl : letter (bt s i) = true
    · refine ⟨r, ?_, ?_⟩
      · apply ev_succ
        simp only [spec_l00Word.l0, spec_letter, Option.bind_some, hl, if_true, hw]
        exact ev_pos (by omega) (ev_pos (by omega) g1)
      · apply ev_succ
        simp only [impl_NameOK.l0, impl_byte, Option.bind_some, hl, Bool.true_or, if_true, hw]
        exact ev_pos (by omega) (ev_pos (by omega) g2)
    · by_cases hd : digit (bt s i) = true
      · refine ⟨r, ?_, ?_⟩
        · apply ev_succ
          simp only [spec_l00Word.l0, spec_letter, spec_digit, Option.bind_some, hl, if_false, hd, if_true, hw, Bool.false_eq_true]
          exact ev_pos (by omega) (ev_pos (by omega) g1)
        · apply ev_succ
          simp only [impl_NameOK.l0, impl_byte, Option.bind_some, hl, hf, hd, Bool.not_false, Bool.and_true, Bool.or_true, if_true, hw]
          exact ev_pos (by omega) (ev_pos (by omega) g2)
      · refine ⟨false, ?_, ?_⟩
        · apply ev_succ
          simp only [spec_l00Word.l0, spec_letter, spec_digit, Option.bind_some, hl, if_false, hd, Bool.false_eq_true]
          exact ev_pos (by omega) (ev_pos (by omega) (Ev.now _))
        · apply ev_succ
          simp only [impl_NameOK.l0, impl_byte, Option.bind_some, hl, hf, hd, Bool.and_false, Bool.or_false, if_false, Bool.false_eq_true]
          exact ev_pos (by omega) (ev_pos (by omega) (Ev.now _))

theorem same (s : ByteArray) (hs : s.size ≤ 140737488351232) : ∃ r, Ev (fun k => spec_NameOK.f k s) r ∧ Ev (fun k => impl_NameOK.f k s) r := by
  have j1 : Ev (fun k => spec_l00Word.j0 k s true) false := by
    apply ev_succ
    simp only [spec_l00Word.j0, if_true]
    exact Ev.now _
  have j2 : Ev (fun k => impl_NameOK.j0 k s true) false := by
    apply ev_succ
    simp only [impl_NameOK.j0, if_true]
    exact Ev.now _
  unfold spec_NameOK.f spec_l00Word.f impl_NameOK.f
  simp only [spec_letter, Option.bind_some]
  by_cases h1 : (s.size : Int) < 1
  · exact ⟨false, Ev.bind (ev_pos h1 j1) (Ev.now _), ev_pos h1 j2⟩
  · by_cases h2 : (s.size : Int) > 40
    · refine ⟨false, Ev.bind (ev_neg h1 (ev_pos h2 j1)) (Ev.now _), ev_neg h1 ?_⟩
      simp only [h2, decide_true]
      exact j2
    · by_cases hl : letter (bt s 0) = true
      · obtain ⟨r, g1, g2⟩ := loops s hs (s.size - 1) 1 (by omega) (by omega)
        refine ⟨r, Ev.bind (ev_neg h1 (ev_neg h2 (ev_pos (by omega) ?_))) (Ev.now _), ev_neg h1 ?_⟩
        · apply ev_succ
          simp only [spec_l00Word.j0, hl, Bool.not_true, Bool.false_eq_true, if_false]
          exact g1
        · have e : wrap64 (0 + 1) = 1 := wrap64_in (by omega) (by omega)
          apply ev_succ
          simp only [impl_NameOK.j0, h2, decide_false, Bool.false_eq_true, if_false]
          apply ev_succ
          simp only [impl_NameOK.l0, impl_byte, Option.bind_some, hl, Bool.true_or, if_true, e]
          exact ev_pos (by omega) (ev_pos (by omega) g2)
      · refine ⟨false, Ev.bind (ev_neg h1 (ev_neg h2 (ev_pos (by omega) ?_))) (Ev.now _), ev_neg h1 ?_⟩
        · simp only [hl, Bool.not_false]
          exact j1
        · apply ev_succ
          simp only [impl_NameOK.j0, h2, decide_false, Bool.false_eq_true, if_false]
          apply ev_succ
          simp only [impl_NameOK.l0, impl_byte, Option.bind_some, hl, BEq.rfl, Bool.not_true, Bool.false_and, Bool.or_false, Bool.false_eq_true, if_false]
          exact ev_pos (by omega) (ev_pos (by omega) (Ev.now _))

theorem FnExactNameOK : laws_FnExactNameOK.Pure := by
  intro s hs
  refine Ev.rounds (g := fun k => laws_FnExactNameOK.f k s) ?_
  unfold laws_FnExactNameOK.f
  refine ev_ite (fun _ => Ev.now _) (fun _ => ?_)
  obtain ⟨r, h1, h2⟩ := same s hs
  refine Ev.bind h1 (Ev.bind h2 (ev_neg ?_ (Ev.now _)))
  simp

end Go.Proofs.Ythjeegnmmeifbaa.Pure
