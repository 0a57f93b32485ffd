/- The program's RouteOK answers what the reference's answers, for every route; no condition. -/
import Derived.Test.YthjeegnmmeifbaaSaysFnExactRouteOK
import Derived.Test.YthjeegnmmeifbaaAid
namespace Go.Proofs.Ythjeegnmmeifbaa.Pure
open Go.RowKit Go.Proofs.Ythjeegnmmeifbaa.PFnExactRouteOK Go.Proofs.YthjeegnmmeifbaaW.PrintWords Go.Proofs.YthjeegnmmeifbaaW.PrintLast Go.Proofs.Ythjeegnmmeifbaa.Aid

theorem spec_in (a b c : Int) : spec_l01In.f a b c = some (decide (b ≤ a ∧ a ≤ c)) := by
  unfold spec_l01In.f
  split <;> simp <;> omega
theorem impl_in (a b c : Int) : impl_inRange.f a b c = some (decide (b ≤ a ∧ a ≤ c)) := by
  unfold impl_inRange.f
  split <;> simp <;> omega
/-! ### Are these bits -/
theorem bits_loops (s : ByteArray) (hs : s.size ≤ 128) (d : Nat) : ∀ i : Nat, i + d = s.size → ∃ r, Ev (fun k => spec_l02Bits.l0 k s i) r ∧ Ev (fun k => impl_bitsOK.l0 k s i) r := by
  induction d with
  | zero =>
    intro i h
    refine ⟨true, ?_, ?_⟩
    · apply ev_succ
      simp only [spec_l02Bits.l0]
      exact ev_neg (by omega) (Ev.now _)
    · apply ev_succ
      simp only [impl_bitsOK.l0]
      exact ev_neg (by omega) (Ev.now _)
  | succ d ih =>
    intro i h
    have hw : wrap64 ((i : Int) + 1) = ((i + 1 : Nat) : Int) := by rw [wrap64_in (by omega) (by omega)]; omega
    obtain ⟨r, g1, g2⟩ := ih (i + 1) (by omega)
    by_cases h0 : bt s i = 48
    · refine ⟨r, ?_, ?_⟩
      · apply ev_succ
        simp only [spec_l02Bits.l0, hw]
        exact ev_pos (by omega) (ev_pos (by omega) (ev_pos h0 g1))
      · apply ev_succ
        simp only [impl_bitsOK.l0, hw]
        exact ev_pos (by omega) (ev_pos (by omega) (ev_pos h0 g2))
    · by_cases h1 : bt s i = 49
      · refine ⟨r, ?_, ?_⟩
        · apply ev_succ
          simp only [spec_l02Bits.l0, hw]
          exact ev_pos (by omega) (ev_pos (by omega) (ev_neg h0 (ev_pos h1 g1)))
        · apply ev_succ
          simp only [impl_bitsOK.l0, hw]
          exact ev_pos (by omega) (ev_pos (by omega) (ev_neg h0 (ev_pos h1 g2)))
      · refine ⟨false, ?_, ?_⟩
        · apply ev_succ
          simp only [spec_l02Bits.l0]
          exact ev_pos (by omega) (ev_pos (by omega) (ev_neg h0 (ev_neg h1 (Ev.now _))))
        · apply ev_succ
          simp only [impl_bitsOK.l0]
          exact ev_pos (by omega) (ev_pos (by omega) (ev_neg h0 (ev_neg h1 (Ev.now _))))
theorem bits_same (s : ByteArray) : ∃ r, Ev (fun k => spec_l02Bits.f k s) r ∧ Ev (fun k => impl_bitsOK.f k s) r := by
  unfold spec_l02Bits.f impl_bitsOK.f
  by_cases h : (s.size : Int) > 128
  · exact ⟨_, ev_pos h (Ev.now _), ev_pos h (Ev.now _)⟩
  · obtain ⟨r, g1, g2⟩ := bits_loops s (by omega) s.size 0 (by omega)
    exact ⟨r, ev_neg h g1, ev_neg h g2⟩

theorem route_same (s : ByteArray) (a b : Int) : ∃ r, Ev (fun k => spec_RouteOK.f k s a b) r ∧ Ev (fun k => impl_RouteOK.f k s a b) r := by
  obtain ⟨r, g1, g2⟩ := bits_same s
  unfold spec_RouteOK.f impl_RouteOK.f
  simp only [spec_in, impl_in, Option.bind_some]
  cases r with
  | false => exact ⟨false, Ev.bind g1 (ev_neg (by simp) (Ev.now _)), Ev.bind g2 (ev_neg (by simp) (Ev.now _))⟩
  | true =>
    by_cases h1 : 0 ≤ a ∧ a ≤ 99
    · exact ⟨_, Ev.bind g1 (ev_pos rfl (ev_pos (by simpa using h1) (Ev.now _))), Ev.bind g2 (ev_pos rfl (ev_pos (by simpa using h1) (Ev.now _)))⟩
    · exact ⟨_, Ev.bind g1 (ev_pos rfl (ev_neg (by simpa using h1) (Ev.now _))), Ev.bind g2 (ev_pos rfl (ev_neg (by simpa using h1) (Ev.now _)))⟩

theorem FnExactRouteOK : SaysFnExactRouteOK.Says := by
  intro s a b _ _ _
  refine Ev.rounds (g := fun k => laws_FnExactRouteOK.f k s a b) ?_
  obtain ⟨r, g1, g2⟩ := route_same s a b
  unfold laws_FnExactRouteOK.f laws_toRoute.f laws_szRoute.f
  refine ev_bindc (a := if wrap64 (1048576 - (s.size : Int)) < 0 then -1 else wrap64 (1048576 - (s.size : Int))) ?_ ?_
  · split <;> rfl
  · refine ev_ite (fun _ => Ev.now _) (fun _ => ?_)
    refine ev_some (Ev.bind g1 (ev_some (Ev.bind g2 (ev_neg ?_ (Ev.now _)))))
    simp

end Go.Proofs.Ythjeegnmmeifbaa.Pure
