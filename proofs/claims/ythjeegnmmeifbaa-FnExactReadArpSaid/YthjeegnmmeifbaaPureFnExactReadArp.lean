/- The program's ReadArp answers what the reference's answers, for every list of bytes; no condition. -/
import Derived.Test.YthjeegnmmeifbaaSaysFnExactReadArp
import Derived.Test.YthjeegnmmeifbaaAid
namespace Go.Proofs.Ythjeegnmmeifbaa.Pure
open Go.RowKit Go.Proofs.Ythjeegnmmeifbaa.QFnExactReadArp Go.Proofs.YthjeegnmmeifbaaW.PrintWords Go.Proofs.YthjeegnmmeifbaaW.PrintLast Go.Proofs.Ythjeegnmmeifbaa.Aid

/-! ### toByteS, eqByteS: a copy; whether two lists are alike -/
theorem toByteS_loop (l : List Int) (hl : l.length ≤ 140737488355328) (d : Nat) : ∀ (acc : List Int) (i : Nat), acc.length = l.length → acc.take i = l.take i → i + d = l.length → Ev (fun k => laws_toByteS.l0 k l acc i) l := by
  induction d with
  | zero =>
    intro acc i h1 h2 h3
    have e : acc = l := by
      rw [List.take_of_length_le (by omega), List.take_of_length_le (by omega)] at h2
      exact h2
    subst e
    apply ev_succ
    simp only [laws_toByteS.l0]
    exact ev_neg (by omega) (Ev.now _)
  | succ d ih =>
    intro acc i h1 h2 h3
    have hw : wrap64 ((i : Int) + 1) = ((i + 1 : Nat) : Int) := by rw [wrap64_in (by omega) (by omega)]; omega
    apply ev_succ
    simp only [laws_toByteS.l0, hw]
    refine ev_pos (by omega) (ev_pos (by omega) (ev_pos (by omega) ?_))
    refine ih _ (i + 1) (by simp [h1]) ?_ (by omega)
    have hi : i < l.length := by omega
    have hj : i < acc.length := by omega
    rw [List.take_succ_eq_append_getElem (by simpa using hj), List.take_succ_eq_append_getElem hi, rd_at l rfl hi]
    simp [List.take_set_of_le, h2]
theorem toByteS_ev {l : List Int} (hl : l.length ≤ 140737488355328) : Ev (fun k => laws_toByteS.f k l) l := by
  unfold laws_toByteS.f
  refine ev_pos (by omega) (ev_pos (by omega) ?_)
  exact toByteS_loop l hl l.length _ 0 (by simp) (by simp) (by omega)
theorem eqByteS_loop (l : List Int) (hl : l.length ≤ 140737488355328) (d : Nat) : ∀ (i : Nat), i + d = l.length → Ev (fun k => laws_eqByteS.l0 k l l i) true := by
  induction d with
  | zero =>
    intro i h
    apply ev_succ
    simp only [laws_eqByteS.l0]
    exact ev_neg (by omega) (Ev.now _)
  | succ d ih =>
    intro i h
    have hw : wrap64 ((i : Int) + 1) = ((i + 1 : Nat) : Int) := by rw [wrap64_in (by omega) (by omega)]; omega
    apply ev_succ
    simp only [laws_eqByteS.l0, hw]
    exact ev_pos (by omega) (ev_pos (by omega) (ev_pos (by omega) (ev_pos trivial (ih (i + 1) (by omega)))))
theorem eqByteS_ev {l : List Int} (hl : l.length ≤ 140737488355328) : Ev (fun k => laws_eqByteS.f k l l) true := by
  unfold laws_eqByteS.f
  exact ev_pos rfl (eqByteS_loop l hl l.length 0 (by omega))

theorem same {l : List Int} (hb : Bytes l) : ∃ r, spec_ReadArp.f l = some r ∧ impl_ReadArp.f l = some r := by
  unfold spec_ReadArp.f impl_ReadArp.f spec_l09ReadArp.f
  by_cases h1 : (l.length : Int) > 65536
  · simp only [if_pos h1]
    exact ⟨_, rfl, rfl⟩
  · by_cases h2 : (l.length : Int) = 28
    · simp only [h2, Int.reduceGT, Int.reduceLE, Int.reduceLT, if_true, if_false]
      by_cases h3 : (strOfNums (l.take 7)).toList = ([0, 1, 8, 0, 6, 4, 0] : List UInt8)
      · simp only [if_pos h3]
        by_cases h4 : rd l 7 = 1
        · simp [h4]
        · by_cases h5 : rd l 7 = 2
          · simp [h5]
          · have := rd_byte hb 7
            by_cases h6 : rd l 7 < 1
            · simp [h4, h5, h6]
            · have h7 : rd l 7 > 2 := by omega
              simp [h4, h5, h6, h7]
      · simp [h3]
    · simp [h1, h2]

theorem FnExactReadArp : SaysFnExactReadArp.Says := by
  intro l h0
  have hb := Bytes.of_wf h0.2
  refine Ev.rounds (g := fun k => laws_FnExactReadArp.f k l) ?_
  unfold laws_FnExactReadArp.f
  refine ev_ite (fun _ => Ev.now _) (fun hs => ?_)
  have hl : l.length ≤ 140737488355328 := by omega
  obtain ⟨r, g1, g2⟩ := same hb
  refine Ev.bind (toByteS_ev hl) (ev_bindc g1 (Ev.bind (toByteS_ev hl) (ev_bindc g2 (ev_bindc (a := true) ?_ (ev_pos rfl ?_)))))
  · simp [laws_eqArp.f]
  · simp only [bne_self_eq_false]
    apply ev_succ
    simp only [laws_FnExactReadArp.j0, Bool.false_eq_true, if_false]
    exact Ev.bind (toByteS_ev hl) (Ev.bind (eqByteS_ev hl) (ev_pos rfl (Ev.now _)))

end Go.Proofs.Ythjeegnmmeifbaa.Pure
