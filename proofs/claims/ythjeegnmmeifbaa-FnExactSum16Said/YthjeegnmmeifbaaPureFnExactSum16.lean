/- The program's Sum16 answers what the reference's answers, for every list of bytes; no condition. -/
import Derived.Test.YthjeegnmmeifbaaSaysFnExactSum16
import Derived.Test.YthjeegnmmeifbaaSum
namespace Go.Proofs.Ythjeegnmmeifbaa.Pure
open Go.RowKit Go.Proofs.Ythjeegnmmeifbaa.PFnExactSum16 Go.Proofs.YthjeegnmmeifbaaW.PrintWords Go.Proofs.YthjeegnmmeifbaaW.PrintLast Go.Proofs.Ythjeegnmmeifbaa.Aid

/-! ### toByteS, eqByteS: a copy; whether two lists are alike -/
theorem toByteS_loop (l : List Int) (hl : l.length ≤ 140737488355328) (d : Nat) : ∀ (acc : List Int) (i : Nat), acc.length = l.length → acc.take i = l.take i → i + d = l.length → Ev (fun k => laws_toByteS.l0 k l acc i) l := by
  induction d with
  | zero =>
    intro acc i h1 h2 h3
    have e : acc = l := by
      rw [List.take_of_length_le (by omega), List.take_of_length_le (by omega)] at h2
      exact h2
    subst e
    apply ev_succ
    simp only [laws_toByteS.l0]
    exact ev_neg (by omega) (Ev.now _)
  | succ d ih =>
    intro acc i h1 h2 h3
    have hw : wrap64 ((i : Int) + 1) = ((i + 1 : Nat) : Int) := by rw [wrap64_in (by omega) (by omega)]; omega
    apply ev_succ
    simp only [laws_toByteS.l0, hw]
    refine ev_pos (by omega) (ev_pos (by omega) (ev_pos (by omega) ?_))
    refine ih _ (i + 1) (by simp [h1]) ?_ (by omega)
    have hi : i < l.length := by omega
    have hj : i < acc.length := by omega
    rw [List.take_succ_eq_append_getElem (by simpa using hj), List.take_succ_eq_append_getElem hi, rd_at l rfl hi]
    simp [List.take_set_of_le, h2]
theorem toByteS_ev {l : List Int} (hl : l.length ≤ 140737488355328) : Ev (fun k => laws_toByteS.f k l) l := by
  unfold laws_toByteS.f
  refine ev_pos (by omega) (ev_pos (by omega) ?_)
  exact toByteS_loop l hl l.length _ 0 (by simp) (by simp) (by omega)
theorem eqByteS_loop (l : List Int) (hl : l.length ≤ 140737488355328) (d : Nat) : ∀ (i : Nat), i + d = l.length → Ev (fun k => laws_eqByteS.l0 k l l i) true := by
  induction d with
  | zero =>
    intro i h
    apply ev_succ
    simp only [laws_eqByteS.l0]
    exact ev_neg (by omega) (Ev.now _)
  | succ d ih =>
    intro i h
    have hw : wrap64 ((i : Int) + 1) = ((i + 1 : Nat) : Int) := by rw [wrap64_in (by omega) (by omega)]; omega
    apply ev_succ
    simp only [laws_eqByteS.l0, hw]
    exact ev_pos (by omega) (ev_pos (by omega) (ev_pos (by omega) (ev_pos trivial (ih (i + 1) (by omega)))))
theorem eqByteS_ev {l : List Int} (hl : l.length ≤ 140737488355328) : Ev (fun k => laws_eqByteS.f k l l) true := by
  unfold laws_eqByteS.f
  exact ev_pos rfl (eqByteS_loop l hl l.length 0 (by omega))
/-! ### The sums of the two packages -/
theorem specSum_l1 (d : Nat) : ∀ n : Int, 0 ≤ n → n ≤ 4611756387171566592 → n ≤ d → Ev (fun k => spec_l01Sum.l1 k n) (65535 - fold n) := by
  induction d with
  | zero =>
    intro n h0 h1 h2
    have e : wrap64 (65535 - n) = 65535 - fold n := by rw [fold_small h0 (by omega), wrap64_in (by omega) (by omega)]
    apply ev_succ
    simp only [spec_l01Sum.l1, e]
    exact ev_neg (by omega) (Ev.now _)
  | succ d ih =>
    intro n h0 h1 h2
    by_cases hn : n > 65535
    · have e1 : wrap64 ((Int.tmod n 65536) + (wrap64 (Int.tdiv n 65536))) = n % 65536 + n / 65536 := by
        rw [Int.tmod_eq_emod_of_nonneg h0, Int.tdiv_eq_ediv_of_nonneg h0, wrap64_in (n := n / 65536) (by omega) (by omega), wrap64_in (by omega) (by omega)]
      have g := ih (n % 65536 + n / 65536) (by omega) (by omega) (by omega)
      rw [fold_step hn] at g
      apply ev_succ
      simp only [spec_l01Sum.l1]
      refine ev_pos hn ?_
      rw [e1]
      exact g
    · have e : wrap64 (65535 - n) = 65535 - fold n := by rw [fold_small h0 (by omega), wrap64_in (by omega) (by omega)]
      apply ev_succ
      simp only [spec_l01Sum.l1, e]
      exact ev_neg (by omega) (Ev.now _)
theorem specSum_l0 (l : List Int) (hb : Bytes l) (hl : l.length ≤ 140737488355328) (d : Nat) : ∀ (i : Nat) (s : Int), 2 ∣ i → l.length ≤ i + d → 0 ≤ s → s + wsum (l.drop i) ≤ 4611756387171566592 → Ev (fun k => spec_l01Sum.l0 k l s i) (65535 - fold (s + wsum (l.drop i))) := by
  induction d using Nat.strongRecOn with
  | _ d ih =>
    intro i s h2 hd h0 h1
    have hr := wsum_drop_nonneg hb i
    by_cases c : i < l.length
    · have hm : Int.tmod (i : Int) 2 = 0 := by rw [Int.tmod_eq_emod_of_nonneg (by omega)]; omega
      have b1 := rd_byte hb i
      by_cases c2 : i + 1 < l.length
      · have b2 := rd_byte hb ((i + 1 : Nat) : Int)
        have hm2 : ¬ Int.tmod ((i + 1 : Nat) : Int) 2 = 0 := by rw [Int.tmod_eq_emod_of_nonneg (by omega)]; omega
        have hw : wrap64 ((i : Int) + 1) = ((i + 1 : Nat) : Int) := by rw [wrap64_in (by omega) (by omega)]; omega
        have hw2 : wrap64 (((i + 1 : Nat) : Int) + 1) = ((i + 2 : Nat) : Int) := by rw [wrap64_in (by omega) (by omega)]; omega
        have e := wsum_drop2 l i c2
        have hr2 := wsum_drop_nonneg hb (i + 2)
        rw [e] at h1
        have g := ih (d - 2) (by omega) (i + 2) (s + (rd l i * 256 + rd l ((i + 1 : Nat) : Int))) (by omega) (by omega) (by omega) (by omega)
        have w1 : wrap64 (rd l i * 256) = rd l i * 256 := wrap64_in (by omega) (by omega)
        have w2 : wrap64 (s + rd l i * 256) = s + rd l i * 256 := wrap64_in (by omega) (by omega)
        have w3 : wrap64 (s + rd l i * 256 + rd l ((i + 1 : Nat) : Int)) = s + (rd l i * 256 + rd l ((i + 1 : Nat) : Int)) := by rw [wrap64_in (by omega) (by omega)]; omega
        rw [e, show s + (rd l i * 256 + rd l ((i + 1 : Nat) : Int) + wsum (l.drop (i + 2))) = s + (rd l i * 256 + rd l ((i + 1 : Nat) : Int)) + wsum (l.drop (i + 2)) from by omega]
        apply ev_succ
        simp only [spec_l01Sum.l0, hw, wrap_rd hb, w1, w2]
        refine ev_pos (by omega) (ev_pos hm (ev_pos (by omega) ?_))
        apply ev_succ
        simp only [spec_l01Sum.l0, hw2, wrap_rd hb, w3]
        exact ev_pos (by omega) (ev_neg hm2 (ev_pos (by omega) g))
      · have e := wsum_drop1 l i (by omega)
        rw [e] at h1
        rw [e]
        have hw : wrap64 ((i : Int) + 1) = ((i + 1 : Nat) : Int) := by rw [wrap64_in (by omega) (by omega)]; omega
        have w1 : wrap64 (rd l i * 256) = rd l i * 256 := wrap64_in (by omega) (by omega)
        have w2 : wrap64 (s + rd l i * 256) = s + rd l i * 256 := wrap64_in (by omega) (by omega)
        apply ev_succ
        simp only [spec_l01Sum.l0, hw, wrap_rd hb, w1, w2]
        refine ev_pos (by omega) (ev_pos hm (ev_pos (by omega) ?_))
        apply ev_succ
        simp only [spec_l01Sum.l0]
        refine ev_neg (by omega) ?_
        exact specSum_l1 (s + rd l i * 256).toNat _ (by omega) (by omega) (by omega)
    · have e := wsum_drop0 l i (by omega)
      rw [e] at h1
      rw [e]
      apply ev_succ
      simp only [spec_l01Sum.l0]
      refine ev_neg (by omega) ?_
      rw [Int.add_zero]
      exact specSum_l1 s.toNat s h0 (by omega) (by omega)
theorem specSum_ev {l : List Int} (hb : Bytes l) (hl : l.length ≤ 140737488355328) : Ev (fun k => spec_l01Sum.f k l) (csum l) := by
  have h := wsum_range l hb
  have g := specSum_l0 l hb hl l.length 0 0 (by omega) (by omega) (by omega) (by simp only [List.drop_zero]; omega)
  simp only [List.drop_zero, Int.zero_add] at g
  exact g
theorem implFold_l1 (d : Nat) : ∀ n : Int, 0 ≤ n → n ≤ 4611686018427387903 → n ≤ d → Ev (fun k => impl_foldSum.l1 k n) (fold n) := by
  induction d with
  | zero =>
    intro n h0 h1 h2
    rw [fold_small h0 (by omega)]
    apply ev_succ
    simp only [impl_foldSum.l1]
    exact ev_neg (by omega) (Ev.now _)
  | succ d ih =>
    intro n h0 h1 h2
    by_cases hn : n > 65535
    · have e2 : wrap64 ((Go.bits .and .i64 n 65535) + (n / 65536)) = n % 65536 + n / 65536 := by
        rw [and_65535 h0 (by omega), wrap64_in (by omega) (by omega)]
      have g := ih (n % 65536 + n / 65536) (by omega) (by omega) (by omega)
      rw [fold_step hn] at g
      apply ev_succ
      simp only [impl_foldSum.l1]
      refine ev_pos hn ?_
      rw [e2]
      exact g
    · rw [fold_small h0 (by omega)]
      apply ev_succ
      simp only [impl_foldSum.l1]
      exact ev_neg (by omega) (Ev.now _)
theorem implFold_l0 (l : List Int) (hb : Bytes l) (hl : l.length ≤ 1000000000) (d : Nat) : ∀ (i : Nat) (s : Int), l.length ≤ i + d → 0 ≤ s → s + wsum (l.drop i) ≤ 4611686018427387903 → Ev (fun k => impl_foldSum.l0 k l s i) (fold (s + wsum (l.drop i))) := by
  induction d using Nat.strongRecOn with
  | _ d ih =>
    intro i s hd h0 h1
    have hr := wsum_drop_nonneg hb i
    by_cases c : i < l.length
    · have b1 := rd_byte hb i
      have hw : wrap64 ((i : Int) + 1) = ((i + 1 : Nat) : Int) := by rw [wrap64_in (by omega) (by omega)]; omega
      have hw2 : wrap64 ((i : Int) + 2) = ((i + 2 : Nat) : Int) := by rw [wrap64_in (by omega) (by omega)]; omega
      have w1 : wrap64 (rd l i * 256) = rd l i * 256 := wrap64_in (by omega) (by omega)
      by_cases c2 : i + 1 < l.length
      · have b2 := rd_byte hb ((i + 1 : Nat) : Int)
        have e := wsum_drop2 l i c2
        have hr2 := wsum_drop_nonneg hb (i + 2)
        rw [e] at h1
        have g := ih (d - 2) (by omega) (i + 2) (s + (rd l i * 256 + rd l ((i + 1 : Nat) : Int))) (by omega) (by omega) (by omega)
        have w2 : wrap64 (s + rd l i * 256) = s + rd l i * 256 := wrap64_in (by omega) (by omega)
        have w3 : wrap64 (s + rd l i * 256 + rd l ((i + 1 : Nat) : Int)) = s + (rd l i * 256 + rd l ((i + 1 : Nat) : Int)) := by rw [wrap64_in (by omega) (by omega)]; omega
        rw [e, show s + (rd l i * 256 + rd l ((i + 1 : Nat) : Int) + wsum (l.drop (i + 2))) = s + (rd l i * 256 + rd l ((i + 1 : Nat) : Int)) + wsum (l.drop (i + 2)) from by omega]
        apply ev_succ
        simp only [impl_foldSum.l0, hw, hw2, wrap_rd hb, w1, w2, w3]
        exact ev_pos (by omega) (ev_pos (by omega) (ev_pos (by omega) (ev_pos (by omega) g)))
      · have e := wsum_drop1 l i (by omega)
        rw [e] at h1
        have g := ih (d - 1) (by omega) (i + 2) (s + rd l i * 256) (by omega) (by omega) (by rw [wsum_drop0 l (i + 2) (by omega)]; omega)
        rw [wsum_drop0 l (i + 2) (by omega), Int.add_zero] at g
        rw [e]
        have w2 : wrap64 (s + rd l i * 256) = s + rd l i * 256 := wrap64_in (by omega) (by omega)
        apply ev_succ
        simp only [impl_foldSum.l0, hw, hw2, wrap_rd hb, w1, w2]
        exact ev_pos (by omega) (ev_pos (by omega) (ev_neg (by omega) g))
    · have e := wsum_drop0 l i (by omega)
      rw [e] at h1
      rw [e]
      apply ev_succ
      simp only [impl_foldSum.l0]
      refine ev_neg (by omega) ?_
      rw [Int.add_zero]
      exact implFold_l1 s.toNat s h0 (by omega) (by omega)
theorem implFold_ev {l : List Int} (hb : Bytes l) (hl : l.length ≤ 1000000000) : Ev (fun k => impl_foldSum.f k l) (fold (wsum l)) := by
  have h := wsum_range l hb
  have g := implFold_l0 l hb hl l.length 0 0 (by omega) (by omega) (by simp only [List.drop_zero]; omega)
  simp only [List.drop_zero, Int.zero_add] at g
  exact g
theorem implSum_ev {l : List Int} (hb : Bytes l) (hl : l.length ≤ 1000000000) : Ev (fun k => impl_checkSum.f k l) (csum l) := by
  have h := fold_range (wsum_range l hb).1
  have e : wrap64 (65535 - fold (wsum l)) = csum l := by rw [wrap64_in (by omega) (by omega)]; rfl
  unfold impl_checkSum.f
  refine Ev.bind (implFold_ev hb hl) ?_
  rw [e]
  exact Ev.now _

theorem FnExactSum16 : SaysFnExactSum16.Says := by
  intro l h0
  obtain ⟨_, h3⟩ := h0
  have hb := Bytes.of_wf h3
  refine Ev.rounds (g := fun k => laws_FnExactSum16.f k l) ?_
  unfold laws_FnExactSum16.f
  refine ev_ite (fun _ => Ev.now _) (fun hs => ?_)
  have hl : l.length ≤ 140737488355328 := by omega
  refine Ev.bind (toByteS_ev hl) ?_
  refine Ev.bind (a := if (l.length : Int) > 65536 then 0 else csum l) ?_ (Ev.bind (toByteS_ev hl) (Ev.bind (a := if (l.length : Int) > 65536 then 0 else csum l) ?_ (ev_pos rfl (Ev.bind (toByteS_ev hl) (Ev.bind (eqByteS_ev hl) (ev_pos rfl (Ev.now _)))))))
  · unfold spec_Sum16.f
    by_cases c : (l.length : Int) > 65536
    · simp only [if_pos c]
      exact Ev.now _
    · simp only [if_neg c]
      exact Ev.bind (specSum_ev hb hl) (Ev.now _)
  · unfold impl_Sum16.f
    by_cases c : (l.length : Int) > 65536
    · simp only [if_pos c]
      exact Ev.now _
    · simp only [if_neg c]
      exact Ev.bind (implSum_ev hb (by omega)) (Ev.now _)

end Go.Proofs.Ythjeegnmmeifbaa.Pure
