/- The program's ReadLink answers what the reference's answers, for every text; no condition. -/
import Derived.Test.YthjeegnmmeifbaaSaysFnExactReadLink
import Derived.Test.YthjeegnmmeifbaaAid
namespace Go.Proofs.Ythjeegnmmeifbaa.Pure
open Go.RowKit Go.Proofs.Ythjeegnmmeifbaa.QFnExactReadLink Go.Proofs.YthjeegnmmeifbaaW.PrintWords Go.Proofs.YthjeegnmmeifbaaW.PrintLast Go.Proofs.Ythjeegnmmeifbaa.Aid

/-! ### Digits -/
theorem specDigit_ev (c : Int) (h : 0 ≤ c ∧ c ≤ 255) : Ev (fun k => spec_l01Digit.f k c) (hexv c) := by
  have w : wrap64 c = c := wrap64_in (by omega) (by omega)
  have j1 : ∀ b, Ev (fun k => spec_l01Digit.j1 k c b) (if b = true then c - 97 + 10 else if 65 ≤ c ∧ c ≤ 70 then c - 65 + 10 else -1) := by
    intro b
    apply ev_succ
    simp only [spec_l01Digit.j1, w]
    refine ev_ite (fun hb => ?_) (fun hb => ?_)
    · rw [if_pos hb, wrap64_in (n := c - 97) (by omega) (by omega), wrap64_in (by omega) (by omega)]
      exact Ev.now _
    · rw [if_neg hb]
      refine ev_ite (fun h1 => ev_ite (fun h2 => ?_) (fun h2 => ?_)) (fun h1 => ?_)
      · rw [if_pos ⟨h1, h2⟩, wrap64_in (n := c - 65) (by omega) (by omega), wrap64_in (by omega) (by omega)]
        exact Ev.now _
      · rw [if_neg (by omega)]
        exact Ev.now _
      · rw [if_neg (by omega)]
        exact Ev.now _
  have j0 : ∀ b, Ev (fun k => spec_l01Digit.j0 k c b) (if b = true then c - 48 else if 97 ≤ c ∧ c ≤ 102 then c - 97 + 10 else if 65 ≤ c ∧ c ≤ 70 then c - 65 + 10 else -1) := by
    intro b
    apply ev_succ
    simp only [spec_l01Digit.j0, w]
    refine ev_ite (fun hb => ?_) (fun hb => ?_)
    · rw [if_pos hb, wrap64_in (by omega) (by omega)]
      exact Ev.now _
    · rw [if_neg hb]
      refine ev_ite (fun h1 => ev_eq (j1 _) ?_) (fun h1 => ev_eq (j1 _) ?_)
      · simp [h1]
      · rw [if_neg (by simp), if_neg (c := 97 ≤ c ∧ c ≤ 102) (by omega)]
  unfold spec_l01Digit.f hexv
  refine ev_ite (fun h1 => ev_eq (j0 _) ?_) (fun h1 => ev_eq (j0 _) ?_)
  · simp [h1]
  · rw [if_neg (by simp), if_neg (c := 48 ≤ c ∧ c ≤ 57) (by omega)]
theorem implDigit_ev (c : Int) (h : 0 ≤ c ∧ c ≤ 255) : Ev (fun k => impl_hexDigit.f k c) (hexv c) := by
  have j1 : ∀ b, (b = true → 97 ≤ c) → Ev (fun k => impl_hexDigit.j1 k c b) (if b = true then c - 97 + 10 else if 65 ≤ c ∧ c ≤ 70 then c - 65 + 10 else -1) := by
    intro b hb97
    apply ev_succ
    simp only [impl_hexDigit.j1]
    refine ev_ite (fun hb => ?_) (fun hb => ?_)
    · rw [if_pos hb, show (c - 97) % 256 = c - 97 from by have := hb97 hb; omega]
      exact Ev.now _
    · rw [if_neg hb]
      refine ev_ite (fun h1 => ev_ite (fun h2 => ?_) (fun h2 => ?_)) (fun h1 => ?_)
      · rw [if_pos ⟨h1, h2⟩, show (c - 65) % 256 = c - 65 from by omega]
        exact Ev.now _
      · rw [if_neg (by omega)]
        exact Ev.now _
      · rw [if_neg (by omega)]
        exact Ev.now _
  have j0 : ∀ b, (b = true → 48 ≤ c) → Ev (fun k => impl_hexDigit.j0 k c b) (if b = true then c - 48 else if 97 ≤ c ∧ c ≤ 102 then c - 97 + 10 else if 65 ≤ c ∧ c ≤ 70 then c - 65 + 10 else -1) := by
    intro b hb48
    apply ev_succ
    simp only [impl_hexDigit.j0]
    refine ev_ite (fun hb => ?_) (fun hb => ?_)
    · rw [if_pos hb, show (c - 48) % 256 = c - 48 from by have := hb48 hb; omega]
      exact Ev.now _
    · rw [if_neg hb]
      refine ev_ite (fun h1 => ev_eq (j1 _ (fun _ => h1)) ?_) (fun h1 => ev_eq (j1 _ (fun h => by simp at h)) ?_)
      · simp [h1]
      · rw [if_neg (by simp), if_neg (c := 97 ≤ c ∧ c ≤ 102) (by omega)]
  unfold impl_hexDigit.f hexv
  refine ev_ite (fun h1 => ev_eq (j0 _ (fun _ => h1)) ?_) (fun h1 => ev_eq (j0 _ (fun h => by simp at h)) ?_)
  · simp [h1]
  · rw [if_neg (by simp), if_neg (c := 48 ≤ c ∧ c ≤ 57) (by omega)]

theorem tooLong_one (s : ByteArray) (_ : s.size ≤ 140737488351232) : Ev (fun k => impl_tooLong.f k [s]) (decide ((s.size : Int) > 65536)) := by
  have hw : wrap64 (0 + 1) = 1 := wrap64_in (by omega) (by omega)
  unfold impl_tooLong.f
  apply ev_succ
  simp only [impl_tooLong.l0, hw]
  refine ev_pos (by simp) (ev_pos (by omega) (ev_pos (by simp) ?_))
  refine ev_ite (fun h => ?_) (fun h => ?_)
  · have h' : (s.size : Int) > 65536 := h
    rw [decide_eq_true h']
    exact Ev.now _
  · have h' : ¬ (s.size : Int) > 65536 := h
    rw [decide_eq_false h']
    apply ev_succ
    simp only [impl_tooLong.l0]
    exact ev_neg (by simp) (Ev.now _)

/-- Both loops, from the i-th pair on. -/
theorem loops (s : ByteArray) (hs : s.size = 17) (d : Nat) : ∀ (i : Nat) (a b : List Int), i + d = 6 → a.length = i → b.length = 6 → b.take i = a → ∃ r, Ev (fun k => spec_ReadLink.l0 k s a ((3 * i : Nat) : Int)) r ∧ Ev (fun k => impl_ReadLink.l0 k s b 6 i) r := by
  induction d with
  | zero =>
    intro i a b h1 h2 h3 h4
    obtain rfl : i = 6 := by omega
    refine ⟨(strOfNums a, 0), ?_, ?_⟩
    · apply ev_succ
      simp only [spec_ReadLink.l0]
      exact ev_neg (by omega) (Ev.now _)
    · rw [List.take_of_length_le (by omega)] at h4
      subst h4
      apply ev_succ
      simp only [impl_ReadLink.l0]
      exact ev_neg (by omega) (Ev.now _)
  | succ d ih =>
    intro i a b h1 h2 h3 h4
    have e1 : wrap64 (((3 * i : Nat) : Int) + 1) = ((3 * i + 1 : Nat) : Int) := by rw [wrap64_in (by omega) (by omega)]; omega
    have e2 : wrap64 (((3 * i : Nat) : Int) + 2) = ((3 * i + 2 : Nat) : Int) := by rw [wrap64_in (by omega) (by omega)]; omega
    have e3 : wrap64 (((3 * i : Nat) : Int) + 3) = ((3 * (i + 1) : Nat) : Int) := by rw [wrap64_in (by omega) (by omega)]; omega
    have e4 : wrap64 (3 * (i : Int)) = ((3 * i : Nat) : Int) := by rw [wrap64_in (by omega) (by omega)]; omega
    have e5 : wrap64 ((i : Int) + 1) = ((i + 1 : Nat) : Int) := by rw [wrap64_in (by omega) (by omega)]; omega
    have b0 := bt_range s ((3 * i : Nat) : Int)
    have b1 := bt_range s ((3 * i + 1 : Nat) : Int)
    have d1 := hexv_range (bt s ((3 * i : Nat) : Int))
    have d2 := hexv_range (bt s ((3 * i + 1 : Nat) : Int))
    generalize hv : (wrap64 (wrap64 (16 * hexv (bt s ((3 * i : Nat) : Int))) + hexv (bt s ((3 * i + 1 : Nat) : Int)))) % 256 = v
    have hb : (b.set (i : Int).toNat v).take (i + 1) = a ++ [v] := by
      have hj : i < b.length := by omega
      rw [Int.toNat_natCast, List.take_succ_eq_append_getElem (by simpa using hj)]
      simp [List.take_set_of_le, h4]
    obtain ⟨r, g1, g2⟩ := ih (i + 1) (a ++ [v]) (b.set (i : Int).toNat v) (by omega) (by simp [h2]) (by simp [h3]) hb
    by_cases c1 : hexv (bt s ((3 * i : Nat) : Int)) < 0
    · refine ⟨(⟨#[]⟩, 3), ?_, ?_⟩
      · apply ev_succ
        simp only [spec_ReadLink.l0, e1]
        exact ev_pos (by omega) (ev_pos (by omega) (ev_pos (by omega) (Ev.bind (specDigit_ev _ b0) (ev_pos (by omega) (ev_pos (by omega) (Ev.bind (specDigit_ev _ b1) (ev_pos c1 (Ev.now _))))))))
      · apply ev_succ
        simp only [impl_ReadLink.l0, e1, e4]
        exact ev_pos (by omega) (ev_pos (by omega) (ev_pos (by omega) (Ev.bind (implDigit_ev _ b0) (ev_pos (by omega) (ev_pos (by omega) (Ev.bind (implDigit_ev _ b1) (ev_pos c1 (Ev.now _))))))))
    · by_cases c2 : hexv (bt s ((3 * i + 1 : Nat) : Int)) < 0
      · refine ⟨(⟨#[]⟩, 3), ?_, ?_⟩
        · apply ev_succ
          simp only [spec_ReadLink.l0, e1]
          exact ev_pos (by omega) (ev_pos (by omega) (ev_pos (by omega) (Ev.bind (specDigit_ev _ b0) (ev_pos (by omega) (ev_pos (by omega) (Ev.bind (specDigit_ev _ b1) (ev_neg c1 (ev_pos c2 (Ev.now _)))))))))
        · apply ev_succ
          simp only [impl_ReadLink.l0, e1, e4]
          exact ev_pos (by omega) (ev_pos (by omega) (ev_pos (by omega) (Ev.bind (implDigit_ev _ b0) (ev_pos (by omega) (ev_pos (by omega) (Ev.bind (implDigit_ev _ b1) (ev_neg c1 (ev_pos c2 (Ev.now _)))))))))
      · by_cases c3 : i < 5
        · by_cases c4 : bt s ((3 * i + 2 : Nat) : Int) = 58
          · refine ⟨r, ?_, ?_⟩
            · apply ev_succ
              simp only [spec_ReadLink.l0, e1, e2, e3]
              refine ev_pos (by omega) (ev_pos (by omega) (ev_pos (by omega) (Ev.bind (specDigit_ev _ b0) (ev_pos (by omega) (ev_pos (by omega) (Ev.bind (specDigit_ev _ b1) (ev_neg c1 (ev_neg c2 (ev_pos (by omega) (ev_pos (by omega) (ev_pos (by omega) (ev_pos c4 (ev_pos (by omega) ?_)))))))))))))
              rw [hv]
              exact g1
            · apply ev_succ
              simp only [impl_ReadLink.l0, e1, e2, e4, e5]
              refine ev_pos (by omega) (ev_pos (by omega) (ev_pos (by omega) (Ev.bind (implDigit_ev _ b0) (ev_pos (by omega) (ev_pos (by omega) (Ev.bind (implDigit_ev _ b1) (ev_neg c1 (ev_neg c2 (ev_pos (by omega) (ev_pos (by omega) (ev_pos (by omega) (ev_pos c4 (ev_pos (by omega) (ev_pos (by omega) ?_))))))))))))))
              rw [hv]
              exact g2
          · refine ⟨(⟨#[]⟩, 3), ?_, ?_⟩
            · apply ev_succ
              simp only [spec_ReadLink.l0, e1, e2, e3]
              exact ev_pos (by omega) (ev_pos (by omega) (ev_pos (by omega) (Ev.bind (specDigit_ev _ b0) (ev_pos (by omega) (ev_pos (by omega) (Ev.bind (specDigit_ev _ b1) (ev_neg c1 (ev_neg c2 (ev_pos (by omega) (ev_pos (by omega) (ev_pos (by omega) (ev_neg c4 (Ev.now _)))))))))))))
            · apply ev_succ
              simp only [impl_ReadLink.l0, e1, e2, e4, e5]
              exact ev_pos (by omega) (ev_pos (by omega) (ev_pos (by omega) (Ev.bind (implDigit_ev _ b0) (ev_pos (by omega) (ev_pos (by omega) (Ev.bind (implDigit_ev _ b1) (ev_neg c1 (ev_neg c2 (ev_pos (by omega) (ev_pos (by omega) (ev_pos (by omega) (ev_neg c4 (Ev.now _)))))))))))))
        · refine ⟨r, ?_, ?_⟩
          · apply ev_succ
            simp only [spec_ReadLink.l0, e1, e2, e3]
            refine ev_pos (by omega) (ev_pos (by omega) (ev_pos (by omega) (Ev.bind (specDigit_ev _ b0) (ev_pos (by omega) (ev_pos (by omega) (Ev.bind (specDigit_ev _ b1) (ev_neg c1 (ev_neg c2 (ev_neg (by omega) (ev_pos (by omega) ?_))))))))))
            rw [hv]
            exact g1
          · apply ev_succ
            simp only [impl_ReadLink.l0, e1, e2, e4, e5]
            refine ev_pos (by omega) (ev_pos (by omega) (ev_pos (by omega) (Ev.bind (implDigit_ev _ b0) (ev_pos (by omega) (ev_pos (by omega) (Ev.bind (implDigit_ev _ b1) (ev_neg c1 (ev_neg c2 (ev_neg (by omega) (ev_pos (by omega) (ev_pos (by omega) ?_)))))))))))
            rw [hv]
            exact g2

theorem FnExactReadLink : SaysFnExactReadLink.Says := by
  intro s _
  refine Ev.rounds (g := fun k => laws_FnExactReadLink.f k s) ?_
  unfold laws_FnExactReadLink.f
  refine ev_ite (fun _ => Ev.now _) (fun hs0 => ?_)
  have hs : s.size ≤ 140737488351232 := by omega
  have h : ∃ r, Ev (fun k => spec_ReadLink.f k s) r ∧ Ev (fun k => impl_ReadLink.f k s) r := by
    unfold spec_ReadLink.f impl_ReadLink.f
    by_cases c1 : (s.size : Int) > 65536
    · refine ⟨_, ev_pos c1 (Ev.now _), Ev.bind (tooLong_one s hs) (ev_pos ?_ (Ev.now _))⟩
      simp [c1]
    · by_cases c2 : (s.size : Int) = 17
      · obtain ⟨r, g1, g2⟩ := loops s (by omega) 6 0 [] (List.replicate 6 0) rfl rfl rfl rfl
        exact ⟨r, ev_neg c1 (ev_pos c2 g1), Ev.bind (tooLong_one s hs) (ev_neg (by simpa using c1) (ev_pos c2 (ev_pos (by omega) g2)))⟩
      · exact ⟨_, ev_neg c1 (ev_neg c2 (Ev.now _)), Ev.bind (tooLong_one s hs) (ev_neg (by simpa using c1) (ev_neg c2 (Ev.now _)))⟩
  obtain ⟨r, h1, h2⟩ := h
  exact Ev.bind h1 (Ev.bind h2 (ev_pos rfl (ev_pos rfl (Ev.now _))))

end Go.Proofs.Ythjeegnmmeifbaa.Pure
