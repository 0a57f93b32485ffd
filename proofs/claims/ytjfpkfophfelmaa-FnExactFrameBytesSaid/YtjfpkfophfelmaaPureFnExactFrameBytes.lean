/- The program's FrameBytes answers what the reference's answers, for every frame, in new memory; no condition. -/
import Derived.Test.YtjfpkfophfelmaaSaysFnExactFrameBytes
import Derived.Test.YtjfpkfophfelmaaAid
namespace Go.Proofs.Ytjfpkfophfelmaa.Pure
set_option linter.unusedSimpArgs false
open Go.RowKit Go.Proofs.Ytjfpkfophfelmaa.QFnExactFrameBytes Go.Proofs.YtjfpkfophfelmaaV.PrintWords Go.Proofs.YtjfpkfophfelmaaV.PrintLast Go.Proofs.Ytjfpkfophfelmaa.Aid

theorem spec_in (a b c : Int) : spec_l01In.f a b c = some (decide (b ≤ a ∧ a ≤ c)) := by
  unfold spec_l01In.f
  split <;> simp <;> omega
theorem impl_in (a b c : Int) : impl_inRange.f a b c = some (decide (b ≤ a ∧ a ≤ c)) := by
  unfold impl_inRange.f
  split <;> simp <;> omega
/-! ### toByteS, eqByteS: a copy; whether two lists are alike -/
theorem toByteS_loop (l : List Int) (hl : l.length ≤ 140737488355328) (d : Nat) : ∀ (acc : List Int) (i : Nat), acc.length = l.length → acc.take i = l.take i → i + d = l.length → Ev (fun k => laws_toByteS.l0 k l acc i) l := by
  induction d with
  | zero =>
    intro acc i h1 h2 h3
    have e : acc = l := by
      rw [List.take_of_length_le (by omega), List.take_of_length_le (by omega)] at h2
      exact h2
    subst e
    apply ev_succ
    simp only [laws_toByteS.l0]
    exact ev_neg (by omega) (Ev.now _)
  | succ d ih =>
    intro acc i h1 h2 h3
    have hw : wrap64 ((i : Int) + 1) = ((i + 1 : Nat) : Int) := by rw [wrap64_in (by omega) (by omega)]; omega
    apply ev_succ
    simp only [laws_toByteS.l0, hw]
    refine ev_pos (by omega) (ev_pos (by omega) (ev_pos (by omega) ?_))
    refine ih _ (i + 1) (by simp [h1]) ?_ (by omega)
    have hi : i < l.length := by omega
    have hj : i < acc.length := by omega
    rw [List.take_succ_eq_append_getElem (by simpa using hj), List.take_succ_eq_append_getElem hi, rd_at l rfl hi]
    simp [List.take_set_of_le, h2]
theorem toByteS_ev {l : List Int} (hl : l.length ≤ 140737488355328) : Ev (fun k => laws_toByteS.f k l) l := by
  unfold laws_toByteS.f
  refine ev_pos (by omega) (ev_pos (by omega) ?_)
  exact toByteS_loop l hl l.length _ 0 (by simp) (by simp) (by omega)
theorem eqByteS_loop (l : List Int) (hl : l.length ≤ 140737488355328) (d : Nat) : ∀ (i : Nat), i + d = l.length → Ev (fun k => laws_eqByteS.l0 k l l i) true := by
  induction d with
  | zero =>
    intro i h
    apply ev_succ
    simp only [laws_eqByteS.l0]
    exact ev_neg (by omega) (Ev.now _)
  | succ d ih =>
    intro i h
    have hw : wrap64 ((i : Int) + 1) = ((i + 1 : Nat) : Int) := by rw [wrap64_in (by omega) (by omega)]; omega
    apply ev_succ
    simp only [laws_eqByteS.l0, hw]
    exact ev_pos (by omega) (ev_pos (by omega) (ev_pos (by omega) (ev_pos trivial (ih (i + 1) (by omega)))))
theorem eqByteS_ev {l : List Int} (hl : l.length ≤ 140737488355328) : Ev (fun k => laws_eqByteS.f k l l) true := by
  unfold laws_eqByteS.f
  exact ev_pos rfl (eqByteS_loop l hl l.length 0 (by omega))
/-! ### Marks: numbers written into a row of bytes, and looked for -/
theorem mark_loop (n : Nat) (hn : n ≤ 140737488355328) (m : Int) (hm : 0 ≤ m ∧ m ≤ 1000000000000) (d : Nat) : ∀ (acc : List Int) (i : Nat), acc.length = n → acc.take i = markL i m → i + d = n → Ev (fun k => laws_markByteS.l0 k acc (m + i) i) (m + n, markL n m) := by
  induction d with
  | zero =>
    intro acc i h1 h2 h3
    rw [List.take_of_length_le (by omega)] at h2
    obtain rfl : i = n := by omega
    subst h2
    apply ev_succ
    simp only [laws_markByteS.l0]
    exact ev_neg (by omega) (Ev.now _)
  | succ d ih =>
    intro acc i h1 h2 h3
    have hw : wrap64 ((i : Int) + 1) = ((i + 1 : Nat) : Int) := by rw [wrap64_in (by omega) (by omega)]; omega
    have hw2 : wrap64 (m + (i : Int) + 1) = m + ((i + 1 : Nat) : Int) := by rw [wrap64_in (by omega) (by omega)]; omega
    apply ev_succ
    simp only [laws_markByteS.l0, hw, hw2]
    refine ev_pos (by omega) (ev_pos (by omega) ?_)
    refine ih _ (i + 1) (by simp [h1]) ?_ (by omega)
    have hj : i < acc.length := by omega
    rw [Int.toNat_natCast, List.take_succ_eq_append_getElem (by simpa using hj), markL_succ]
    simp [List.take_set_of_le, h2]
theorem mark_ev {l : List Int} (hl : l.length ≤ 140737488355328) {m : Int} (hm : 0 ≤ m ∧ m ≤ 1000000000000) : Ev (fun k => laws_markByteS.f k l m) (m + l.length, markL l.length m) := by
  have g := mark_loop l.length hl m hm l.length l 0 rfl rfl (by omega)
  have e : m + ((0 : Nat) : Int) = m := by omega
  rw [e] at g
  exact g
theorem held_loop (n : Nat) (hn : n ≤ 140737488355328) (m : Int) (hm : 0 ≤ m ∧ m ≤ 1000000000000) (d : Nat) : ∀ (i : Nat), i + d = n → Ev (fun k => laws_heldByteS.l0 k (markL n m) (m + i) i) (m + n) := by
  induction d with
  | zero =>
    intro i h3
    obtain rfl : i = n := by omega
    apply ev_succ
    simp only [laws_heldByteS.l0]
    exact ev_neg (by rw [markL_length]; omega) (Ev.now _)
  | succ d ih =>
    intro i h3
    have hw : wrap64 ((i : Int) + 1) = ((i + 1 : Nat) : Int) := by rw [wrap64_in (by omega) (by omega)]; omega
    have hw2 : wrap64 (m + (i : Int) + 1) = m + ((i + 1 : Nat) : Int) := by rw [wrap64_in (by omega) (by omega)]; omega
    apply ev_succ
    simp only [laws_heldByteS.l0, hw, hw2, markL_rd n m i (by omega), if_true]
    exact ev_pos (by rw [markL_length]; omega) (ev_pos (by omega) (ih (i + 1) (by omega)))
theorem held_ev (n : Nat) (hn : n ≤ 140737488355328) {m : Int} (hm : 0 ≤ m ∧ m ≤ 1000000000000) : Ev (fun k => laws_heldByteS.f k (markL n m) m) (m + n) := by
  have g := held_loop n hn m hm n 0 (by omega)
  have e : m + ((0 : Nat) : Int) = m := by omega
  rw [e] at g
  exact g

theorem szBytes_ev (l : List Int) (a : Int) : laws_szByteS.f l a = some (if wrap64 (a - (l.length : Int)) < 0 then -1 else wrap64 (a - (l.length : Int))) := by
  unfold laws_szByteS.f
  split <;> rfl
theorem szFrame_ev (fr dst : ByteArray) (t : Int) (l : List Int) (h1 : fr.size ≤ maxLen) (h2 : dst.size ≤ maxLen) (h3 : l.length ≤ maxLen) :
    ∃ r, laws_szFrame.f fr dst t l 1048576 = some r ∧ (r < 0 ∨ l.length ≤ 1048576 ∧ fr.size ≤ 1048576 ∧ dst.size ≤ 1048576) := by
  unfold maxLen at h1 h2 h3
  unfold laws_szFrame.f
  rw [wrap64_in (n := 1048576 - (fr.size : Int)) (by omega) (by omega)]
  by_cases c1 : 1048576 - (fr.size : Int) < 0
  · rw [if_pos c1]
    exact ⟨-1, rfl, .inl (by omega)⟩
  · rw [if_neg c1, wrap64_in (n := 1048576 - (fr.size : Int) - (dst.size : Int)) (by omega) (by omega)]
    by_cases c2 : 1048576 - (fr.size : Int) - (dst.size : Int) < 0
    · rw [if_pos c2]
      exact ⟨-1, rfl, .inl (by omega)⟩
    · rw [if_neg c2, szBytes_ev, wrap64_in (n := 1048576 - (fr.size : Int) - (dst.size : Int) - (l.length : Int)) (by omega) (by omega)]
      simp only [Option.bind_some]
      by_cases c3 : 1048576 - (fr.size : Int) - (dst.size : Int) - (l.length : Int) < 0
      · rw [if_pos c3]
        exact ⟨-1, rfl, .inl (by omega)⟩
      · rw [if_neg c3, if_neg c3]
        exact ⟨_, rfl, .inr (by omega)⟩
/-- What both answer. -/
def frOK (a b : ByteArray) (t : Int) (l : List Int) : Prop := a.size = 6 ∧ b.size = 6 ∧ (1536 ≤ t ∧ t ≤ 65535) ∧ l.length ≤ 1600
instance (a b : ByteArray) (t : Int) (l : List Int) : Decidable (frOK a b t l) := by unfold frOK; infer_instance
def frRes (a b : ByteArray) (t : Int) (l : List Int) : List Int × Int :=
  if frOK a b t l then (bytesOf (a ++ b) ++ [t / 256, t % 256] ++ l, 0) else ([], 1)
theorem frRes_length (a b : ByteArray) (t : Int) (l : List Int) : (frRes a b t l).1.length ≤ 2000 := by
  unfold frRes
  split
  · rename_i h
    unfold frOK at h
    simp [bytesOf_length, ByteArray.size_append]
    omega
  · simp
theorem specFrameB_ev (a b : ByteArray) (t : Int) (l : List Int) : spec_FrameBytes.f a b t l = some (frRes a b t l) := by
  unfold spec_FrameBytes.f
  have h1 : spec_l09Frame.f a b t l = some (decide (frOK a b t l)) := by
    unfold spec_l09Frame.f frOK
    simp only [spec_in, Option.bind_some]
    by_cases c1 : (a.size : Int) = 6
    · by_cases c2 : (b.size : Int) = 6
      · by_cases c3 : 1536 ≤ t ∧ t ≤ 65535
        · have e1 : a.size = 6 := by omega
          have e2 : b.size = 6 := by omega
          simp [c1, c2, c3, e1, e2]
          omega
        · simp [c1, c2, c3]
      · have e2 : ¬ b.size = 6 := by omega
        simp [c1, c2, e2]
    · have e1 : ¬ a.size = 6 := by omega
      simp [c1, e1]
  rw [h1]
  simp only [Option.bind_some]
  unfold frRes
  by_cases h : frOK a b t l
  · have h' := h
    unfold frOK at h'
    have hs : (a ++ b).size = 12 := by rw [ByteArray.size_append]; omega
    have w1 : (wrap64 (Int.tdiv t 256)) % 256 = t / 256 := by
      rw [Int.tdiv_eq_ediv_of_nonneg (by omega), wrap64_in (by omega) (by omega)]
      omega
    have w2 : (Int.tmod t 256) % 256 = t % 256 := by
      rw [Int.tmod_eq_emod_of_nonneg (by omega)]
      omega
    have hb : (bytesOf (a ++ b)).length = 12 := by rw [bytesOf_length, hs]
    rw [if_pos h, if_pos (decide_eq_true h)]
    unfold spec_l09Bytes.f
    rw [if_pos (by omega), if_pos (by omega)]
    unfold spec_l01Two.f
    simp only [Option.bind_some, w1, w2]
    rw [if_pos (by rw [hb]; simp)]
    rw [if_pos (by simp only [List.length_append, hb, List.length_cons, List.length_nil]; omega)]
    rfl
  · rw [if_neg h, if_neg (by simpa using h)]
theorem implFrameB_ev (a b : ByteArray) (t : Int) (l : List Int) : impl_FrameBytes.f a b t l = some (frRes a b t l) := by
  unfold impl_FrameBytes.f impl_isLink.f
  have hf : frRes a b t l = if (a.size = 6 ∧ b.size = 6 ∧ (1536 ≤ t ∧ t ≤ 65535) ∧ l.length ≤ 1600) then (bytesOf (a ++ b) ++ [t / 256, t % 256] ++ l, 0) else ([], 1) := by
    unfold frRes
    by_cases h : frOK a b t l
    · rw [if_pos h]
      exact (if_pos (show a.size = 6 ∧ b.size = 6 ∧ (1536 ≤ t ∧ t ≤ 65535) ∧ l.length ≤ 1600 from h)).symm
    · rw [if_neg h]
      exact (if_neg (show ¬ (a.size = 6 ∧ b.size = 6 ∧ (1536 ≤ t ∧ t ≤ 65535) ∧ l.length ≤ 1600) from h)).symm
  rw [hf]
  simp only [impl_in, Option.bind_some]
  by_cases c1 : (a.size : Int) = 6
  · by_cases c2 : (b.size : Int) = 6
    · by_cases c3 : 1536 ≤ t ∧ t ≤ 65535
      · have e1 : a.size = 6 := by omega
        have e2 : b.size = 6 := by omega
        by_cases c4 : (l.length : Int) > 1600
        · have e4 : ¬ l.length ≤ 1600 := by omega
          simp [c1, c2, c3, c4, e4]
        · have e4 : l.length ≤ 1600 := by omega
          have hs : (a ++ b).size = 12 := by rw [ByteArray.size_append]; omega
          have hb : (bytesOf (a ++ b)).length = 12 := by rw [bytesOf_length, hs]
          have w1 : (t / 256) % 256 = t / 256 := by omega
          rw [if_pos (by simp [c1]), if_pos (by simp [c2]), if_pos (by simp [c3]), if_neg c4, if_pos (by omega), if_pos (by omega)]
          unfold impl_word16.f
          simp only [Option.bind_some, w1]
          rw [if_pos (by rw [hb]; simp)]
          rw [if_pos (by simp only [List.length_append, hb, List.length_cons, List.length_nil]; omega), if_pos ⟨e1, e2, c3, e4⟩]
      · simp [c1, c2, c3]
    · have e2 : ¬ b.size = 6 := by omega
      simp [c1, c2, e2]
  · have e1 : ¬ a.size = 6 := by omega
    simp [c1, e1]
theorem toFrame_ev (a b : ByteArray) (t : Int) {l : List Int} (hl : l.length ≤ 140737488355328) : Ev (fun k => laws_toFrame.f k a b t l) (a, b, t, l) := by
  unfold laws_toFrame.f
  exact Ev.bind (toByteS_ev hl) (Ev.now _)
theorem eqFrame_ev (a b : ByteArray) (t : Int) {l : List Int} (hl : l.length ≤ 140737488355328) : Ev (fun k => laws_eqFrame.f k a b t l a b t l) true := by
  unfold laws_eqFrame.f
  simp only [if_true]
  exact Ev.bind (eqByteS_ev hl) (ev_pos rfl (Ev.now _))
theorem markFrame_ev (a b : ByteArray) (t : Int) {l : List Int} (hl : l.length ≤ 140737488355328) : Ev (fun k => laws_markFrame.f k a b t l 1) (1 + l.length, markL l.length 1) := by
  unfold laws_markFrame.f
  exact Ev.bind (mark_ev hl (by omega)) (Ev.now _)

theorem FnExactFrameBytes : SaysFnExactFrameBytes.Says := by
  intro a b t l h0 h1 h2 h3
  refine Ev.rounds (g := fun k => laws_FnExactFrameBytes.f k a b t l) ?_
  unfold laws_FnExactFrameBytes.f
  obtain ⟨z, hz, hz2⟩ := szFrame_ev a b t l h0 h1 h3.1
  refine ev_bindc hz (ev_ite (fun _ => Ev.now _) (fun hz0 => ?_))
  have hl : l.length ≤ 140737488355328 := by omega
  have g1 := specFrameB_ev a b t l
  have g2 := implFrameB_ev a b t l
  have hq := frRes_length a b t l
  generalize frRes a b t l = r at g1 g2 hq
  obtain ⟨d, c⟩ := r
  have hd : d.length ≤ 140737488355328 := by simp only at hq; omega
  refine Ev.bind (toFrame_ev a b t hl) (ev_bindc g1 (Ev.bind (toFrame_ev a b t hl) (ev_bindc g2 (Ev.bind (eqByteS_ev hd) (ev_pos rfl ?_)))))
  simp only [bne_self_eq_false]
  apply ev_succ
  simp only [laws_FnExactFrameBytes.j0, Bool.false_eq_true, if_false, bne_self_eq_false]
  refine Ev.bind (toFrame_ev a b t hl) (Ev.bind (eqFrame_ev a b t hl) (ev_pos rfl (Ev.bind (markFrame_ev a b t hl) (ev_neg (by simp only; omega) (Ev.bind (eqByteS_ev hd) (ev_pos rfl ?_))))))
  apply ev_succ
  simp only [laws_FnExactFrameBytes.j1, Bool.false_eq_true, if_false]
  refine Ev.bind (mark_ev hd (by omega)) (Ev.bind (held_ev d.length hd (by omega)) (ev_neg (by omega) (ev_pos rfl ?_)))
  refine Ev.bind (toFrame_ev a b t hl) (ev_bindc g2 (Ev.bind (eqByteS_ev hd) (ev_pos rfl ?_)))
  simp only [bne_self_eq_false]
  apply ev_succ
  simp only [laws_FnExactFrameBytes.j2, Bool.false_eq_true, if_false]
  exact Ev.bind (held_ev d.length hd (by omega)) (ev_neg (by omega) (ev_pos rfl (Ev.now _)))

end Go.Proofs.Ytjfpkfophfelmaa.Pure
