/- The program's ReadFrame answers what the reference's answers, for every list of bytes, in new memory; no condition. -/
import Derived.Test.YtblmghlopolknaaSaysFnExactReadFrame
import Derived.Test.YtblmghlopolknaaAid
namespace Go.Proofs.Ytblmghlopolknaa.Pure
open Go.RowKit Go.Proofs.Ytblmghlopolknaa.QFnExactReadFrame Go.Proofs.YtblmghlopolknaaW.PrintWords Go.Proofs.YtblmghlopolknaaW.PrintLast Go.Proofs.Ytblmghlopolknaa.Aid

theorem spec_in (a b c : Int) : spec_l01In.f a b c = some (decide (b ≤ a ∧ a ≤ c)) := by
  unfold spec_l01In.f
  split <;> simp <;> omega
theorem impl_in (a b c : Int) : impl_inRange.f a b c = some (decide (b ≤ a ∧ a ≤ c)) := by
  unfold impl_inRange.f
  split <;> simp <;> omega
/-! ### toByteS, eqByteS: a copy; whether two lists are alike -/
theorem toByteS_loop (l : List Int) (hl : l.length ≤ 140737488355328) (d : Nat) : ∀ (acc : List Int) (i : Nat), acc.length = l.length → acc.take i = l.take i → i + d = l.length → Ev (fun k => laws_toByteS.l0 k l acc i) l := by
  induction d with
  | zero =>
    intro acc i h1 h2 h3
    have e : acc = l := by
      rw [List.take_of_length_le (by omega), List.take_of_length_le (by omega)] at h2
      exact h2
    subst e
    apply ev_succ
    simp only [laws_toByteS.l0]
    exact ev_neg (by omega) (Ev.now _)
  | succ d ih =>
    intro acc i h1 h2 h3
    have hw : wrap64 ((i : Int) + 1) = ((i + 1 : Nat) : Int) := by rw [wrap64_in (by omega) (by omega)]; omega
    apply ev_succ
    simp only [laws_toByteS.l0, hw]
    refine ev_pos (by omega) (ev_pos (by omega) (ev_pos (by omega) ?_))
    refine ih _ (i + 1) (by simp [h1]) ?_ (by omega)
    have hi : i < l.length := by omega
    have hj : i < acc.length := by omega
    rw [List.take_succ_eq_append_getElem (by simpa using hj), List.take_succ_eq_append_getElem hi, rd_at l rfl hi]
    simp [List.take_set_of_le, h2]
theorem toByteS_ev {l : List Int} (hl : l.length ≤ 140737488355328) : Ev (fun k => laws_toByteS.f k l) l := by
  unfold laws_toByteS.f
  refine ev_pos (by omega) (ev_pos (by omega) ?_)
  exact toByteS_loop l hl l.length _ 0 (by simp) (by simp) (by omega)
theorem eqByteS_loop (l : List Int) (hl : l.length ≤ 140737488355328) (d : Nat) : ∀ (i : Nat), i + d = l.length → Ev (fun k => laws_eqByteS.l0 k l l i) true := by
  induction d with
  | zero =>
    intro i h
    apply ev_succ
    simp only [laws_eqByteS.l0]
    exact ev_neg (by omega) (Ev.now _)
  | succ d ih =>
    intro i h
    have hw : wrap64 ((i : Int) + 1) = ((i + 1 : Nat) : Int) := by rw [wrap64_in (by omega) (by omega)]; omega
    apply ev_succ
    simp only [laws_eqByteS.l0, hw]
    exact ev_pos (by omega) (ev_pos (by omega) (ev_pos (by omega) (ev_pos trivial (ih (i + 1) (by omega)))))
theorem eqByteS_ev {l : List Int} (hl : l.length ≤ 140737488355328) : Ev (fun k => laws_eqByteS.f k l l) true := by
  unfold laws_eqByteS.f
  exact ev_pos rfl (eqByteS_loop l hl l.length 0 (by omega))
/-! ### Marks: numbers written into a row of bytes, and looked for -/
theorem mark_loop (n : Nat) (hn : n ≤ 140737488355328) (m : Int) (hm : 0 ≤ m ∧ m ≤ 1000000000000) (d : Nat) : ∀ (acc : List Int) (i : Nat), acc.length = n → acc.take i = markL i m → i + d = n → Ev (fun k => laws_markByteS.l0 k acc (m + i) i) (m + n, markL n m) := by
  induction d with
  | zero =>
    intro acc i h1 h2 h3
    rw [List.take_of_length_le (by omega)] at h2
    obtain rfl : i = n := by omega
    subst h2
    apply ev_succ
    simp only [laws_markByteS.l0]
    exact ev_neg (by omega) (Ev.now _)
  | succ d ih =>
    intro acc i h1 h2 h3
    have hw : wrap64 ((i : Int) + 1) = ((i + 1 : Nat) : Int) := by rw [wrap64_in (by omega) (by omega)]; omega
    have hw2 : wrap64 (m + (i : Int) + 1) = m + ((i + 1 : Nat) : Int) := by rw [wrap64_in (by omega) (by omega)]; omega
    apply ev_succ
    simp only [laws_markByteS.l0, hw, hw2]
    refine ev_pos (by omega) (ev_pos (by omega) ?_)
    refine ih _ (i + 1) (by simp [h1]) ?_ (by omega)
    have hj : i < acc.length := by omega
    rw [Int.toNat_natCast, List.take_succ_eq_append_getElem (by simpa using hj), markL_succ]
    simp [List.take_set_of_le, h2]
theorem mark_ev {l : List Int} (hl : l.length ≤ 140737488355328) {m : Int} (hm : 0 ≤ m ∧ m ≤ 1000000000000) : Ev (fun k => laws_markByteS.f k l m) (m + l.length, markL l.length m) := by
  have g := mark_loop l.length hl m hm l.length l 0 rfl rfl (by omega)
  have e : m + ((0 : Nat) : Int) = m := by omega
  rw [e] at g
  exact g
theorem held_loop (n : Nat) (hn : n ≤ 140737488355328) (m : Int) (hm : 0 ≤ m ∧ m ≤ 1000000000000) (d : Nat) : ∀ (i : Nat), i + d = n → Ev (fun k => laws_heldByteS.l0 k (markL n m) (m + i) i) (m + n) := by
  induction d with
  | zero =>
    intro i h3
    obtain rfl : i = n := by omega
    apply ev_succ
    simp only [laws_heldByteS.l0]
    exact ev_neg (by rw [markL_length]; omega) (Ev.now _)
  | succ d ih =>
    intro i h3
    have hw : wrap64 ((i : Int) + 1) = ((i + 1 : Nat) : Int) := by rw [wrap64_in (by omega) (by omega)]; omega
    have hw2 : wrap64 (m + (i : Int) + 1) = m + ((i + 1 : Nat) : Int) := by rw [wrap64_in (by omega) (by omega)]; omega
    apply ev_succ
    simp only [laws_heldByteS.l0, hw, hw2, markL_rd n m i (by omega), if_true]
    exact ev_pos (by rw [markL_length]; omega) (ev_pos (by omega) (ih (i + 1) (by omega)))
theorem held_ev (n : Nat) (hn : n ≤ 140737488355328) {m : Int} (hm : 0 ≤ m ∧ m ≤ 1000000000000) : Ev (fun k => laws_heldByteS.f k (markL n m) m) (m + n) := by
  have g := held_loop n hn m hm n 0 (by omega)
  have e : m + ((0 : Nat) : Int) = m := by omega
  rw [e] at g
  exact g
/-! ### The number in two bytes -/
theorem specAt_ev {l : List Int} (hb : Bytes l) {a : Int} (h0 : 0 ≤ a) (h1 : a + 1 < l.length) (h2 : l.length ≤ 1000000000) : spec_l01At.f l a = some (rd l a * 256 + rd l (a + 1)) := by
  have b1 := rd_byte hb a
  have b2 := rd_byte hb (a + 1)
  have hw : wrap64 (a + 1) = a + 1 := wrap64_in (by omega) (by omega)
  unfold spec_l01At.f
  rw [hw, if_pos h0, if_pos (by omega), if_pos (by omega), if_pos h1, wrap_rd hb, wrap_rd hb, wrap64_in (n := rd l a * 256) (by omega) (by omega), wrap64_in (by omega) (by omega)]
theorem implAt_ev {l : List Int} (hb : Bytes l) {a : Int} (h0 : 0 ≤ a) (h1 : a + 1 < l.length) (h2 : l.length ≤ 1000000000) : impl_at16.f l a = some (rd l a * 256 + rd l (a + 1)) := by
  have b1 := rd_byte hb a
  have b2 := rd_byte hb (a + 1)
  have hw : wrap64 (a + 1) = a + 1 := wrap64_in (by omega) (by omega)
  unfold impl_at16.f
  rw [hw, if_pos h0, if_pos (by omega), if_pos (by omega), if_pos h1, wrap_rd hb, wrap_rd hb, wrap64_in (n := rd l a * 256) (by omega) (by omega), or_8 (by omega) (by omega) (by omega) (by omega) (by omega)]

/-- What both answer. -/
def frameOf (l : List Int) : ByteArray × ByteArray × Int × List Int × Int :=
  if (l.length : Int) > 65536 then (⟨#[]⟩, ⟨#[]⟩, 0, [], 2)
  else if 14 ≤ l.length ∧ l.length ≤ 1614 ∧ 1536 ≤ rd l 12 * 256 + rd l 13 then (strOfNums (l.take 6), strOfNums ((l.take 12).drop 6), rd l 12 * 256 + rd l 13, l.drop 14, 0)
  else (⟨#[]⟩, ⟨#[]⟩, 0, [], 3)
theorem specFrame_ev {l : List Int} (hb : Bytes l) : spec_ReadFrame.f l = some (frameOf l) := by
  have b1 := rd_byte hb 12
  have b2 := rd_byte hb 13
  unfold spec_ReadFrame.f frameOf
  by_cases h1 : (l.length : Int) > 65536
  · rw [if_pos h1, if_pos h1]
  · rw [if_neg h1, if_neg h1]
    unfold spec_l09Read.f
    by_cases h2 : (l.length : Int) < 14
    · rw [if_pos h2, if_neg (by omega)]
      simp
    · have hs1 : (strOfNums (l.take 6)).size = 6 := by rw [strOfNums_size, List.length_take]; omega
      have hs2 : (strOfNums ((l.take 12).drop 6)).size = 6 := by rw [strOfNums_size, List.length_drop, List.length_take]; omega
      have ha := specAt_ev hb (a := 12) (by omega) (by omega) (by omega)
      rw [if_neg h2, if_pos (by omega), if_pos (by omega), if_pos (by omega), ha]
      simp only [Option.bind_some, List.nil_append, List.length_nil]
      rw [if_pos (by omega), if_pos (by simp; omega)]
      unfold spec_l09Frame.f
      simp only [hs1, hs2, spec_in, Option.bind_some, Int.cast_ofNat_Int, if_true, Int.reduceAdd]
      by_cases h3 : 1536 ≤ rd l 12 * 256 + rd l 13
      · have h3' : 1536 ≤ rd l 12 * 256 + rd l 13 ∧ rd l 12 * 256 + rd l 13 ≤ 65535 := by omega
        by_cases h4 : l.length ≤ 1614
        · have h5 : (((l.drop 14).length : Nat) : Int) ≤ 1600 := by simp only [List.length_drop]; omega
          have h6 : 14 ≤ l.length ∧ l.length ≤ 1614 ∧ 1536 ≤ rd l 12 * 256 + rd l 13 := ⟨by omega, h4, h3⟩
          rw [if_pos h6]
          simp only [h3', h5, and_self, decide_true, if_true, Option.bind_some]
        · have h5 : ¬ (((l.drop 14).length : Nat) : Int) ≤ 1600 := by simp only [List.length_drop]; omega
          have h6 : ¬ (14 ≤ l.length ∧ l.length ≤ 1614 ∧ 1536 ≤ rd l 12 * 256 + rd l 13) := fun h => h4 h.2.1
          rw [if_neg h6]
          simp only [h3', h5, and_self, decide_true, decide_false, if_true, if_false, Bool.false_eq_true, Option.bind_some]
      · have h3' : ¬ (1536 ≤ rd l 12 * 256 + rd l 13 ∧ rd l 12 * 256 + rd l 13 ≤ 65535) := by omega
        have h6 : ¬ (14 ≤ l.length ∧ l.length ≤ 1614 ∧ 1536 ≤ rd l 12 * 256 + rd l 13) := fun h => h3 h.2.2
        rw [if_neg h6]
        simp only [h3', decide_false, if_false, Bool.false_eq_true, Option.bind_some]
theorem implFrame_ev {l : List Int} (hb : Bytes l) : impl_ReadFrame.f l = some (frameOf l) := by
  have b1 := rd_byte hb 12
  have b2 := rd_byte hb 13
  unfold impl_ReadFrame.f frameOf
  by_cases h1 : (l.length : Int) > 65536
  · rw [if_pos h1, if_pos h1]
  · rw [if_neg h1, if_neg h1]
    simp only [impl_in, Option.bind_some]
    by_cases h2 : 14 ≤ (l.length : Int) ∧ (l.length : Int) ≤ 1614
    · have ha := implAt_ev hb (a := 12) (by omega) (by omega) (by omega)
      simp only [h2, and_self, decide_true, if_true, ha, Option.bind_some, Int.reduceAdd]
      by_cases h3 : rd l 12 * 256 + rd l 13 < 1536
      · rw [if_pos h3, if_neg (by omega)]
      · rw [if_neg h3, if_pos (by omega), if_pos (by omega), if_pos (by omega), if_pos (by simp; omega), if_pos (by omega)]
        simp
    · simp only [h2, decide_false, Bool.false_eq_true, if_false]
      rw [if_neg (by omega)]
theorem eqFrame_ev (a b : ByteArray) (t : Int) {l : List Int} (hl : l.length ≤ 140737488355328) : Ev (fun k => laws_eqFrame.f k a b t l a b t l) true := by
  unfold laws_eqFrame.f
  simp only [if_true]
  exact Ev.bind (eqByteS_ev hl) (ev_pos rfl (Ev.now _))
theorem markFrame_ev (a b : ByteArray) (t : Int) {l : List Int} (hl : l.length ≤ 140737488355328) : Ev (fun k => laws_markFrame.f k a b t l 1) (1 + (l.length : Int), markL l.length 1) := by
  unfold laws_markFrame.f
  exact Ev.bind (mark_ev hl (by omega)) (Ev.now _)
theorem heldFrame_ev (a b : ByteArray) (t : Int) (n : Nat) (hn : n ≤ 140737488355328) : Ev (fun k => laws_heldFrame.f k a b t (markL n 1) 1) (1 + (n : Int)) := by
  unfold laws_heldFrame.f
  exact Ev.bind (held_ev n hn (by omega)) (ev_neg (by omega) (Ev.now _))
theorem frameOf_length (l : List Int) (hl : l.length ≤ 1048576) : (frameOf l).2.2.2.1.length ≤ 140737488355328 := by
  unfold frameOf
  split
  · simp
  · split
    · simp
      omega
    · simp

theorem FnExactReadFrame : SaysFnExactReadFrame.Says := by
  intro l h0
  have hb := Bytes.of_wf h0.2
  refine Ev.rounds (g := fun k => laws_FnExactReadFrame.f k l) ?_
  unfold laws_FnExactReadFrame.f
  refine ev_ite (fun _ => Ev.now _) (fun hs => ?_)
  have hl : l.length ≤ 140737488355328 := by omega
  have g1 := specFrame_ev hb
  have g2 := implFrame_ev hb
  have hq := frameOf_length l (by omega)
  generalize frameOf l = r at g1 g2 hq
  obtain ⟨a, b, t, d, c⟩ := r
  refine Ev.bind (toByteS_ev hl) (ev_bindc g1 (Ev.bind (toByteS_ev hl) (ev_bindc g2 (Ev.bind (eqFrame_ev a b t hq) (ev_pos rfl ?_)))))
  simp only [bne_self_eq_false]
  apply ev_succ
  simp only [laws_FnExactReadFrame.j0, Bool.false_eq_true, if_false, bne_self_eq_false]
  refine Ev.bind (toByteS_ev hl) (Ev.bind (eqByteS_ev hl) (ev_pos rfl (Ev.bind (mark_ev hl (by omega)) (ev_neg (by simp only; omega) (Ev.bind (eqFrame_ev a b t hq) (ev_pos rfl ?_))))))
  apply ev_succ
  simp only [laws_FnExactReadFrame.j1, Bool.false_eq_true, if_false]
  refine Ev.bind (markFrame_ev a b t hq) (Ev.bind (heldFrame_ev a b t d.length hq) (ev_neg (by omega) (ev_pos rfl ?_)))
  refine Ev.bind (toByteS_ev hl) (ev_bindc g2 (Ev.bind (eqFrame_ev a b t hq) (ev_pos rfl ?_)))
  simp only [bne_self_eq_false]
  apply ev_succ
  simp only [laws_FnExactReadFrame.j2, Bool.false_eq_true, if_false]
  exact Ev.bind (heldFrame_ev a b t d.length hq) (ev_neg (by omega) (ev_pos rfl (Ev.now _)))

end Go.Proofs.Ytblmghlopolknaa.Pure
