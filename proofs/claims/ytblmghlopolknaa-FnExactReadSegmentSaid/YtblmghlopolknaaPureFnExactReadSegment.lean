/- The program's ReadSegment answers what the reference's answers, for every list of bytes; no condition. -/
import Derived.Test.YtblmghlopolknaaSaysFnExactReadSegment
import Derived.Test.YtblmghlopolknaaSum
namespace Go.Proofs.Ytblmghlopolknaa.Pure
open Go.RowKit Go.Proofs.Ytblmghlopolknaa.QFnExactReadSegment Go.Proofs.YtblmghlopolknaaW.PrintWords Go.Proofs.YtblmghlopolknaaW.PrintLast Go.Proofs.Ytblmghlopolknaa.Aid

theorem spec_in (a b c : Int) : spec_l01In.f a b c = some (decide (b ≤ a ∧ a ≤ c)) := by
  unfold spec_l01In.f
  split <;> simp <;> omega
theorem impl_in (a b c : Int) : impl_inRange.f a b c = some (decide (b ≤ a ∧ a ≤ c)) := by
  unfold impl_inRange.f
  split <;> simp <;> omega
/-! ### toByteS, eqByteS: a copy; whether two lists are alike -/
theorem toByteS_loop (l : List Int) (hl : l.length ≤ 140737488355328) (d : Nat) : ∀ (acc : List Int) (i : Nat), acc.length = l.length → acc.take i = l.take i → i + d = l.length → Ev (fun k => laws_toByteS.l0 k l acc i) l := by
  induction d with
  | zero =>
    intro acc i h1 h2 h3
    have e : acc = l := by
      rw [List.take_of_length_le (by omega), List.take_of_length_le (by omega)] at h2
      exact h2
    subst e
    apply ev_succ
    simp only [laws_toByteS.l0]
    exact ev_neg (by omega) (Ev.now _)
  | succ d ih =>
    intro acc i h1 h2 h3
    have hw : wrap64 ((i : Int) + 1) = ((i + 1 : Nat) : Int) := by rw [wrap64_in (by omega) (by omega)]; omega
    apply ev_succ
    simp only [laws_toByteS.l0, hw]
    refine ev_pos (by omega) (ev_pos (by omega) (ev_pos (by omega) ?_))
    refine ih _ (i + 1) (by simp [h1]) ?_ (by omega)
    have hi : i < l.length := by omega
    have hj : i < acc.length := by omega
    rw [List.take_succ_eq_append_getElem (by simpa using hj), List.take_succ_eq_append_getElem hi, rd_at l rfl hi]
    simp [List.take_set_of_le, h2]
theorem toByteS_ev {l : List Int} (hl : l.length ≤ 140737488355328) : Ev (fun k => laws_toByteS.f k l) l := by
  unfold laws_toByteS.f
  refine ev_pos (by omega) (ev_pos (by omega) ?_)
  exact toByteS_loop l hl l.length _ 0 (by simp) (by simp) (by omega)
theorem eqByteS_loop (l : List Int) (hl : l.length ≤ 140737488355328) (d : Nat) : ∀ (i : Nat), i + d = l.length → Ev (fun k => laws_eqByteS.l0 k l l i) true := by
  induction d with
  | zero =>
    intro i h
    apply ev_succ
    simp only [laws_eqByteS.l0]
    exact ev_neg (by omega) (Ev.now _)
  | succ d ih =>
    intro i h
    have hw : wrap64 ((i : Int) + 1) = ((i + 1 : Nat) : Int) := by rw [wrap64_in (by omega) (by omega)]; omega
    apply ev_succ
    simp only [laws_eqByteS.l0, hw]
    exact ev_pos (by omega) (ev_pos (by omega) (ev_pos (by omega) (ev_pos trivial (ih (i + 1) (by omega)))))
theorem eqByteS_ev {l : List Int} (hl : l.length ≤ 140737488355328) : Ev (fun k => laws_eqByteS.f k l l) true := by
  unfold laws_eqByteS.f
  exact ev_pos rfl (eqByteS_loop l hl l.length 0 (by omega))
/-! ### The sums of the two packages -/
theorem specSum_l1 (d : Nat) : ∀ n : Int, 0 ≤ n → n ≤ 4611756387171566592 → n ≤ d → Ev (fun k => spec_l01Sum.l1 k n) (65535 - fold n) := by
  induction d with
  | zero =>
    intro n h0 h1 h2
    have e : wrap64 (65535 - n) = 65535 - fold n := by rw [fold_small h0 (by omega), wrap64_in (by omega) (by omega)]
    apply ev_succ
    simp only [spec_l01Sum.l1, e]
    exact ev_neg (by omega) (Ev.now _)
  | succ d ih =>
    intro n h0 h1 h2
    by_cases hn : n > 65535
    · have e1 : wrap64 ((Int.tmod n 65536) + (wrap64 (Int.tdiv n 65536))) = n % 65536 + n / 65536 := by
        rw [Int.tmod_eq_emod_of_nonneg h0, Int.tdiv_eq_ediv_of_nonneg h0, wrap64_in (n := n / 65536) (by omega) (by omega), wrap64_in (by omega) (by omega)]
      have g := ih (n % 65536 + n / 65536) (by omega) (by omega) (by omega)
      rw [fold_step hn] at g
      apply ev_succ
      simp only [spec_l01Sum.l1]
      refine ev_pos hn ?_
      rw [e1]
      exact g
    · have e : wrap64 (65535 - n) = 65535 - fold n := by rw [fold_small h0 (by omega), wrap64_in (by omega) (by omega)]
      apply ev_succ
      simp only [spec_l01Sum.l1, e]
      exact ev_neg (by omega) (Ev.now _)
theorem specSum_l0 (l : List Int) (hb : Bytes l) (hl : l.length ≤ 140737488355328) (d : Nat) : ∀ (i : Nat) (s : Int), 2 ∣ i → l.length ≤ i + d → 0 ≤ s → s + wsum (l.drop i) ≤ 4611756387171566592 → Ev (fun k => spec_l01Sum.l0 k l s i) (65535 - fold (s + wsum (l.drop i))) := by
  induction d using Nat.strongRecOn with
  | _ d ih =>
    intro i s h2 hd h0 h1
    have hr := wsum_drop_nonneg hb i
    by_cases c : i < l.length
    · have hm : Int.tmod (i : Int) 2 = 0 := by rw [Int.tmod_eq_emod_of_nonneg (by omega)]; omega
      have b1 := rd_byte hb i
      by_cases c2 : i + 1 < l.length
      · have b2 := rd_byte hb ((i + 1 : Nat) : Int)
        have hm2 : ¬ Int.tmod ((i + 1 : Nat) : Int) 2 = 0 := by rw [Int.tmod_eq_emod_of_nonneg (by omega)]; omega
        have hw : wrap64 ((i : Int) + 1) = ((i + 1 : Nat) : Int) := by rw [wrap64_in (by omega) (by omega)]; omega
        have hw2 : wrap64 (((i + 1 : Nat) : Int) + 1) = ((i + 2 : Nat) : Int) := by rw [wrap64_in (by omega) (by omega)]; omega
        have e := wsum_drop2 l i c2
        have hr2 := wsum_drop_nonneg hb (i + 2)
        rw [e] at h1
        have g := ih (d - 2) (by omega) (i + 2) (s + (rd l i * 256 + rd l ((i + 1 : Nat) : Int))) (by omega) (by omega) (by omega) (by omega)
        have w1 : wrap64 (rd l i * 256) = rd l i * 256 := wrap64_in (by omega) (by omega)
        have w2 : wrap64 (s + rd l i * 256) = s + rd l i * 256 := wrap64_in (by omega) (by omega)
        have w3 : wrap64 (s + rd l i * 256 + rd l ((i + 1 : Nat) : Int)) = s + (rd l i * 256 + rd l ((i + 1 : Nat) : Int)) := by rw [wrap64_in (by omega) (by omega)]; omega
        rw [e, show s + (rd l i * 256 + rd l ((i + 1 : Nat) : Int) + wsum (l.drop (i + 2))) = s + (rd l i * 256 + rd l ((i + 1 : Nat) : Int)) + wsum (l.drop (i + 2)) from by omega]
        apply ev_succ
        simp only [spec_l01Sum.l0, hw, wrap_rd hb, w1, w2]
        refine ev_pos (by omega) (ev_pos hm (ev_pos (by omega) ?_))
        apply ev_succ
        simp only [spec_l01Sum.l0, hw2, wrap_rd hb, w3]
        exact ev_pos (by omega) (ev_neg hm2 (ev_pos (by omega) g))
      · have e := wsum_drop1 l i (by omega)
        rw [e] at h1
        rw [e]
        have hw : wrap64 ((i : Int) + 1) = ((i + 1 : Nat) : Int) := by rw [wrap64_in (by omega) (by omega)]; omega
        have w1 : wrap64 (rd l i * 256) = rd l i * 256 := wrap64_in (by omega) (by omega)
        have w2 : wrap64 (s + rd l i * 256) = s + rd l i * 256 := wrap64_in (by omega) (by omega)
        apply ev_succ
        simp only [spec_l01Sum.l0, hw, wrap_rd hb, w1, w2]
        refine ev_pos (by omega) (ev_pos hm (ev_pos (by omega) ?_))
        apply ev_succ
        simp only [spec_l01Sum.l0]
        refine ev_neg (by omega) ?_
        exact specSum_l1 (s + rd l i * 256).toNat _ (by omega) (by omega) (by omega)
    · have e := wsum_drop0 l i (by omega)
      rw [e] at h1
      rw [e]
      apply ev_succ
      simp only [spec_l01Sum.l0]
      refine ev_neg (by omega) ?_
      rw [Int.add_zero]
      exact specSum_l1 s.toNat s h0 (by omega) (by omega)
theorem specSum_ev {l : List Int} (hb : Bytes l) (hl : l.length ≤ 140737488355328) : Ev (fun k => spec_l01Sum.f k l) (csum l) := by
  have h := wsum_range l hb
  have g := specSum_l0 l hb hl l.length 0 0 (by omega) (by omega) (by omega) (by simp only [List.drop_zero]; omega)
  simp only [List.drop_zero, Int.zero_add] at g
  exact g
theorem implFold_l1 (d : Nat) : ∀ n : Int, 0 ≤ n → n ≤ 4611686018427387903 → n ≤ d → Ev (fun k => impl_foldSum.l1 k n) (fold n) := by
  induction d with
  | zero =>
    intro n h0 h1 h2
    rw [fold_small h0 (by omega)]
    apply ev_succ
    simp only [impl_foldSum.l1]
    exact ev_neg (by omega) (Ev.now _)
  | succ d ih =>
    intro n h0 h1 h2
    by_cases hn : n > 65535
    · have e2 : wrap64 ((Go.bits .and .i64 n 65535) + (n / 65536)) = n % 65536 + n / 65536 := by
        rw [and_65535 h0 (by omega), wrap64_in (by omega) (by omega)]
      have g := ih (n % 65536 + n / 65536) (by omega) (by omega) (by omega)
      rw [fold_step hn] at g
      apply ev_succ
      simp only [impl_foldSum.l1]
      refine ev_pos hn ?_
      rw [e2]
      exact g
    · rw [fold_small h0 (by omega)]
      apply ev_succ
      simp only [impl_foldSum.l1]
      exact ev_neg (by omega) (Ev.now _)
theorem implFold_l0 (l : List Int) (hb : Bytes l) (hl : l.length ≤ 1000000000) (d : Nat) : ∀ (i : Nat) (s : Int), l.length ≤ i + d → 0 ≤ s → s + wsum (l.drop i) ≤ 4611686018427387903 → Ev (fun k => impl_foldSum.l0 k l s i) (fold (s + wsum (l.drop i))) := by
  induction d using Nat.strongRecOn with
  | _ d ih =>
    intro i s hd h0 h1
    have hr := wsum_drop_nonneg hb i
    by_cases c : i < l.length
    · have b1 := rd_byte hb i
      have hw : wrap64 ((i : Int) + 1) = ((i + 1 : Nat) : Int) := by rw [wrap64_in (by omega) (by omega)]; omega
      have hw2 : wrap64 ((i : Int) + 2) = ((i + 2 : Nat) : Int) := by rw [wrap64_in (by omega) (by omega)]; omega
      have w1 : wrap64 (rd l i * 256) = rd l i * 256 := wrap64_in (by omega) (by omega)
      by_cases c2 : i + 1 < l.length
      · have b2 := rd_byte hb ((i + 1 : Nat) : Int)
        have e := wsum_drop2 l i c2
        have hr2 := wsum_drop_nonneg hb (i + 2)
        rw [e] at h1
        have g := ih (d - 2) (by omega) (i + 2) (s + (rd l i * 256 + rd l ((i + 1 : Nat) : Int))) (by omega) (by omega) (by omega)
        have w2 : wrap64 (s + rd l i * 256) = s + rd l i * 256 := wrap64_in (by omega) (by omega)
        have w3 : wrap64 (s + rd l i * 256 + rd l ((i + 1 : Nat) : Int)) = s + (rd l i * 256 + rd l ((i + 1 : Nat) : Int)) := by rw [wrap64_in (by omega) (by omega)]; omega
        rw [e, show s + (rd l i * 256 + rd l ((i + 1 : Nat) : Int) + wsum (l.drop (i + 2))) = s + (rd l i * 256 + rd l ((i + 1 : Nat) : Int)) + wsum (l.drop (i + 2)) from by omega]
        apply ev_succ
        simp only [impl_foldSum.l0, hw, hw2, wrap_rd hb, w1, w2, w3]
        exact ev_pos (by omega) (ev_pos (by omega) (ev_pos (by omega) (ev_pos (by omega) g)))
      · have e := wsum_drop1 l i (by omega)
        rw [e] at h1
        have g := ih (d - 1) (by omega) (i + 2) (s + rd l i * 256) (by omega) (by omega) (by rw [wsum_drop0 l (i + 2) (by omega)]; omega)
        rw [wsum_drop0 l (i + 2) (by omega), Int.add_zero] at g
        rw [e]
        have w2 : wrap64 (s + rd l i * 256) = s + rd l i * 256 := wrap64_in (by omega) (by omega)
        apply ev_succ
        simp only [impl_foldSum.l0, hw, hw2, wrap_rd hb, w1, w2]
        exact ev_pos (by omega) (ev_pos (by omega) (ev_neg (by omega) g))
    · have e := wsum_drop0 l i (by omega)
      rw [e] at h1
      rw [e]
      apply ev_succ
      simp only [impl_foldSum.l0]
      refine ev_neg (by omega) ?_
      rw [Int.add_zero]
      exact implFold_l1 s.toNat s h0 (by omega) (by omega)
theorem implFold_ev {l : List Int} (hb : Bytes l) (hl : l.length ≤ 1000000000) : Ev (fun k => impl_foldSum.f k l) (fold (wsum l)) := by
  have h := wsum_range l hb
  have g := implFold_l0 l hb hl l.length 0 0 (by omega) (by omega) (by simp only [List.drop_zero]; omega)
  simp only [List.drop_zero, Int.zero_add] at g
  exact g
theorem implSum_ev {l : List Int} (hb : Bytes l) (hl : l.length ≤ 1000000000) : Ev (fun k => impl_checkSum.f k l) (csum l) := by
  have h := fold_range (wsum_range l hb).1
  have e : wrap64 (65535 - fold (wsum l)) = csum l := by rw [wrap64_in (by omega) (by omega)]; rfl
  unfold impl_checkSum.f
  refine Ev.bind (implFold_ev hb hl) ?_
  rw [e]
  exact Ev.now _
/-! ### The number in two bytes -/
theorem specAt_ev {l : List Int} (hb : Bytes l) {a : Int} (h0 : 0 ≤ a) (h1 : a + 1 < l.length) (h2 : l.length ≤ 1000000000) : spec_l01At.f l a = some (rd l a * 256 + rd l (a + 1)) := by
  have b1 := rd_byte hb a
  have b2 := rd_byte hb (a + 1)
  have hw : wrap64 (a + 1) = a + 1 := wrap64_in (by omega) (by omega)
  unfold spec_l01At.f
  rw [hw, if_pos h0, if_pos (by omega), if_pos (by omega), if_pos h1, wrap_rd hb, wrap_rd hb, wrap64_in (n := rd l a * 256) (by omega) (by omega), wrap64_in (by omega) (by omega)]
theorem implAt_ev {l : List Int} (hb : Bytes l) {a : Int} (h0 : 0 ≤ a) (h1 : a + 1 < l.length) (h2 : l.length ≤ 1000000000) : impl_at16.f l a = some (rd l a * 256 + rd l (a + 1)) := by
  have b1 := rd_byte hb a
  have b2 := rd_byte hb (a + 1)
  have hw : wrap64 (a + 1) = a + 1 := wrap64_in (by omega) (by omega)
  unfold impl_at16.f
  rw [hw, if_pos h0, if_pos (by omega), if_pos (by omega), if_pos h1, wrap_rd hb, wrap_rd hb, wrap64_in (n := rd l a * 256) (by omega) (by omega), or_8 (by omega) (by omega) (by omega) (by omega) (by omega)]
/-! ### Is a segment right -/
def segOK (q : Int) (s : ByteArray) (f : Bool) : Bool := decide (0 ≤ q ∧ q ≤ 4294967295) && decide (s.size ≤ 16) && (f || decide (s.size > 0))
theorem specSeg_ev (q : Int) (s : ByteArray) (f : Bool) : spec_l08Segment.f q s f = some (segOK q s f) := by
  unfold spec_l08Segment.f segOK
  simp only [spec_in, Option.bind_some]
  by_cases h1 : 0 ≤ q ∧ q ≤ 4294967295
  · by_cases h2 : s.size ≤ 16
    · cases f
      · simp [h1, h2]
        omega
      · simp [h1, h2]
        omega
    · have h2' : ¬ (s.size : Int) ≤ 16 := by omega
      simp [h1, h2, h2']
  · simp [h1]
theorem implSeg_ev (q : Int) (s : ByteArray) (f : Bool) : impl_segmentOK.f q s f = some (segOK q s f) := by
  unfold impl_segmentOK.f segOK
  simp only [impl_in, Option.bind_some]
  by_cases h1 : 0 ≤ q ∧ q ≤ 4294967295
  · by_cases h2 : s.size ≤ 16
    · cases f
      · simp [h1, h2]
        omega
      · simp [h1, h2]
        omega
    · have h2' : ¬ (s.size : Int) ≤ 16 := by omega
      simp [h1, h2, h2']
  · simp [h1]

def seqOf (l : List Int) : Int := rd l 0 * 16777216 + rd l 1 * 65536 + rd l 2 * 256 + rd l 3
def noSeg (c : Int) : Int × ByteArray × Bool × Int := (0, ⟨#[]⟩, false, c)
/-- What both answer behind the looks at the form. -/
def segTail (l : List Int) (bad : Bool) : Int × ByteArray × Bool × Int :=
  if bad = true then noSeg 3
  else if csum (l.take (l.length - 2)) = rd l ((l.length - 2 : Nat) : Int) * 256 + rd l (((l.length - 2 : Nat) : Int) + 1) then
    if segOK (seqOf l) (strOfNums ((l.take (l.length - 2)).drop 6)) (rd l 4 == 1) = true then (seqOf l, strOfNums ((l.take (l.length - 2)).drop 6), (rd l 4 == 1), 0) else noSeg 1
  else noSeg 8
def segOf (l : List Int) : Int × ByteArray × Bool × Int :=
  if (l.length : Int) > 65536 then noSeg 2
  else if (l.length : Int) < 8 then noSeg 3
  else if (l.length : Int) = 8 + rd l 5 then segTail l (decide (rd l 4 > 1))
  else noSeg 3

theorem seq_spec {l : List Int} (hb : Bytes l) : Go.bits .or .i64 (Go.bits .or .i64 (Go.bits .or .i64 (wrap64 ((wrap64 (rd l 0)) * 16777216)) (wrap64 ((wrap64 (rd l 1)) * 65536))) (wrap64 ((wrap64 (rd l 2)) * 256))) (wrap64 (rd l 3)) = seqOf l := by
  have b0 := rd_byte hb 0
  have b1 := rd_byte hb 1
  have b2 := rd_byte hb 2
  have b3 := rd_byte hb 3
  unfold seqOf
  rw [wrap_rd hb, wrap_rd hb, wrap_rd hb, wrap_rd hb, wrap64_in (n := rd l 0 * 16777216) (by omega) (by omega), wrap64_in (n := rd l 1 * 65536) (by omega) (by omega), wrap64_in (n := rd l 2 * 256) (by omega) (by omega)]
  rw [or_24 (x := rd l 0 * 16777216) (y := rd l 1 * 65536) (by omega) (by omega) (by omega) (by omega) (by omega), or_16 (x := rd l 0 * 16777216 + rd l 1 * 65536) (y := rd l 2 * 256) (by omega) (by omega) (by omega) (by omega) (by omega), or_8 (x := rd l 0 * 16777216 + rd l 1 * 65536 + rd l 2 * 256) (y := rd l 3) (by omega) (by omega) (by omega) (by omega) (by omega)]
theorem seq_impl {l : List Int} (hb : Bytes l) : Go.bits .or .i64 (wrap64 ((rd l 0 * 256 + rd l (0 + 1)) * 65536)) (rd l 2 * 256 + rd l (2 + 1)) = seqOf l := by
  have b0 := rd_byte hb 0
  have b1 := rd_byte hb 1
  have b2 := rd_byte hb 2
  have b3 := rd_byte hb 3
  unfold seqOf
  simp only [Int.zero_add, Int.reduceAdd]
  rw [wrap64_in (n := (rd l 0 * 256 + rd l 1) * 65536) (by omega) (by omega), or_16 (by omega) (by omega) (by omega) (by omega) (by omega)]
  omega

theorem specJ {l : List Int} (hb : Bytes l) (h8 : 8 ≤ l.length) (hl : l.length ≤ 65536) (b : Bool) : Ev (fun k => spec_ReadSegment.j0 k l b) (segTail l b) := by
  have hw : wrap64 ((l.length : Int) - 2) = ((l.length - 2 : Nat) : Int) := by rw [wrap64_in (by omega) (by omega)]; omega
  have hat := specAt_ev hb (a := ((l.length - 2 : Nat) : Int)) (by omega) (by omega) (by omega)
  have hsum := specSum_ev (hb.take (l.length - 2)) (by simp; omega)
  apply ev_succ
  simp only [spec_ReadSegment.j0, hw, seq_spec hb, Int.toNat_natCast, hat, Option.bind_some, specSeg_ev]
  unfold segTail
  refine ev_ite (fun hc => ?_) (fun hc => ?_)
  · rw [if_pos hc]
    exact Ev.now _
  · rw [if_neg hc]
    refine ev_pos (by omega) (ev_pos (by omega) (ev_pos (by omega) (ev_pos (by omega) (ev_pos (by omega) (ev_pos (by omega) (ev_pos (by omega) (ev_pos (by omega) (Ev.bind hsum ?_))))))))
    refine ev_ite (fun he => ?_) (fun he => ?_)
    · rw [if_pos he.symm]
      refine ev_ite (fun hk => ?_) (fun hk => ?_)
      · rw [if_pos hk]
        exact Ev.now _
      · rw [if_neg hk]
        exact Ev.now _
    · rw [if_neg (fun h => he h.symm)]
      exact Ev.now _
theorem implJ {l : List Int} (hb : Bytes l) (h8 : 8 ≤ l.length) (hl : l.length ≤ 65536) (b : Bool) : Ev (fun k => impl_ReadSegment.j0 k l b) (segTail l b) := by
  have hw : wrap64 ((l.length : Int) - 2) = ((l.length - 2 : Nat) : Int) := by rw [wrap64_in (by omega) (by omega)]; omega
  have hat := implAt_ev hb (a := ((l.length - 2 : Nat) : Int)) (by omega) (by omega) (by omega)
  have ha0 := implAt_ev hb (a := 0) (by omega) (by omega) (by omega)
  have ha2 := implAt_ev hb (a := 2) (by omega) (by omega) (by omega)
  have hsum := implSum_ev (hb.take (l.length - 2)) (by simp; omega)
  apply ev_succ
  simp only [impl_ReadSegment.j0, hw, Int.toNat_natCast, hat, ha0, ha2, Option.bind_some, seq_impl hb, implSeg_ev]
  unfold segTail
  refine ev_ite (fun hc => ?_) (fun hc => ?_)
  · rw [if_pos hc]
    exact Ev.now _
  · rw [if_neg hc]
    refine ev_pos (by omega) (ev_pos (by omega) (Ev.bind hsum ?_))
    refine ev_ite (fun he => ?_) (fun he => ?_)
    · rw [if_pos he]
      refine ev_pos (by omega) (ev_pos (by omega) (ev_ite (fun hk => ?_) (fun hk => ?_)))
      · rw [if_pos hk]
        exact Ev.now _
      · rw [if_neg hk]
        exact Ev.now _
    · rw [if_neg he]
      exact Ev.now _
theorem specSegment_ev {l : List Int} (hb : Bytes l) : Ev (fun k => spec_ReadSegment.f k l) (segOf l) := by
  have b5 := rd_byte hb 5
  have hw : wrap64 (8 + wrap64 (rd l 5)) = 8 + rd l 5 := by rw [wrap_rd hb, wrap64_in (by omega) (by omega)]
  unfold spec_ReadSegment.f segOf
  simp only [hw]
  refine ev_ite (fun h1 => ?_) (fun h1 => ?_)
  · rw [if_pos h1]
    exact Ev.now _
  · rw [if_neg h1]
    refine ev_ite (fun h2 => ?_) (fun h2 => ?_)
    · rw [if_pos h2]
      apply ev_succ
      simp only [spec_ReadSegment.j0, if_true]
      exact Ev.now _
    · rw [if_neg h2]
      refine ev_pos (by omega) (ev_ite (fun h3 => ?_) (fun h3 => ?_))
      · rw [if_pos h3]
        exact ev_pos (by omega) (specJ hb (by omega) (by omega) _)
      · rw [if_neg h3]
        apply ev_succ
        simp only [spec_ReadSegment.j0, if_true]
        exact Ev.now _
theorem implSegment_ev {l : List Int} (hb : Bytes l) : Ev (fun k => impl_ReadSegment.f k l) (segOf l) := by
  have b5 := rd_byte hb 5
  have hw : wrap64 (8 + wrap64 (rd l 5)) = 8 + rd l 5 := by rw [wrap_rd hb, wrap64_in (by omega) (by omega)]
  unfold impl_ReadSegment.f segOf
  simp only [hw]
  refine ev_ite (fun h1 => ?_) (fun h1 => ?_)
  · rw [if_pos h1]
    exact Ev.now _
  · rw [if_neg h1]
    refine ev_ite (fun h2 => ?_) (fun h2 => ?_)
    · rw [if_pos h2]
      apply ev_succ
      simp only [impl_ReadSegment.j0, if_true]
      exact Ev.now _
    · rw [if_neg h2]
      refine ev_pos (by omega) (ev_ite (fun h3 => ?_) (fun h3 => ?_))
      · rw [if_pos h3]
        exact ev_pos (by omega) (implJ hb (by omega) (by omega) _)
      · rw [if_neg h3]
        apply ev_succ
        simp only [impl_ReadSegment.j0, if_true]
        exact Ev.now _

theorem FnExactReadSegment : SaysFnExactReadSegment.Says := by
  intro l h0
  have hb := Bytes.of_wf h0.2
  refine Ev.rounds (g := fun k => laws_FnExactReadSegment.f k l) ?_
  unfold laws_FnExactReadSegment.f
  refine ev_ite (fun _ => Ev.now _) (fun hs => ?_)
  have hl : l.length ≤ 140737488355328 := by omega
  refine Ev.bind (toByteS_ev hl) (Ev.bind (specSegment_ev hb) (Ev.bind (toByteS_ev hl) (Ev.bind (implSegment_ev hb) (ev_bindc (a := true) ?_ (ev_pos rfl ?_)))))
  · simp [laws_eqSegment.f]
  · simp only [bne_self_eq_false]
    apply ev_succ
    simp only [laws_FnExactReadSegment.j0, Bool.false_eq_true, if_false]
    exact Ev.bind (toByteS_ev hl) (Ev.bind (eqByteS_ev hl) (ev_pos rfl (Ev.now _)))

end Go.Proofs.Ytblmghlopolknaa.Pure
