/- The program's SegmentBytes answers what the reference's answers, for every segment, in new memory; no condition. -/
import Derived.Test.YtjfpkfophfelmaaSaysFnExactSegmentBytes
import Derived.Test.YtjfpkfophfelmaaSum
namespace Go.Proofs.Ytjfpkfophfelmaa.Pure
open Go.RowKit Go.Proofs.Ytjfpkfophfelmaa.QFnExactSegmentBytes Go.Proofs.YtjfpkfophfelmaaV.PrintWords Go.Proofs.YtjfpkfophfelmaaV.PrintLast Go.Proofs.Ytjfpkfophfelmaa.Aid

theorem spec_in (a b c : Int) : spec_l01In.f a b c = some (decide (b ≤ a ∧ a ≤ c)) := by
  unfold spec_l01In.f
  split <;> simp <;> omega
theorem impl_in (a b c : Int) : impl_inRange.f a b c = some (decide (b ≤ a ∧ a ≤ c)) := by
  unfold impl_inRange.f
  split <;> simp <;> omega
theorem eqByteS_loop (l : List Int) (hl : l.length ≤ 140737488355328) (d : Nat) : ∀ (i : Nat), i + d = l.length → Ev (fun k => laws_eqByteS.l0 k l l i) true := by
  induction d with
  | zero =>
    intro i h
    apply ev_succ
    simp only [laws_eqByteS.l0]
    exact ev_neg (by omega) (Ev.now _)
  | succ d ih =>
    intro i h
    have hw : wrap64 ((i : Int) + 1) = ((i + 1 : Nat) : Int) := by rw [wrap64_in (by omega) (by omega)]; omega
    apply ev_succ
    simp only [laws_eqByteS.l0, hw]
    exact ev_pos (by omega) (ev_pos (by omega) (ev_pos (by omega) (ev_pos trivial (ih (i + 1) (by omega)))))
theorem eqByteS_ev {l : List Int} (hl : l.length ≤ 140737488355328) : Ev (fun k => laws_eqByteS.f k l l) true := by
  unfold laws_eqByteS.f
  exact ev_pos rfl (eqByteS_loop l hl l.length 0 (by omega))
/-! ### Marks: numbers written into a row of bytes, and looked for -/
theorem mark_loop (n : Nat) (hn : n ≤ 140737488355328) (m : Int) (hm : 0 ≤ m ∧ m ≤ 1000000000000) (d : Nat) : ∀ (acc : List Int) (i : Nat), acc.length = n → acc.take i = markL i m → i + d = n → Ev (fun k => laws_markByteS.l0 k acc (m + i) i) (m + n, markL n m) := by
  induction d with
  | zero =>
    intro acc i h1 h2 h3
    rw [List.take_of_length_le (by omega)] at h2
    obtain rfl : i = n := by omega
    subst h2
    apply ev_succ
    simp only [laws_markByteS.l0]
    exact ev_neg (by omega) (Ev.now _)
  | succ d ih =>
    intro acc i h1 h2 h3
    have hw : wrap64 ((i : Int) + 1) = ((i + 1 : Nat) : Int) := by rw [wrap64_in (by omega) (by omega)]; omega
    have hw2 : wrap64 (m + (i : Int) + 1) = m + ((i + 1 : Nat) : Int) := by rw [wrap64_in (by omega) (by omega)]; omega
    apply ev_succ
    simp only [laws_markByteS.l0, hw, hw2]
    refine ev_pos (by omega) (ev_pos (by omega) ?_)
    refine ih _ (i + 1) (by simp [h1]) ?_ (by omega)
    have hj : i < acc.length := by omega
    rw [Int.toNat_natCast, List.take_succ_eq_append_getElem (by simpa using hj), markL_succ]
    simp [List.take_set_of_le, h2]
theorem mark_ev {l : List Int} (hl : l.length ≤ 140737488355328) {m : Int} (hm : 0 ≤ m ∧ m ≤ 1000000000000) : Ev (fun k => laws_markByteS.f k l m) (m + l.length, markL l.length m) := by
  have g := mark_loop l.length hl m hm l.length l 0 rfl rfl (by omega)
  have e : m + ((0 : Nat) : Int) = m := by omega
  rw [e] at g
  exact g
theorem held_loop (n : Nat) (hn : n ≤ 140737488355328) (m : Int) (hm : 0 ≤ m ∧ m ≤ 1000000000000) (d : Nat) : ∀ (i : Nat), i + d = n → Ev (fun k => laws_heldByteS.l0 k (markL n m) (m + i) i) (m + n) := by
  induction d with
  | zero =>
    intro i h3
    obtain rfl : i = n := by omega
    apply ev_succ
    simp only [laws_heldByteS.l0]
    exact ev_neg (by rw [markL_length]; omega) (Ev.now _)
  | succ d ih =>
    intro i h3
    have hw : wrap64 ((i : Int) + 1) = ((i + 1 : Nat) : Int) := by rw [wrap64_in (by omega) (by omega)]; omega
    have hw2 : wrap64 (m + (i : Int) + 1) = m + ((i + 1 : Nat) : Int) := by rw [wrap64_in (by omega) (by omega)]; omega
    apply ev_succ
    simp only [laws_heldByteS.l0, hw, hw2, markL_rd n m i (by omega), if_true]
    exact ev_pos (by rw [markL_length]; omega) (ev_pos (by omega) (ih (i + 1) (by omega)))
theorem held_ev (n : Nat) (hn : n ≤ 140737488355328) {m : Int} (hm : 0 ≤ m ∧ m ≤ 1000000000000) : Ev (fun k => laws_heldByteS.f k (markL n m) m) (m + n) := by
  have g := held_loop n hn m hm n 0 (by omega)
  have e : m + ((0 : Nat) : Int) = m := by omega
  rw [e] at g
  exact g
/-! ### The sums of the two packages -/
theorem specSum_l1 (d : Nat) : ∀ n : Int, 0 ≤ n → n ≤ 4611756387171566592 → n ≤ d → Ev (fun k => spec_l01Sum.l1 k n) (65535 - fold n) := by
  induction d with
  | zero =>
    intro n h0 h1 h2
    have e : wrap64 (65535 - n) = 65535 - fold n := by rw [fold_small h0 (by omega), wrap64_in (by omega) (by omega)]
    apply ev_succ
    simp only [spec_l01Sum.l1, e]
    exact ev_neg (by omega) (Ev.now _)
  | succ d ih =>
    intro n h0 h1 h2
    by_cases hn : n > 65535
    · have e1 : wrap64 ((Int.tmod n 65536) + (wrap64 (Int.tdiv n 65536))) = n % 65536 + n / 65536 := by
        rw [Int.tmod_eq_emod_of_nonneg h0, Int.tdiv_eq_ediv_of_nonneg h0, wrap64_in (n := n / 65536) (by omega) (by omega), wrap64_in (by omega) (by omega)]
      have g := ih (n % 65536 + n / 65536) (by omega) (by omega) (by omega)
      rw [fold_step hn] at g
      apply ev_succ
      simp only [spec_l01Sum.l1]
      refine ev_pos hn ?_
      rw [e1]
      exact g
    · have e : wrap64 (65535 - n) = 65535 - fold n := by rw [fold_small h0 (by omega), wrap64_in (by omega) (by omega)]
      apply ev_succ
      simp only [spec_l01Sum.l1, e]
      exact ev_neg (by omega) (Ev.now _)
theorem specSum_l0 (l : List Int) (hb : Bytes l) (hl : l.length ≤ 140737488355328) (d : Nat) : ∀ (i : Nat) (s : Int), 2 ∣ i → l.length ≤ i + d → 0 ≤ s → s + wsum (l.drop i) ≤ 4611756387171566592 → Ev (fun k => spec_l01Sum.l0 k l s i) (65535 - fold (s + wsum (l.drop i))) := by
  induction d using Nat.strongRecOn with
  | _ d ih =>
    intro i s h2 hd h0 h1
    have hr := wsum_drop_nonneg hb i
    by_cases c : i < l.length
    · have hm : Int.tmod (i : Int) 2 = 0 := by rw [Int.tmod_eq_emod_of_nonneg (by omega)]; omega
      have b1 := rd_byte hb i
      by_cases c2 : i + 1 < l.length
      · have b2 := rd_byte hb ((i + 1 : Nat) : Int)
        have hm2 : ¬ Int.tmod ((i + 1 : Nat) : Int) 2 = 0 := by rw [Int.tmod_eq_emod_of_nonneg (by omega)]; omega
        have hw : wrap64 ((i : Int) + 1) = ((i + 1 : Nat) : Int) := by rw [wrap64_in (by omega) (by omega)]; omega
        have hw2 : wrap64 (((i + 1 : Nat) : Int) + 1) = ((i + 2 : Nat) : Int) := by rw [wrap64_in (by omega) (by omega)]; omega
        have e := wsum_drop2 l i c2
        have hr2 := wsum_drop_nonneg hb (i + 2)
        rw [e] at h1
        have g := ih (d - 2) (by omega) (i + 2) (s + (rd l i * 256 + rd l ((i + 1 : Nat) : Int))) (by omega) (by omega) (by omega) (by omega)
        have w1 : wrap64 (rd l i * 256) = rd l i * 256 := wrap64_in (by omega) (by omega)
        have w2 : wrap64 (s + rd l i * 256) = s + rd l i * 256 := wrap64_in (by omega) (by omega)
        have w3 : wrap64 (s + rd l i * 256 + rd l ((i + 1 : Nat) : Int)) = s + (rd l i * 256 + rd l ((i + 1 : Nat) : Int)) := by rw [wrap64_in (by omega) (by omega)]; omega
        rw [e, show s + (rd l i * 256 + rd l ((i + 1 : Nat) : Int) + wsum (l.drop (i + 2))) = s + (rd l i * 256 + rd l ((i + 1 : Nat) : Int)) + wsum (l.drop (i + 2)) from by omega]
        apply ev_succ
        simp only [spec_l01Sum.l0, hw, wrap_rd hb, w1, w2]
        refine ev_pos (by omega) (ev_pos hm (ev_pos (by omega) ?_))
        apply ev_succ
        simp only [spec_l01Sum.l0, hw2, wrap_rd hb, w3]
        exact ev_pos (by omega) (ev_neg hm2 (ev_pos (by omega) g))
      · have e := wsum_drop1 l i (by omega)
        rw [e] at h1
        rw [e]
        have hw : wrap64 ((i : Int) + 1) = ((i + 1 : Nat) : Int) := by rw [wrap64_in (by omega) (by omega)]; omega
        have w1 : wrap64 (rd l i * 256) = rd l i * 256 := wrap64_in (by omega) (by omega)
        have w2 : wrap64 (s + rd l i * 256) = s + rd l i * 256 := wrap64_in (by omega) (by omega)
        apply ev_succ
        simp only [spec_l01Sum.l0, hw, wrap_rd hb, w1, w2]
        refine ev_pos (by omega) (ev_pos hm (ev_pos (by omega) ?_))
        apply ev_succ
        simp only [spec_l01Sum.l0]
        refine ev_neg (by omega) ?_
        exact specSum_l1 (s + rd l i * 256).toNat _ (by omega) (by omega) (by omega)
    · have e := wsum_drop0 l i (by omega)
      rw [e] at h1
      rw [e]
      apply ev_succ
      simp only [spec_l01Sum.l0]
      refine ev_neg (by omega) ?_
      rw [Int.add_zero]
      exact specSum_l1 s.toNat s h0 (by omega) (by omega)
theorem specSum_ev {l : List Int} (hb : Bytes l) (hl : l.length ≤ 140737488355328) : Ev (fun k => spec_l01Sum.f k l) (csum l) := by
  have h := wsum_range l hb
  have g := specSum_l0 l hb hl l.length 0 0 (by omega) (by omega) (by omega) (by simp only [List.drop_zero]; omega)
  simp only [List.drop_zero, Int.zero_add] at g
  exact g
theorem implFold_l1 (d : Nat) : ∀ n : Int, 0 ≤ n → n ≤ 4611686018427387903 → n ≤ d → Ev (fun k => impl_foldSum.l1 k n) (fold n) := by
  induction d with
  | zero =>
    intro n h0 h1 h2
    rw [fold_small h0 (by omega)]
    apply ev_succ
    simp only [impl_foldSum.l1]
    exact ev_neg (by omega) (Ev.now _)
  | succ d ih =>
    intro n h0 h1 h2
    by_cases hn : n > 65535
    · have e2 : wrap64 ((Go.bits .and .i64 n 65535) + (n / 65536)) = n % 65536 + n / 65536 := by
        rw [and_65535 h0 (by omega), wrap64_in (by omega) (by omega)]
      have g := ih (n % 65536 + n / 65536) (by omega) (by omega) (by omega)
      rw [fold_step hn] at g
      apply ev_succ
      simp only [impl_foldSum.l1]
      refine ev_pos hn ?_
      rw [e2]
      exact g
    · rw [fold_small h0 (by omega)]
      apply ev_succ
      simp only [impl_foldSum.l1]
      exact ev_neg (by omega) (Ev.now _)
theorem implFold_l0 (l : List Int) (hb : Bytes l) (hl : l.length ≤ 1000000000) (d : Nat) : ∀ (i : Nat) (s : Int), l.length ≤ i + d → 0 ≤ s → s + wsum (l.drop i) ≤ 4611686018427387903 → Ev (fun k => impl_foldSum.l0 k l s i) (fold (s + wsum (l.drop i))) := by
  induction d using Nat.strongRecOn with
  | _ d ih =>
    intro i s hd h0 h1
    have hr := wsum_drop_nonneg hb i
    by_cases c : i < l.length
    · have b1 := rd_byte hb i
      have hw : wrap64 ((i : Int) + 1) = ((i + 1 : Nat) : Int) := by rw [wrap64_in (by omega) (by omega)]; omega
      have hw2 : wrap64 ((i : Int) + 2) = ((i + 2 : Nat) : Int) := by rw [wrap64_in (by omega) (by omega)]; omega
      have w1 : wrap64 (rd l i * 256) = rd l i * 256 := wrap64_in (by omega) (by omega)
      by_cases c2 : i + 1 < l.length
      · have b2 := rd_byte hb ((i + 1 : Nat) : Int)
        have e := wsum_drop2 l i c2
        have hr2 := wsum_drop_nonneg hb (i + 2)
        rw [e] at h1
        have g := ih (d - 2) (by omega) (i + 2) (s + (rd l i * 256 + rd l ((i + 1 : Nat) : Int))) (by omega) (by omega) (by omega)
        have w2 : wrap64 (s + rd l i * 256) = s + rd l i * 256 := wrap64_in (by omega) (by omega)
        have w3 : wrap64 (s + rd l i * 256 + rd l ((i + 1 : Nat) : Int)) = s + (rd l i * 256 + rd l ((i + 1 : Nat) : Int)) := by rw [wrap64_in (by omega) (by omega)]; omega
        rw [e, show s + (rd l i * 256 + rd l ((i + 1 : Nat) : Int) + wsum (l.drop (i + 2))) = s + (rd l i * 256 + rd l ((i + 1 : Nat) : Int)) + wsum (l.drop (i + 2)) from by omega]
        apply ev_succ
        simp only [impl_foldSum.l0, hw, hw2, wrap_rd hb, w1, w2, w3]
        exact ev_pos (by omega) (ev_pos (by omega) (ev_pos (by omega) (ev_pos (by omega) g)))
      · have e := wsum_drop1 l i (by omega)
        rw [e] at h1
        have g := ih (d - 1) (by omega) (i + 2) (s + rd l i * 256) (by omega) (by omega) (by rw [wsum_drop0 l (i + 2) (by omega)]; omega)
        rw [wsum_drop0 l (i + 2) (by omega), Int.add_zero] at g
        rw [e]
        have w2 : wrap64 (s + rd l i * 256) = s + rd l i * 256 := wrap64_in (by omega) (by omega)
        apply ev_succ
        simp only [impl_foldSum.l0, hw, hw2, wrap_rd hb, w1, w2]
        exact ev_pos (by omega) (ev_pos (by omega) (ev_neg (by omega) g))
    · have e := wsum_drop0 l i (by omega)
      rw [e] at h1
      rw [e]
      apply ev_succ
      simp only [impl_foldSum.l0]
      refine ev_neg (by omega) ?_
      rw [Int.add_zero]
      exact implFold_l1 s.toNat s h0 (by omega) (by omega)
theorem implFold_ev {l : List Int} (hb : Bytes l) (hl : l.length ≤ 1000000000) : Ev (fun k => impl_foldSum.f k l) (fold (wsum l)) := by
  have h := wsum_range l hb
  have g := implFold_l0 l hb hl l.length 0 0 (by omega) (by omega) (by simp only [List.drop_zero]; omega)
  simp only [List.drop_zero, Int.zero_add] at g
  exact g
theorem implSum_ev {l : List Int} (hb : Bytes l) (hl : l.length ≤ 1000000000) : Ev (fun k => impl_checkSum.f k l) (csum l) := by
  have h := fold_range (wsum_range l hb).1
  have e : wrap64 (65535 - fold (wsum l)) = csum l := by rw [wrap64_in (by omega) (by omega)]; rfl
  unfold impl_checkSum.f
  refine Ev.bind (implFold_ev hb hl) ?_
  rw [e]
  exact Ev.now _
/-! ### Is a segment right -/
def segOK (q : Int) (s : ByteArray) (f : Bool) : Bool := decide (0 ≤ q ∧ q ≤ 4294967295) && decide (s.size ≤ 16) && (f || decide (s.size > 0))
theorem specSeg_ev (q : Int) (s : ByteArray) (f : Bool) : spec_l08Segment.f q s f = some (segOK q s f) := by
  unfold spec_l08Segment.f segOK
  simp only [spec_in, Option.bind_some]
  by_cases h1 : 0 ≤ q ∧ q ≤ 4294967295
  · by_cases h2 : s.size ≤ 16
    · cases f
      · simp [h1, h2]
        omega
      · simp [h1, h2]
        omega
    · have h2' : ¬ (s.size : Int) ≤ 16 := by omega
      simp [h1, h2, h2']
  · simp [h1]
theorem implSeg_ev (q : Int) (s : ByteArray) (f : Bool) : impl_segmentOK.f q s f = some (segOK q s f) := by
  unfold impl_segmentOK.f segOK
  simp only [impl_in, Option.bind_some]
  by_cases h1 : 0 ≤ q ∧ q ≤ 4294967295
  · by_cases h2 : s.size ≤ 16
    · cases f
      · simp [h1, h2]
        omega
      · simp [h1, h2]
        omega
    · have h2' : ¬ (s.size : Int) ≤ 16 := by omega
      simp [h1, h2, h2']
  · simp [h1]

theorem mod_byte (x : Int) : 0 ≤ x % 256 ∧ x % 256 ≤ 255 := by omega
/-- A segment's bytes without their sum. -/
def segBody (q : Int) (s : ByteArray) (f : Bool) : List Int :=
  [(q / 16777216) % 256, (q / 65536) % 256, (q / 256) % 256, q % 256, (if f then 1 else 0), (s.size : Int) % 256] ++ bytesOf s
theorem segBody_bytes (q : Int) (s : ByteArray) (f : Bool) : Bytes (segBody q s f) := by
  refine Bytes.append ?_ (bytesOf_bytes s)
  refine Bytes.cons (mod_byte _) (Bytes.cons (mod_byte _) (Bytes.cons (mod_byte _) (Bytes.cons (mod_byte _) (Bytes.cons ?_ (Bytes.cons (mod_byte _) Bytes.nil)))))
  split <;> omega
theorem segBody_length (q : Int) (s : ByteArray) (f : Bool) : (segBody q s f).length = 6 + s.size := by
  simp [segBody, bytesOf_length]
  omega
def segRes (q : Int) (s : ByteArray) (f : Bool) : List Int × Int :=
  if segOK q s f = true then (segBody q s f ++ [csum (segBody q s f) / 256, csum (segBody q s f) % 256], 0) else ([], 1)
theorem segRes_length (q : Int) (s : ByteArray) (f : Bool) : (segRes q s f).1.length ≤ 1000 := by
  unfold segRes
  split
  · rename_i h
    unfold segOK at h
    simp only [Bool.and_eq_true, decide_eq_true_eq] at h
    simp only [List.length_append, segBody_length, List.length_cons, List.length_nil]
    omega
  · simp
theorem specAll_ev (q : Int) (s : ByteArray) (f : Bool) : Ev (fun k => spec_SegmentBytes.f k q s f) (segRes q s f) := by
  unfold spec_SegmentBytes.f segRes
  refine ev_bindc (specSeg_ev q s f) ?_
  by_cases h : segOK q s f = true
  · rw [if_pos h]
    refine ev_pos h ?_
    have hs : s.size ≤ 16 := by
      unfold segOK at h
      simp only [Bool.and_eq_true, decide_eq_true_eq] at h
      omega
    refine Ev.bind (a := segBody q s f ++ [csum (segBody q s f) / 256, csum (segBody q s f) % 256]) ?_ (Ev.now _)
    have hb := segBody_bytes q s f
    have hl := segBody_length q s f
    have hc := csum_range hb
    unfold spec_l08Bytes.f
    refine ev_bindc (a := (if f then 1 else 0)) (by unfold spec_l01Bit.f; cases f <;> rfl) ?_
    have e0 : ((if f then 1 else 0 : Int)) % 256 = if f then 1 else 0 := by cases f <;> rfl
    simp only [e0, Option.bind_some]
    have fin : ∀ y : List Int, y = segBody q s f → Ev (fun k => (spec_l01Sum.f k y).bind fun t118 => ((some (([(wrap64 (Int.tdiv t118 256)) % 256, (Int.tmod t118 256) % 256] : List Int) : List Int)).bind fun y119 => (if y.length + y119.length < 140737488355328 then (some (y ++ y119)) else (none)))) (segBody q s f ++ [csum (segBody q s f) / 256, csum (segBody q s f) % 256]) := by
      rintro y rfl
      refine Ev.bind (specSum_ev hb (by omega)) ?_
      have w1 : (wrap64 (Int.tdiv (csum (segBody q s f)) 256)) % 256 = csum (segBody q s f) / 256 := by
        rw [Int.tdiv_eq_ediv_of_nonneg hc.1, wrap64_in (by omega) (by omega)]
        omega
      have w2 : (Int.tmod (csum (segBody q s f)) 256) % 256 = csum (segBody q s f) % 256 := by
        rw [Int.tmod_eq_emod_of_nonneg hc.1]
        omega
      rw [w1, w2]
      exact ev_some (ev_pos (by rw [hl]; simp; omega) (Ev.now _))
    refine ev_pos (by simp; omega) ?_
    exact fin _ rfl
  · rw [if_neg h]
    exact ev_neg h (Ev.now _)
theorem implAll_ev (q : Int) (s : ByteArray) (f : Bool) : Ev (fun k => impl_SegmentBytes.f k q s f) (segRes q s f) := by
  unfold impl_SegmentBytes.f segRes
  refine ev_bindc (implSeg_ev q s f) ?_
  by_cases h : segOK q s f = true
  · rw [if_pos h]
    refine ev_pos h ?_
    have hs : s.size ≤ 16 := by
      unfold segOK at h
      simp only [Bool.and_eq_true, decide_eq_true_eq] at h
      omega
    have hb := segBody_bytes q s f
    have hl := segBody_length q s f
    have hc := csum_range hb
    have e1 : (q / 65536) / 256 = q / 16777216 := by omega
    refine ev_bindc (a := [(q / 16777216) % 256, (q / 65536) % 256]) (by unfold impl_word16.f; rw [e1]) ?_
    refine ev_bindc (a := [(q / 256) % 256, q % 256]) rfl ?_
    refine ev_pos (by simp) ?_
    simp only [Option.bind_some]
    have fin : ∀ y : List Int, y = segBody q s f → Ev (fun k => (impl_checkSum.f k y).bind fun t164 => ((impl_word16.f t164).bind fun t165 => (if y.length + t165.length < 140737488355328 then (some ((y ++ t165), (0 : Int))) else (none)))) (segBody q s f ++ [csum (segBody q s f) / 256, csum (segBody q s f) % 256], 0) := by
      rintro y rfl
      refine Ev.bind (implSum_ev hb (by omega)) ?_
      have w1 : (csum (segBody q s f) / 256) % 256 = csum (segBody q s f) / 256 := by omega
      refine ev_bindc (a := [csum (segBody q s f) / 256, csum (segBody q s f) % 256]) (by unfold impl_word16.f; rw [w1]) ?_
      exact ev_pos (by rw [hl]; simp; omega) (Ev.now _)
    cases f
    · refine ev_neg (by simp) (ev_pos (by simp) (ev_pos (by simp; omega) ?_))
      exact fin _ rfl
    · refine ev_pos rfl (ev_pos (by simp) (ev_pos (by simp; omega) ?_))
      exact fin _ rfl
  · rw [if_neg h]
    exact ev_neg h (Ev.now _)

theorem FnExactSegmentBytes : SaysFnExactSegmentBytes.Says := by
  intro q s f h0 h1 _
  unfold maxLen at h1
  refine Ev.rounds (g := fun k => laws_FnExactSegmentBytes.f k q s f) ?_
  unfold laws_FnExactSegmentBytes.f
  have hz : ∃ r, laws_szSegment.f q s f 1048576 = some r := by
    unfold laws_szSegment.f
    split
    · exact ⟨_, rfl⟩
    · exact ⟨_, rfl⟩
  obtain ⟨z, hz⟩ := hz
  refine ev_bindc hz (ev_ite (fun _ => Ev.now _) (fun _ => ?_))
  have g1 := specAll_ev q s f
  have g2 := implAll_ev q s f
  have hq := segRes_length q s f
  generalize segRes q s f = r at g1 g2 hq
  obtain ⟨l, c⟩ := r
  have hl : l.length ≤ 140737488355328 := by simp only at hq; omega
  refine ev_bindc (a := (q, s, f)) rfl (Ev.bind g1 (ev_bindc (a := (q, s, f)) rfl (Ev.bind g2 (Ev.bind (eqByteS_ev hl) (ev_pos rfl ?_)))))
  simp only [bne_self_eq_false]
  apply ev_succ
  simp only [laws_FnExactSegmentBytes.j0, Bool.false_eq_true, if_false]
  refine Ev.bind (mark_ev hl (by omega)) (Ev.bind (held_ev l.length hl (by omega)) (ev_neg (by omega) (ev_pos rfl ?_)))
  refine ev_bindc (a := (q, s, f)) rfl (Ev.bind g2 (Ev.bind (eqByteS_ev hl) (ev_pos rfl ?_)))
  simp only [bne_self_eq_false]
  apply ev_succ
  simp only [laws_FnExactSegmentBytes.j1, Bool.false_eq_true, if_false]
  exact Ev.bind (held_ev l.length hl (by omega)) (ev_neg (by omega) (ev_pos rfl (Ev.now _)))

end Go.Proofs.Ytjfpkfophfelmaa.Pure
