/- FnFix: a check sum that is fixed where one word changed is that of the changed bytes, but for the two forms of nothing. -/
import Derived.Test.YthbeooiaaplojaaSaysFnFix
import Derived.Test.YthbeooiaaplojaaSum
namespace Go.Proofs.Ythbeooiaaplojaa.Pure
open Go.RowKit Go.Proofs.Ythbeooiaaplojaa.QFnFix Go.Proofs.YthbeooiaaplojaaW.PrintWords Go.Proofs.YthbeooiaaplojaaW.PrintLast Go.Proofs.Ythbeooiaaplojaa.Aid

/-! ### The sums of the two packages -/
theorem specSum_l1 (d : Nat) : ∀ n : Int, 0 ≤ n → n ≤ 4611756387171566592 → n ≤ d → Ev (fun k => spec_l01Sum.l1 k n) (65535 - fold n) := by
  induction d with
  | zero =>
    intro n h0 h1 h2
    have e : wrap64 (65535 - n) = 65535 - fold n := by rw [fold_small h0 (by omega), wrap64_in (by omega) (by omega)]
    apply ev_succ
    simp only [spec_l01Sum.l1, e]
    exact ev_neg (by omega) (Ev.now _)
  | succ d ih =>
    intro n h0 h1 h2
    by_cases hn : n > 65535
    · have e1 : wrap64 ((Int.tmod n 65536) + (wrap64 (Int.tdiv n 65536))) = n % 65536 + n / 65536 := by
        rw [Int.tmod_eq_emod_of_nonneg h0, Int.tdiv_eq_ediv_of_nonneg h0, wrap64_in (n := n / 65536) (by omega) (by omega), wrap64_in (by omega) (by omega)]
      have g := ih (n % 65536 + n / 65536) (by omega) (by omega) (by omega)
      rw [fold_step hn] at g
      apply ev_succ
      simp only [spec_l01Sum.l1]
      refine ev_pos hn ?_
      rw [e1]
      exact g
    · have e : wrap64 (65535 - n) = 65535 - fold n := by rw [fold_small h0 (by omega), wrap64_in (by omega) (by omega)]
      apply ev_succ
      simp only [spec_l01Sum.l1, e]
      exact ev_neg (by omega) (Ev.now _)
theorem specSum_l0 (l : List Int) (hb : Bytes l) (hl : l.length ≤ 140737488355328) (d : Nat) : ∀ (i : Nat) (s : Int), 2 ∣ i → l.length ≤ i + d → 0 ≤ s → s + wsum (l.drop i) ≤ 4611756387171566592 → Ev (fun k => spec_l01Sum.l0 k l s i) (65535 - fold (s + wsum (l.drop i))) := by
  induction d using Nat.strongRecOn with
  | _ d ih =>
    intro i s h2 hd h0 h1
    have hr := wsum_drop_nonneg hb i
    by_cases c : i < l.length
    · have hm : Int.tmod (i : Int) 2 = 0 := by rw [Int.tmod_eq_emod_of_nonneg (by omega)]; omega
      have b1 := rd_byte hb i
      by_cases c2 : i + 1 < l.length
      · have b2 := rd_byte hb ((i + 1 : Nat) : Int)
        have hm2 : ¬ Int.tmod ((i + 1 : Nat) : Int) 2 = 0 := by rw [Int.tmod_eq_emod_of_nonneg (by omega)]; omega
        have hw : wrap64 ((i : Int) + 1) = ((i + 1 : Nat) : Int) := by rw [wrap64_in (by omega) (by omega)]; omega
        have hw2 : wrap64 (((i + 1 : Nat) : Int) + 1) = ((i + 2 : Nat) : Int) := by rw [wrap64_in (by omega) (by omega)]; omega
        have e := wsum_drop2 l i c2
        have hr2 := wsum_drop_nonneg hb (i + 2)
        rw [e] at h1
        have g := ih (d - 2) (by omega) (i + 2) (s + (rd l i * 256 + rd l ((i + 1 : Nat) : Int))) (by omega) (by omega) (by omega) (by omega)
        have w1 : wrap64 (rd l i * 256) = rd l i * 256 := wrap64_in (by omega) (by omega)
        have w2 : wrap64 (s + rd l i * 256) = s + rd l i * 256 := wrap64_in (by omega) (by omega)
        have w3 : wrap64 (s + rd l i * 256 + rd l ((i + 1 : Nat) : Int)) = s + (rd l i * 256 + rd l ((i + 1 : Nat) : Int)) := by rw [wrap64_in (by omega) (by omega)]; omega
        rw [e, show s + (rd l i * 256 + rd l ((i + 1 : Nat) : Int) + wsum (l.drop (i + 2))) = s + (rd l i * 256 + rd l ((i + 1 : Nat) : Int)) + wsum (l.drop (i + 2)) from by omega]
        apply ev_succ
        simp only [spec_l01Sum.l0, hw, wrap_rd hb, w1, w2]
        refine ev_pos (by omega) (ev_pos hm (ev_pos (by omega) ?_))
        apply ev_succ
        simp only [spec_l01Sum.l0, hw2, wrap_rd hb, w3]
        exact ev_pos (by omega) (ev_neg hm2 (ev_pos (by omega) g))
      · have e := wsum_drop1 l i (by omega)
        rw [e] at h1
        rw [e]
        have hw : wrap64 ((i : Int) + 1) = ((i + 1 : Nat) : Int) := by rw [wrap64_in (by omega) (by omega)]; omega
        have w1 : wrap64 (rd l i * 256) = rd l i * 256 := wrap64_in (by omega) (by omega)
        have w2 : wrap64 (s + rd l i * 256) = s + rd l i * 256 := wrap64_in (by omega) (by omega)
        apply ev_succ
        simp only [spec_l01Sum.l0, hw, wrap_rd hb, w1, w2]
        refine ev_pos (by omega) (ev_pos hm (ev_pos (by omega) ?_))
        apply ev_succ
        simp only [spec_l01Sum.l0]
        refine ev_neg (by omega) ?_
        exact specSum_l1 (s + rd l i * 256).toNat _ (by omega) (by omega) (by omega)
    · have e := wsum_drop0 l i (by omega)
      rw [e] at h1
      rw [e]
      apply ev_succ
      simp only [spec_l01Sum.l0]
      refine ev_neg (by omega) ?_
      rw [Int.add_zero]
      exact specSum_l1 s.toNat s h0 (by omega) (by omega)
theorem specSum_ev {l : List Int} (hb : Bytes l) (hl : l.length ≤ 140737488355328) : Ev (fun k => spec_l01Sum.f k l) (csum l) := by
  have h := wsum_range l hb
  have g := specSum_l0 l hb hl l.length 0 0 (by omega) (by omega) (by omega) (by simp only [List.drop_zero]; omega)
  simp only [List.drop_zero, Int.zero_add] at g
  exact g
theorem implFold_l1 (d : Nat) : ∀ n : Int, 0 ≤ n → n ≤ 4611686018427387903 → n ≤ d → Ev (fun k => impl_foldSum.l1 k n) (fold n) := by
  induction d with
  | zero =>
    intro n h0 h1 h2
    rw [fold_small h0 (by omega)]
    apply ev_succ
    simp only [impl_foldSum.l1]
    exact ev_neg (by omega) (Ev.now _)
  | succ d ih =>
    intro n h0 h1 h2
    by_cases hn : n > 65535
    · have e2 : wrap64 ((Go.bits .and .i64 n 65535) + (n / 65536)) = n % 65536 + n / 65536 := by
        rw [and_65535 h0 (by omega), wrap64_in (by omega) (by omega)]
      have g := ih (n % 65536 + n / 65536) (by omega) (by omega) (by omega)
      rw [fold_step hn] at g
      apply ev_succ
      simp only [impl_foldSum.l1]
      refine ev_pos hn ?_
      rw [e2]
      exact g
    · rw [fold_small h0 (by omega)]
      apply ev_succ
      simp only [impl_foldSum.l1]
      exact ev_neg (by omega) (Ev.now _)
theorem implFold_l0 (l : List Int) (hb : Bytes l) (hl : l.length ≤ 1000000000) (d : Nat) : ∀ (i : Nat) (s : Int), l.length ≤ i + d → 0 ≤ s → s + wsum (l.drop i) ≤ 4611686018427387903 → Ev (fun k => impl_foldSum.l0 k l s i) (fold (s + wsum (l.drop i))) := by
  induction d using Nat.strongRecOn with
  | _ d ih =>
    intro i s hd h0 h1
    have hr := wsum_drop_nonneg hb i
    by_cases c : i < l.length
    · have b1 := rd_byte hb i
      have hw : wrap64 ((i : Int) + 1) = ((i + 1 : Nat) : Int) := by rw [wrap64_in (by omega) (by omega)]; omega
      have hw2 : wrap64 ((i : Int) + 2) = ((i + 2 : Nat) : Int) := by rw [wrap64_in (by omega) (by omega)]; omega
      have w1 : wrap64 (rd l i * 256) = rd l i * 256 := wrap64_in (by omega) (by omega)
      by_cases c2 : i + 1 < l.length
      · have b2 := rd_byte hb ((i + 1 : Nat) : Int)
        have e := wsum_drop2 l i c2
        have hr2 := wsum_drop_nonneg hb (i + 2)
        rw [e] at h1
        have g := ih (d - 2) (by omega) (i + 2) (s + (rd l i * 256 + rd l ((i + 1 : Nat) : Int))) (by omega) (by omega) (by omega)
        have w2 : wrap64 (s + rd l i * 256) = s + rd l i * 256 := wrap64_in (by omega) (by omega)
        have w3 : wrap64 (s + rd l i * 256 + rd l ((i + 1 : Nat) : Int)) = s + (rd l i * 256 + rd l ((i + 1 : Nat) : Int)) := by rw [wrap64_in (by omega) (by omega)]; omega
        rw [e, show s + (rd l i * 256 + rd l ((i + 1 : Nat) : Int) + wsum (l.drop (i + 2))) = s + (rd l i * 256 + rd l ((i + 1 : Nat) : Int)) + wsum (l.drop (i + 2)) from by omega]
        apply ev_succ
        simp only [impl_foldSum.l0, hw, hw2, wrap_rd hb, w1, w2, w3]
        exact ev_pos (by omega) (ev_pos (by omega) (ev_pos (by omega) (ev_pos (by omega) g)))
      · have e := wsum_drop1 l i (by omega)
        rw [e] at h1
        have g := ih (d - 1) (by omega) (i + 2) (s + rd l i * 256) (by omega) (by omega) (by rw [wsum_drop0 l (i + 2) (by omega)]; omega)
        rw [wsum_drop0 l (i + 2) (by omega), Int.add_zero] at g
        rw [e]
        have w2 : wrap64 (s + rd l i * 256) = s + rd l i * 256 := wrap64_in (by omega) (by omega)
        apply ev_succ
        simp only [impl_foldSum.l0, hw, hw2, wrap_rd hb, w1, w2]
        exact ev_pos (by omega) (ev_pos (by omega) (ev_neg (by omega) g))
    · have e := wsum_drop0 l i (by omega)
      rw [e] at h1
      rw [e]
      apply ev_succ
      simp only [impl_foldSum.l0]
      refine ev_neg (by omega) ?_
      rw [Int.add_zero]
      exact implFold_l1 s.toNat s h0 (by omega) (by omega)
theorem implFold_ev {l : List Int} (hb : Bytes l) (hl : l.length ≤ 1000000000) : Ev (fun k => impl_foldSum.f k l) (fold (wsum l)) := by
  have h := wsum_range l hb
  have g := implFold_l0 l hb hl l.length 0 0 (by omega) (by omega) (by simp only [List.drop_zero]; omega)
  simp only [List.drop_zero, Int.zero_add] at g
  exact g
theorem implSum_ev {l : List Int} (hb : Bytes l) (hl : l.length ≤ 1000000000) : Ev (fun k => impl_checkSum.f k l) (csum l) := by
  have h := fold_range (wsum_range l hb).1
  have e : wrap64 (65535 - fold (wsum l)) = csum l := by rw [wrap64_in (by omega) (by omega)]; rfl
  unfold impl_checkSum.f
  refine Ev.bind (implFold_ev hb hl) ?_
  rw [e]
  exact Ev.now _
/-! ### The source of bytes that a code gives; the walk's number -/
theorem srcByte_ev (l : List Int) (i s : Int) (h0 : 0 ≤ i) (h1 : i ≤ 1000000000) : ∃ b s', spec_l00Src_byte.f l i s = some (b, i + 1, s') := by
  have hw : wrap64 (i + 1) = i + 1 := wrap64_in (by omega) (by omega)
  have hw2 : wrap64 (i + 1 - 1) = i := by rw [wrap64_in (by omega) (by omega)]; omega
  unfold spec_l00Src_byte.f
  simp only [hw, hw2]
  by_cases c : i + 1 ≤ (l.length : Int)
  · rw [if_pos c, if_pos h0, if_pos (by omega)]
    exact ⟨_, _, rfl⟩
  · rw [if_neg c]
    by_cases c2 : i + 1 > 3000
    · rw [if_pos c2]
      exact ⟨_, _, rfl⟩
    · rw [if_neg c2]
      exact ⟨_, _, rfl⟩
theorem srcNext_ev (l : List Int) (i s n : Int) (h0 : 0 ≤ i) (h1 : i ≤ 1000000000) (h2 : 2 ≤ n) (h3 : n ≤ 256) : ∃ b s', spec_l00Src_next.f l i s n = some (b, i + 1, s') ∧ b < n := by
  obtain ⟨b, s', e⟩ := srcByte_ev l i s h0 h1
  unfold spec_l00Src_next.f
  rw [if_neg (by omega), if_pos h3, e, Option.bind_some, if_neg (by omega)]
  exact ⟨_, _, rfl, Int.tmod_lt_of_pos _ (by omega)⟩
theorem lawsAt_ev {l : List Int} (hb : Bytes l) (i n : Int) (h0 : 0 ≤ i) (h1 : i ≤ 1000) (hn : n ≤ 1000000) : ∃ v, laws_at.f l i n = some v ∧ 0 ≤ v ∧ (1 ≤ n → v < n) ∧ (n ≤ 1 → v = 0) := by
  unfold laws_at.f
  by_cases c : n ≤ 1
  · rw [if_pos c]
    exact ⟨0, rfl, by omega, by omega, by omega⟩
  · rw [if_neg c]
    by_cases c2 : (l.length : Int) = 0
    · rw [if_pos c2, if_neg (by omega), wrap64_in (by omega) (by omega)]
      refine ⟨_, rfl, Int.tmod_nonneg _ (by omega), fun _ => Int.tmod_lt_of_pos _ (by omega), by omega⟩
    · rw [if_neg c2]
      have hL : 0 < (l.length : Int) := by omega
      have m1 := Int.tmod_nonneg (l.length : Int) h0
      have m2 := Int.tmod_lt_of_pos i hL
      have m3 := Int.tmod_nonneg (l.length : Int) (show 0 ≤ i + 1 by omega)
      have m4 := Int.tmod_lt_of_pos (i + 1) hL
      have d0 := Int.tdiv_nonneg h0 (show 0 ≤ (l.length : Int) by omega)
      have d1 : Int.tdiv i (l.length : Int) ≤ i := by rw [Int.tdiv_eq_ediv_of_nonneg h0]; exact Int.ediv_le_self _ h0
      have r1 := rd_byte hb (Int.tmod i (l.length : Int))
      have r2 := rd_byte hb (Int.tmod (i + 1) (l.length : Int))
      have w0 : wrap64 (i + 1) = i + 1 := wrap64_in (by omega) (by omega)
      rw [w0]
      generalize Int.tmod i (l.length : Int) = a at *
      generalize Int.tmod (i + 1) (l.length : Int) = b at *
      generalize Int.tdiv i (l.length : Int) = q at *
      rw [if_pos m1, if_pos m2, if_pos m3, if_pos m4, if_neg (by omega), wrap_rd hb, wrap_rd hb, wrap64_in (n := rd l a * 31) (by omega) (by omega), wrap64_in (n := rd l a * 31 + rd l b) (by omega) (by omega), wrap64_in (n := q) (by omega) (by omega), wrap64_in (by omega) (by omega)]
      exact ⟨_, rfl, Int.tmod_nonneg _ (by omega), fun _ => Int.tmod_lt_of_pos _ (by omega), by omega⟩
/-! ### The sum of a list of which one byte is changed -/
theorem rd_set (l : List Int) (n m : Nat) (v : Int) (h : m < l.length) : rd (l.set n v) m = if n = m then v else rd l m := by
  rw [rd_at _ rfl (by simpa using h : m < (l.set n v).length), rd_at l rfl h, List.getElem_set]
theorem bytes_set {l : List Int} (h : Bytes l) (n : Nat) {v : Int} (hv : 0 ≤ v ∧ v ≤ 255) : Bytes (l.set n v) := fun x hx => by
  rcases List.mem_or_eq_of_mem_set hx with h1 | h1
  · exact h x h1
  · subst h1
    exact hv
theorem wsum_set (l : List Int) : ∀ (j : Nat) (v : Int), j < l.length → wsum (l.set j v) = wsum l + (v - rd l j) * (if j % 2 = 0 then 256 else 1) := by
  induction l using wsum.induct with
  | case1 => intro j v h; simp at h
  | case2 a =>
    intro j v h
    have : j = 0 := by simpa using h
    subst this
    rw [rd_at [a] (n := 0) rfl (by simp)]
    simp [wsum]
    omega
  | case3 a b t ih =>
    intro j v h
    rcases j with _ | _ | j
    · rw [rd_at (a :: b :: t) (n := 0) rfl (by simp)]
      simp [wsum]
      omega
    · rw [rd_at (a :: b :: t) (n := 1) rfl (by simp)]
      simp [wsum]
      omega
    · have hj : j < t.length := by simpa using h
      have g := ih j v hj
      rw [rd_at t (n := j) rfl hj] at g
      rw [rd_at (a :: b :: t) (n := j + 1 + 1) rfl h]
      simp only [List.set_cons_succ, wsum, List.getElem_cons_succ, g]
      rw [show (j + 1 + 1) % 2 = j % 2 by omega]
      omega
theorem wsum_even (l : List Int) (j : Nat) (v : Int) (h : j < l.length) (e : j % 2 = 0) : wsum (l.set j v) = wsum l + (v - rd l j) * 256 := by
  rw [wsum_set l j v h, if_pos e]
theorem wsum_odd (l : List Int) (j : Nat) (v : Int) (h : j < l.length) (e : ¬ j % 2 = 0) : wsum (l.set j v) = wsum l + (v - rd l j) * 1 := by
  rw [wsum_set l j v h, if_neg e]
theorem wsum_append (l m : List Int) : l.length % 2 = 0 → wsum (l ++ m) = wsum l + wsum m := by
  induction l using wsum.induct with
  | case1 => intro _; simp [wsum]
  | case2 a => intro h; simp at h
  | case3 a b t ih =>
    intro h
    have g := ih (by simp at h; omega)
    simp only [List.cons_append, wsum, g]
    omega

theorem specSum16_ev {l : List Int} (hb : Bytes l) (hl : l.length ≤ 60000) : Ev (fun k => spec_Sum16.f k l) (csum l) := by
  unfold spec_Sum16.f
  exact ev_neg (by omega) (Ev.bind (specSum_ev hb (by omega)) (Ev.now _))
theorem implSum16_ev {l : List Int} (hb : Bytes l) (hl : l.length ≤ 60000) : Ev (fun k => impl_Sum16.f k l) (csum l) := by
  unfold impl_Sum16.f
  exact ev_neg (by omega) (Ev.bind (implSum_ev hb (by omega)) (Ev.now _))
theorem spec_in (a b c : Int) : spec_l01In.f a b c = some (decide (b ≤ a ∧ a ≤ c)) := by
  unfold spec_l01In.f
  split <;> simp <;> omega
theorem impl_in (a b c : Int) : impl_inRange.f a b c = some (decide (b ≤ a ∧ a ≤ c)) := by
  unfold impl_inRange.f
  split <;> simp <;> omega
theorem loops (d : Nat) : ∀ n : Int, 0 ≤ n → n ≤ 1000000 → n ≤ d → Ev (fun k => spec_FixSum.l0 k n) (65535 - fold n, 0) ∧ Ev (fun k => impl_FixSum.l0 k n) (65535 - fold n, 0) := by
  induction d with
  | zero =>
    intro n h0 h1 h2
    have e : wrap64 (65535 - n) = 65535 - fold n := by rw [fold_small h0 (by omega), wrap64_in (by omega) (by omega)]
    refine ⟨?_, ?_⟩
    · apply ev_succ
      simp only [spec_FixSum.l0, e]
      exact ev_neg (by omega) (Ev.now _)
    · apply ev_succ
      simp only [impl_FixSum.l0, e]
      exact ev_neg (by omega) (Ev.now _)
  | succ d ih =>
    intro n h0 h1 h2
    by_cases hn : n > 65535
    · have e1 : wrap64 ((Int.tmod n 65536) + (wrap64 (Int.tdiv n 65536))) = n % 65536 + n / 65536 := by
        rw [Int.tmod_eq_emod_of_nonneg h0, Int.tdiv_eq_ediv_of_nonneg h0, wrap64_in (n := n / 65536) (by omega) (by omega), wrap64_in (by omega) (by omega)]
      have e2 : wrap64 ((Go.bits .and .i64 n 65535) + (n / 65536)) = n % 65536 + n / 65536 := by
        rw [and_65535 h0 (by omega), wrap64_in (by omega) (by omega)]
      obtain ⟨g1, g2⟩ := ih (n % 65536 + n / 65536) (by omega) (by omega) (by omega)
      rw [fold_step hn] at g1 g2
      refine ⟨?_, ?_⟩
      · apply ev_succ
        simp only [spec_FixSum.l0]
        refine ev_pos hn ?_
        rw [e1]
        exact g1
      · apply ev_succ
        simp only [impl_FixSum.l0]
        refine ev_pos hn ?_
        rw [e2]
        exact g2
    · have e : wrap64 (65535 - n) = 65535 - fold n := by rw [fold_small h0 (by omega), wrap64_in (by omega) (by omega)]
      refine ⟨?_, ?_⟩
      · apply ev_succ
        simp only [spec_FixSum.l0, e]
        exact ev_neg (by omega) (Ev.now _)
      · apply ev_succ
        simp only [impl_FixSum.l0, e]
        exact ev_neg (by omega) (Ev.now _)
theorem fix_ev (a b c : Int) (ha : 0 ≤ a ∧ a ≤ 65535) (hb : 0 ≤ b ∧ b ≤ 65535) (hc : 0 ≤ c ∧ c ≤ 65535) : Ev (fun k => spec_FixSum.f k a b c) (65535 - fold (65535 - a + 65535 - b + c), 0) ∧ Ev (fun k => impl_FixSum.f k a b c) (65535 - fold (65535 - a + 65535 - b + c), 0) := by
  unfold spec_FixSum.f impl_FixSum.f
  simp only [spec_in, impl_in, Option.bind_some, ha, hb, hc, and_self, decide_true, if_true, Bool.not_true]
  have e : (wrap64 ((wrap64 ((wrap64 ((wrap64 (65535 - a)) + 65535)) - b)) + c)) = 65535 - a + 65535 - b + c := by
    rw [wrap64_in (n := 65535 - a) (by omega) (by omega), wrap64_in (n := 65535 - a + 65535) (by omega) (by omega), wrap64_in (n := 65535 - a + 65535 - b) (by omega) (by omega), wrap64_in (by omega) (by omega)]
  obtain ⟨g1, g2⟩ := loops 1000000 (65535 - a + 65535 - b + c) (by omega) (by omega) (by omega)
  refine ⟨?_, ?_⟩
  · apply ev_succ
    simp only [spec_FixSum.j0, Bool.false_eq_true, if_false, e]
    exact g1
  · apply ev_succ
    simp only [impl_FixSum.j0, Bool.false_eq_true, if_false, e]
    exact g2
theorem blob_l0 (l : List Int) (d : Nat) : ∀ (acc : List Int) (n i s : Int), n = acc.length + d → 0 ≤ i → i + d ≤ 1000000000 → acc.length + d ≤ 1000000000 → Bytes acc → ∃ o i' s', Ev (fun k => spec_l00Src_blob.l0 k n acc acc.length l i s) (o, i', s') ∧ Bytes o ∧ (o.length : Int) = n := by
  induction d with
  | zero =>
    intro acc n i s hn h0 h1 h2 hb
    refine ⟨acc, i, s, ?_, hb, by omega⟩
    apply ev_succ
    simp only [spec_l00Src_blob.l0]
    exact ev_neg (by omega) (Ev.now _)
  | succ d ih =>
    intro acc n i s hn h0 h1 h2 hb
    obtain ⟨b, s', e, _⟩ := srcNext_ev l i s 256 h0 (by omega) (by omega) (by omega)
    have hw : wrap64 ((acc.length : Int) + 1) = ((acc ++ [b % 256]).length : Int) := by rw [wrap64_in (by omega) (by omega)]; simp
    obtain ⟨o, i', s2, g, gb, gl⟩ := ih (acc ++ [b % 256]) n (i + 1) s' (by simp; omega) (by omega) (by omega) (by simp; omega) (hb.append (Bytes.cons (by omega) Bytes.nil))
    refine ⟨o, i', s2, ?_, gb, gl⟩
    apply ev_succ
    simp only [spec_l00Src_blob.l0, hw]
    exact ev_pos (by omega) (ev_bindc e (ev_pos (by omega) g))
theorem blobOf_ev (l : List Int) (n : Nat) (hn : n ≤ 1000000) : ∃ o, Ev (fun k => spec_BlobOf.f k l n) o ∧ Bytes o ∧ o.length = n := by
  obtain ⟨o, i', s2, g, gb, gl⟩ := blob_l0 l n [] n 0 ((l.length : Int) % 1000) (by simp) (by omega) (by omega) (by simp; omega) Bytes.nil
  refine ⟨o, ?_, gb, by omega⟩
  unfold spec_BlobOf.f spec_l00Source.f
  refine ev_some ?_
  refine Ev.bind (a := (o, i', s2)) ?_ (Ev.now _)
  unfold spec_l00Src_blob.f
  exact g
/-- A word that is changed, and the sums. -/
theorem fix_law {l : List Int} (hb : Bytes l) (i : Nat) (hi : i + 1 < l.length) (ei : i % 2 = 0) (c : Int) (hc : 0 ≤ c ∧ c ≤ 65535) :
    let r := csum ((l.set i (c / 256)).set (i + 1) (c % 256))
    let f := 65535 - fold (65535 - csum l + 65535 - (rd l i * 256 + rd l ((i + 1 : Nat) : Int)) + c)
    f = r ∨ f = 0 ∧ r = 65535 := by
  have e : wsum ((l.set i (c / 256)).set (i + 1) (c % 256)) = wsum l - (rd l i * 256 + rd l ((i + 1 : Nat) : Int)) + c := by
    rw [wsum_odd _ (i + 1) _ (by simpa using hi) (by omega), wsum_even _ i _ (by omega) ei, rd_set _ i (i + 1) _ hi, if_neg (by omega)]
    omega
  have h := (wsum_range l hb).1
  have b1 := rd_byte hb (i : Int)
  have b2 := rd_byte hb ((i + 1 : Nat) : Int)
  have hs : 0 ≤ wsum ((l.set i 0).set (i + 1) 0) := (wsum_range _ (bytes_set (bytes_set hb i (by omega)) (i + 1) (by omega))).1
  have e2 : wsum ((l.set i 0).set (i + 1) 0) = wsum l - (rd l i * 256 + rd l ((i + 1 : Nat) : Int)) := by
    rw [wsum_odd _ (i + 1) _ (by simpa using hi) (by omega), wsum_even _ i _ (by omega) ei, rd_set _ i (i + 1) _ hi, if_neg (by omega)]
    omega
  simp only [csum, e]
  rw [e2] at hs
  clear e e2
  have o1 : 0 ≤ rd l i * 256 + rd l ((i + 1 : Nat) : Int) ∧ rd l i * 256 + rd l ((i + 1 : Nat) : Int) ≤ 65535 := by omega
  clear b1 b2 hi ei hb
  generalize wsum l = W at *
  generalize rd l i * 256 + rd l ((i + 1 : Nat) : Int) = o at *
  have o0 : o ≤ W := by omega
  obtain ⟨x, hx⟩ : ∃ x, x = fold W := ⟨_, rfl⟩
  rw [← hx]
  by_cases w0 : W = 0
  · have x0 : x = 0 := by rw [hx, w0]; rfl
    have oz : o = 0 := by omega
    rw [x0, w0, oz]
    unfold fold
    split <;> split <;> omega
  · have hq : x = W - 65535 * ((W - 1) / 65535) := by
      rw [hx]
      unfold fold
      rw [if_neg w0]
      omega
    have x1 : 1 ≤ x ∧ x ≤ 65535 := by omega
    have ha : fold (65535 - (65535 - x) + 65535 - o + c) = (W - o + c - 1) % 65535 + 1 := by
      unfold fold
      rw [if_neg (by omega), show 65535 - (65535 - x) + 65535 - o + c - 1 = (W - o + c - 1) + 65535 * (1 - (W - 1) / 65535) by omega, Int.add_mul_emod_self_left]
    rw [ha]
    by_cases z : W - o + c = 0
    · right
      rw [z]
      refine ⟨by omega, rfl⟩
    · left
      unfold fold
      rw [if_neg z]

theorem FnFix : SaysFnFix.Says := by
  intro l m h0 h1
  have hm := Bytes.of_wf h1.2
  refine Ev.rounds (g := fun k => laws_FnFix.f k l m) ?_
  have hj : ∀ b, Ev (fun k => laws_FnFix.j0 k l m b) true := by
    intro b
    apply ev_succ
    simp only [laws_FnFix.j0]
    refine ev_ite (fun _ => Ev.now _) (fun _ => ?_)
    obtain ⟨t, et, t0, t1, _⟩ := lawsAt_ev hm 0 20 (by omega) (by omega) (by omega)
    have t2 := t1 (by omega)
    refine ev_bindc et ?_
    have w1 : wrap64 (2 * t) = 2 * t := wrap64_in (by omega) (by omega)
    have w2 : wrap64 (2 + 2 * t) = ((2 + 2 * t).toNat : Int) := by rw [wrap64_in (by omega) (by omega)]; omega
    rw [w1, w2]
    obtain ⟨o, go, ob, ol⟩ := blobOf_ev l (2 + 2 * t).toNat (by omega)
    refine Ev.bind go ?_
    have hw : wrap64 ((o.length : Int) / 2) = (o.length : Int) / 2 := wrap64_in (by omega) (by omega)
    rw [hw]
    obtain ⟨a, ea, a0, a1, _⟩ := lawsAt_ev hm 1 ((o.length : Int) / 2) (by omega) (by omega) (by omega)
    obtain ⟨p, ep, p0, p1, _⟩ := lawsAt_ev hm 2 256 (by omega) (by omega) (by omega)
    obtain ⟨q, eq, q0, q1, _⟩ := lawsAt_ev hm 3 256 (by omega) (by omega) (by omega)
    have a2 := a1 (by omega)
    have p2 := p1 (by omega)
    have q2 := q1 (by omega)
    have hcs := csum_range ob
    refine ev_bindc ea (ev_bindc ep (ev_bindc eq (Ev.bind (specSum16_ev ob (by omega)) ?_)))
    have wa : wrap64 (2 * a) = 2 * a := wrap64_in (by omega) (by omega)
    have wa1 : wrap64 (2 * a + 1) = 2 * a + 1 := wrap64_in (by omega) (by omega)
    simp only [wa, wa1]
    obtain ⟨i, hi⟩ : ∃ i : Nat, 2 * a = (i : Int) := ⟨(2 * a).toNat, by omega⟩
    rw [hi]
    have ti : ((i : Int)).toNat = i := by omega
    have ti1 : ((i : Int) + 1).toNat = i + 1 := by omega
    have b1 := rd_byte ob (i : Int)
    have b2 := rd_byte ob ((i : Int) + 1)
    have wn : wrap64 (wrap64 (p * 256) + q) = p * 256 + q := by rw [wrap64_in (n := p * 256) (by omega) (by omega), wrap64_in (by omega) (by omega)]
    have wo : wrap64 ((wrap64 ((wrap64 (rd o (i : Int))) * 256)) + (wrap64 (rd o ((i : Int) + 1)))) = rd o (i : Int) * 256 + rd o ((i : Int) + 1) := by rw [wrap_rd ob, wrap_rd ob, wrap64_in (n := rd o (i : Int) * 256) (by omega) (by omega), wrap64_in (by omega) (by omega)]
    have wd : (wrap64 (Int.tdiv (p * 256 + q) 256)) % 256 = (p * 256 + q) / 256 := by rw [Int.tdiv_eq_ediv_of_nonneg (by omega), wrap64_in (by omega) (by omega)]; omega
    have wm : (Int.tmod (p * 256 + q) 256) % 256 = (p * 256 + q) % 256 := by rw [Int.tmod_eq_emod_of_nonneg (by omega)]; omega
    simp only [ti, ti1, wn, wo, wd, wm]
    obtain ⟨g1, g2⟩ := fix_ev (csum o) (rd o (i : Int) * 256 + rd o ((i : Int) + 1)) (p * 256 + q) hcs (by omega) (by omega)
    refine ev_pos (by omega) (ev_pos (by omega) (ev_pos (by omega) (ev_pos (by omega) (Ev.bind g2 (Ev.bind g1 (ev_some ?_))))))
    have nb : Bytes ((o.set i ((p * 256 + q) / 256)).set (i + 1) ((p * 256 + q) % 256)) := bytes_set (bytes_set ob i (by omega)) (i + 1) (by omega)
    have nl : ((o.set i ((p * 256 + q) / 256)).set (i + 1) ((p * 256 + q) % 256)).length ≤ 60000 := by simp; omega
    refine Ev.bind (implSum16_ev nb nl) (ev_pos rfl (ev_pos rfl (Ev.bind (specSum16_ev nb nl) (ev_pos rfl ?_))))
    have L := fix_law ob i (by omega) (by omega) (p * 256 + q) (by omega)
    simp only [Int.natCast_add, Int.cast_ofNat_Int] at L
    rcases L with L | ⟨L1, L2⟩
    · exact ev_pos L (Ev.now _)
    · rw [L1, L2]
      exact ev_neg (by omega) (ev_pos (by decide) (ev_fin (by decide)))
  unfold laws_FnFix.f
  exact ev_ite (fun _ => hj _) (fun _ => hj _)

end Go.Proofs.Ythbeooiaaplojaa.Pure
