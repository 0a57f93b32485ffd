/- FnSums: bytes with their sum behind them sum to nothing; words may change their places. -/
import Derived.Test.YthjeegnmmeifbaaSaysFnSums
import Derived.Test.YthjeegnmmeifbaaSum
namespace Go.Proofs.Ythjeegnmmeifbaa.Pure
open Go.RowKit Go.Proofs.Ythjeegnmmeifbaa.QFnSums Go.Proofs.YthjeegnmmeifbaaW.PrintWords Go.Proofs.YthjeegnmmeifbaaW.PrintLast Go.Proofs.Ythjeegnmmeifbaa.Aid

/-! ### The sums of the two packages -/
theorem specSum_l1 (d : Nat) : ∀ n : Int, 0 ≤ n → n ≤ 4611756387171566592 → n ≤ d → Ev (fun k => spec_l01Sum.l1 k n) (65535 - fold n) := by
  induction d with
  | zero =>
    intro n h0 h1 h2
    have e : wrap64 (65535 - n) = 65535 - fold n := by rw [fold_small h0 (by omega), wrap64_in (by omega) (by omega)]
    apply ev_succ
    simp only [spec_l01Sum.l1, e]
    exact ev_neg (by omega) (Ev.now _)
  | succ d ih =>
    intro n h0 h1 h2
    by_cases hn : n > 65535
    · have e1 : wrap64 ((Int.tmod n 65536) + (wrap64 (Int.tdiv n 65536))) = n % 65536 + n / 65536 := by
        rw [Int.tmod_eq_emod_of_nonneg h0, Int.tdiv_eq_ediv_of_nonneg h0, wrap64_in (n := n / 65536) (by omega) (by omega), wrap64_in (by omega) (by omega)]
      have g := ih (n % 65536 + n / 65536) (by omega) (by omega) (by omega)
      rw [fold_step hn] at g
      apply ev_succ
      simp only [spec_l01Sum.l1]
      refine ev_pos hn ?_
      rw [e1]
      exact g
    · have e : wrap64 (65535 - n) = 65535 - fold n := by rw [fold_small h0 (by omega), wrap64_in (by omega) (by omega)]
      apply ev_succ
      simp only [spec_l01Sum.l1, e]
      exact ev_neg (by omega) (Ev.now _)
theorem specSum_l0 (l : List Int) (hb : Bytes l) (hl : l.length ≤ 140737488355328) (d : Nat) : ∀ (i : Nat) (s : Int), 2 ∣ i → l.length ≤ i + d → 0 ≤ s → s + wsum (l.drop i) ≤ 4611756387171566592 → Ev (fun k => spec_l01Sum.l0 k l s i) (65535 - fold (s + wsum (l.drop i))) := by
  induction d using Nat.strongRecOn with
  | _ d ih =>
    intro i s h2 hd h0 h1
    have hr := wsum_drop_nonneg hb i
    by_cases c : i < l.length
    · have hm : Int.tmod (i : Int) 2 = 0 := by rw [Int.tmod_eq_emod_of_nonneg (by omega)]; omega
      have b1 := rd_byte hb i
      by_cases c2 : i + 1 < l.length
      · have b2 := rd_byte hb ((i + 1 : Nat) : Int)
        have hm2 : ¬ Int.tmod ((i + 1 : Nat) : Int) 2 = 0 := by rw [Int.tmod_eq_emod_of_nonneg (by omega)]; omega
        have hw : wrap64 ((i : Int) + 1) = ((i + 1 : Nat) : Int) := by rw [wrap64_in (by omega) (by omega)]; omega
        have hw2 : wrap64 (((i + 1 : Nat) : Int) + 1) = ((i + 2 : Nat) : Int) := by rw [wrap64_in (by omega) (by omega)]; omega
        have e := wsum_drop2 l i c2
        have hr2 := wsum_drop_nonneg hb (i + 2)
        rw [e] at h1
        have g := ih (d - 2) (by omega) (i + 2) (s + (rd l i * 256 + rd l ((i + 1 : Nat) : Int))) (by omega) (by omega) (by omega) (by omega)
        have w1 : wrap64 (rd l i * 256) = rd l i * 256 := wrap64_in (by omega) (by omega)
        have w2 : wrap64 (s + rd l i * 256) = s + rd l i * 256 := wrap64_in (by omega) (by omega)
        have w3 : wrap64 (s + rd l i * 256 + rd l ((i + 1 : Nat) : Int)) = s + (rd l i * 256 + rd l ((i + 1 : Nat) : Int)) := by rw [wrap64_in (by omega) (by omega)]; omega
        rw [e, show s + (rd l i * 256 + rd l ((i + 1 : Nat) : Int) + wsum (l.drop (i + 2))) = s + (rd l i * 256 + rd l ((i + 1 : Nat) : Int)) + wsum (l.drop (i + 2)) from by omega]
        apply ev_succ
        simp only [spec_l01Sum.l0, hw, wrap_rd hb, w1, w2]
        refine ev_pos (by omega) (ev_pos hm (ev_pos (by omega) ?_))
        apply ev_succ
        simp only [spec_l01Sum.l0, hw2, wrap_rd hb, w3]
        exact ev_pos (by omega) (ev_neg hm2 (ev_pos (by omega) g))
      · have e := wsum_drop1 l i (by omega)
        rw [e] at h1
        rw [e]
        have hw : wrap64 ((i : Int) + 1) = ((i + 1 : Nat) : Int) := by rw [wrap64_in (by omega) (by omega)]; omega
        have w1 : wrap64 (rd l i * 256) = rd l i * 256 := wrap64_in (by omega) (by omega)
        have w2 : wrap64 (s + rd l i * 256) = s + rd l i * 256 := wrap64_in (by omega) (by omega)
        apply ev_succ
        simp only [spec_l01Sum.l0, hw, wrap_rd hb, w1, w2]
        refine ev_pos (by omega) (ev_pos hm (ev_pos (by omega) ?_))
        apply ev_succ
        simp only [spec_l01Sum.l0]
        refine ev_neg (by omega) ?_
        exact specSum_l1 (s + rd l i * 256).toNat _ (by omega) (by omega) (by omega)
    · have e := wsum_drop0 l i (by omega)
      rw [e] at h1
      rw [e]
      apply ev_succ
      simp only [spec_l01Sum.l0]
      refine ev_neg (by omega) ?_
      rw [Int.add_zero]
      exact specSum_l1 s.toNat s h0 (by omega) (by omega)
theorem specSum_ev {l : List Int} (hb : Bytes l) (hl : l.length ≤ 140737488355328) : Ev (fun k => spec_l01Sum.f k l) (csum l) := by
  have h := wsum_range l hb
  have g := specSum_l0 l hb hl l.length 0 0 (by omega) (by omega) (by omega) (by simp only [List.drop_zero]; omega)
  simp only [List.drop_zero, Int.zero_add] at g
  exact g
theorem implFold_l1 (d : Nat) : ∀ n : Int, 0 ≤ n → n ≤ 4611686018427387903 → n ≤ d → Ev (fun k => impl_foldSum.l1 k n) (fold n) := by
  induction d with
  | zero =>
    intro n h0 h1 h2
    rw [fold_small h0 (by omega)]
    apply ev_succ
    simp only [impl_foldSum.l1]
    exact ev_neg (by omega) (Ev.now _)
  | succ d ih =>
    intro n h0 h1 h2
    by_cases hn : n > 65535
    · have e2 : wrap64 ((Go.bits .and .i64 n 65535) + (n / 65536)) = n % 65536 + n / 65536 := by
        rw [and_65535 h0 (by omega), wrap64_in (by omega) (by omega)]
      have g := ih (n % 65536 + n / 65536) (by omega) (by omega) (by omega)
      rw [fold_step hn] at g
      apply ev_succ
      simp only [impl_foldSum.l1]
      refine ev_pos hn ?_
      rw [e2]
      exact g
    · rw [fold_small h0 (by omega)]
      apply ev_succ
      simp only [impl_foldSum.l1]
      exact ev_neg (by omega) (Ev.now _)
theorem implFold_l0 (l : List Int) (hb : Bytes l) (hl : l.length ≤ 1000000000) (d : Nat) : ∀ (i : Nat) (s : Int), l.length ≤ i + d → 0 ≤ s → s + wsum (l.drop i) ≤ 4611686018427387903 → Ev (fun k => impl_foldSum.l0 k l s i) (fold (s + wsum (l.drop i))) := by
  induction d using Nat.strongRecOn with
  | _ d ih =>
    intro i s hd h0 h1
    have hr := wsum_drop_nonneg hb i
    by_cases c : i < l.length
    · have b1 := rd_byte hb i
      have hw : wrap64 ((i : Int) + 1) = ((i + 1 : Nat) : Int) := by rw [wrap64_in (by omega) (by omega)]; omega
      have hw2 : wrap64 ((i : Int) + 2) = ((i + 2 : Nat) : Int) := by rw [wrap64_in (by omega) (by omega)]; omega
      have w1 : wrap64 (rd l i * 256) = rd l i * 256 := wrap64_in (by omega) (by omega)
      by_cases c2 : i + 1 < l.length
      · have b2 := rd_byte hb ((i + 1 : Nat) : Int)
        have e := wsum_drop2 l i c2
        have hr2 := wsum_drop_nonneg hb (i + 2)
        rw [e] at h1
        have g := ih (d - 2) (by omega) (i + 2) (s + (rd l i * 256 + rd l ((i + 1 : Nat) : Int))) (by omega) (by omega) (by omega)
        have w2 : wrap64 (s + rd l i * 256) = s + rd l i * 256 := wrap64_in (by omega) (by omega)
        have w3 : wrap64 (s + rd l i * 256 + rd l ((i + 1 : Nat) : Int)) = s + (rd l i * 256 + rd l ((i + 1 : Nat) : Int)) := by rw [wrap64_in (by omega) (by omega)]; omega
        rw [e, show s + (rd l i * 256 + rd l ((i + 1 : Nat) : Int) + wsum (l.drop (i + 2))) = s + (rd l i * 256 + rd l ((i + 1 : Nat) : Int)) + wsum (l.drop (i + 2)) from by omega]
        apply ev_succ
        simp only [impl_foldSum.l0, hw, hw2, wrap_rd hb, w1, w2, w3]
        exact ev_pos (by omega) (ev_pos (by omega) (ev_pos (by omega) (ev_pos (by omega) g)))
      · have e := wsum_drop1 l i (by omega)
        rw [e] at h1
        have g := ih (d - 1) (by omega) (i + 2) (s + rd l i * 256) (by omega) (by omega) (by rw [wsum_drop0 l (i + 2) (by omega)]; omega)
        rw [wsum_drop0 l (i + 2) (by omega), Int.add_zero] at g
        rw [e]
        have w2 : wrap64 (s + rd l i * 256) = s + rd l i * 256 := wrap64_in (by omega) (by omega)
        apply ev_succ
        simp only [impl_foldSum.l0, hw, hw2, wrap_rd hb, w1, w2]
        exact ev_pos (by omega) (ev_pos (by omega) (ev_neg (by omega) g))
    · have e := wsum_drop0 l i (by omega)
      rw [e] at h1
      rw [e]
      apply ev_succ
      simp only [impl_foldSum.l0]
      refine ev_neg (by omega) ?_
      rw [Int.add_zero]
      exact implFold_l1 s.toNat s h0 (by omega) (by omega)
theorem implFold_ev {l : List Int} (hb : Bytes l) (hl : l.length ≤ 1000000000) : Ev (fun k => impl_foldSum.f k l) (fold (wsum l)) := by
  have h := wsum_range l hb
  have g := implFold_l0 l hb hl l.length 0 0 (by omega) (by omega) (by simp only [List.drop_zero]; omega)
  simp only [List.drop_zero, Int.zero_add] at g
  exact g
theorem implSum_ev {l : List Int} (hb : Bytes l) (hl : l.length ≤ 1000000000) : Ev (fun k => impl_checkSum.f k l) (csum l) := by
  have h := fold_range (wsum_range l hb).1
  have e : wrap64 (65535 - fold (wsum l)) = csum l := by rw [wrap64_in (by omega) (by omega)]; rfl
  unfold impl_checkSum.f
  refine Ev.bind (implFold_ev hb hl) ?_
  rw [e]
  exact Ev.now _
/-! ### The source of bytes that a code gives; the walk's number -/
theorem srcByte_ev (l : List Int) (i s : Int) (h0 : 0 ≤ i) (h1 : i ≤ 1000000000) : ∃ b s', spec_l00Src_byte.f l i s = some (b, i + 1, s') := by
  have hw : wrap64 (i + 1) = i + 1 := wrap64_in (by omega) (by omega)
  have hw2 : wrap64 (i + 1 - 1) = i := by rw [wrap64_in (by omega) (by omega)]; omega
  unfold spec_l00Src_byte.f
  simp only [hw, hw2]
  by_cases c : i + 1 ≤ (l.length : Int)
  · rw [if_pos c, if_pos h0, if_pos (by omega)]
    exact ⟨_, _, rfl⟩
  · rw [if_neg c]
    by_cases c2 : i + 1 > 3000
    · rw [if_pos c2]
      exact ⟨_, _, rfl⟩
    · rw [if_neg c2]
      exact ⟨_, _, rfl⟩
theorem srcNext_ev (l : List Int) (i s n : Int) (h0 : 0 ≤ i) (h1 : i ≤ 1000000000) (h2 : 2 ≤ n) (h3 : n ≤ 256) : ∃ b s', spec_l00Src_next.f l i s n = some (b, i + 1, s') ∧ b < n := by
  obtain ⟨b, s', e⟩ := srcByte_ev l i s h0 h1
  unfold spec_l00Src_next.f
  rw [if_neg (by omega), if_pos h3, e, Option.bind_some, if_neg (by omega)]
  exact ⟨_, _, rfl, Int.tmod_lt_of_pos _ (by omega)⟩
theorem srcBytes_l0 (l : List Int) (d : Nat) : ∀ (acc : List Int) (n i s : Int), n ≤ d → 0 ≤ i → i + d ≤ 1000000000 → acc.length + d ≤ 1000000000 → Bytes acc → ∃ o i' s', Ev (fun k => spec_l00Src_bytes.l0 k acc n l i s) (o, i', s') ∧ Bytes o ∧ o.length ≤ acc.length + d := by
  induction d with
  | zero =>
    intro acc n i s hn h0 h1 h2 hb
    refine ⟨acc, i, s, ?_, hb, by omega⟩
    apply ev_succ
    simp only [spec_l00Src_bytes.l0]
    exact ev_neg (by omega) (Ev.now _)
  | succ d ih =>
    intro acc n i s hn h0 h1 h2 hb
    by_cases c : n > 0
    · obtain ⟨b, s', e, _⟩ := srcNext_ev l i s 256 h0 (by omega) (by omega) (by omega)
      have hw : wrap64 (n - 1) = n - 1 := wrap64_in (by omega) (by omega)
      obtain ⟨o, i', s2, g, gb, gl⟩ := ih (acc ++ [b % 256]) (n - 1) (i + 1) s' (by omega) (by omega) (by omega) (by simp; omega) (hb.append (Bytes.cons (by omega) Bytes.nil))
      refine ⟨o, i', s2, ?_, gb, by simp at gl; omega⟩
      apply ev_succ
      simp only [spec_l00Src_bytes.l0, hw]
      refine ev_pos c (ev_bindc e ?_)
      exact ev_pos (by omega) g
    · refine ⟨acc, i, s, ?_, hb, by omega⟩
      apply ev_succ
      simp only [spec_l00Src_bytes.l0]
      exact ev_neg c (Ev.now _)
theorem lawsAt_ev {l : List Int} (hb : Bytes l) (i n : Int) (h0 : 0 ≤ i) (h1 : i ≤ 1000) (hn : n ≤ 1000000) : ∃ v, laws_at.f l i n = some v ∧ 0 ≤ v ∧ (1 ≤ n → v < n) ∧ (n ≤ 1 → v = 0) := by
  unfold laws_at.f
  by_cases c : n ≤ 1
  · rw [if_pos c]
    exact ⟨0, rfl, by omega, by omega, by omega⟩
  · rw [if_neg c]
    by_cases c2 : (l.length : Int) = 0
    · rw [if_pos c2, if_neg (by omega), wrap64_in (by omega) (by omega)]
      refine ⟨_, rfl, Int.tmod_nonneg _ (by omega), fun _ => Int.tmod_lt_of_pos _ (by omega), by omega⟩
    · rw [if_neg c2]
      have hL : 0 < (l.length : Int) := by omega
      have m1 := Int.tmod_nonneg (l.length : Int) h0
      have m2 := Int.tmod_lt_of_pos i hL
      have m3 := Int.tmod_nonneg (l.length : Int) (show 0 ≤ i + 1 by omega)
      have m4 := Int.tmod_lt_of_pos (i + 1) hL
      have d0 := Int.tdiv_nonneg h0 (show 0 ≤ (l.length : Int) by omega)
      have d1 : Int.tdiv i (l.length : Int) ≤ i := by rw [Int.tdiv_eq_ediv_of_nonneg h0]; exact Int.ediv_le_self _ h0
      have r1 := rd_byte hb (Int.tmod i (l.length : Int))
      have r2 := rd_byte hb (Int.tmod (i + 1) (l.length : Int))
      have w0 : wrap64 (i + 1) = i + 1 := wrap64_in (by omega) (by omega)
      rw [w0]
      generalize Int.tmod i (l.length : Int) = a at *
      generalize Int.tmod (i + 1) (l.length : Int) = b at *
      generalize Int.tdiv i (l.length : Int) = q at *
      rw [if_pos m1, if_pos m2, if_pos m3, if_pos m4, if_neg (by omega), wrap_rd hb, wrap_rd hb, wrap64_in (n := rd l a * 31) (by omega) (by omega), wrap64_in (n := rd l a * 31 + rd l b) (by omega) (by omega), wrap64_in (n := q) (by omega) (by omega), wrap64_in (by omega) (by omega)]
      exact ⟨_, rfl, Int.tmod_nonneg _ (by omega), fun _ => Int.tmod_lt_of_pos _ (by omega), by omega⟩
/-! ### The sum of a list of which one byte is changed -/
theorem rd_set (l : List Int) (n m : Nat) (v : Int) (h : m < l.length) : rd (l.set n v) m = if n = m then v else rd l m := by
  rw [rd_at _ rfl (by simpa using h : m < (l.set n v).length), rd_at l rfl h, List.getElem_set]
theorem bytes_set {l : List Int} (h : Bytes l) (n : Nat) {v : Int} (hv : 0 ≤ v ∧ v ≤ 255) : Bytes (l.set n v) := fun x hx => by
  rcases List.mem_or_eq_of_mem_set hx with h1 | h1
  · exact h x h1
  · subst h1
    exact hv
theorem wsum_set (l : List Int) : ∀ (j : Nat) (v : Int), j < l.length → wsum (l.set j v) = wsum l + (v - rd l j) * (if j % 2 = 0 then 256 else 1) := by
  induction l using wsum.induct with
  | case1 => intro j v h; simp at h
  | case2 a =>
    intro j v h
    have : j = 0 := by simpa using h
    subst this
    rw [rd_at [a] (n := 0) rfl (by simp)]
    simp [wsum]
    omega
  | case3 a b t ih =>
    intro j v h
    rcases j with _ | _ | j
    · rw [rd_at (a :: b :: t) (n := 0) rfl (by simp)]
      simp [wsum]
      omega
    · rw [rd_at (a :: b :: t) (n := 1) rfl (by simp)]
      simp [wsum]
      omega
    · have hj : j < t.length := by simpa using h
      have g := ih j v hj
      rw [rd_at t (n := j) rfl hj] at g
      rw [rd_at (a :: b :: t) (n := j + 1 + 1) rfl h]
      simp only [List.set_cons_succ, wsum, List.getElem_cons_succ, g]
      rw [show (j + 1 + 1) % 2 = j % 2 by omega]
      omega
theorem wsum_even (l : List Int) (j : Nat) (v : Int) (h : j < l.length) (e : j % 2 = 0) : wsum (l.set j v) = wsum l + (v - rd l j) * 256 := by
  rw [wsum_set l j v h, if_pos e]
theorem wsum_odd (l : List Int) (j : Nat) (v : Int) (h : j < l.length) (e : ¬ j % 2 = 0) : wsum (l.set j v) = wsum l + (v - rd l j) * 1 := by
  rw [wsum_set l j v h, if_neg e]
theorem wsum_append (l m : List Int) : l.length % 2 = 0 → wsum (l ++ m) = wsum l + wsum m := by
  induction l using wsum.induct with
  | case1 => intro _; simp [wsum]
  | case2 a => intro h; simp at h
  | case3 a b t ih =>
    intro h
    have g := ih (by simp at h; omega)
    simp only [List.cons_append, wsum, g]
    omega

theorem specSum16_ev {l : List Int} (hb : Bytes l) (hl : l.length ≤ 60000) : Ev (fun k => spec_Sum16.f k l) (csum l) := by
  unfold spec_Sum16.f
  exact ev_neg (by omega) (Ev.bind (specSum_ev hb (by omega)) (Ev.now _))
theorem implSum16_ev {l : List Int} (hb : Bytes l) (hl : l.length ≤ 60000) : Ev (fun k => impl_Sum16.f k l) (csum l) := by
  unfold impl_Sum16.f
  exact ev_neg (by omega) (Ev.bind (implSum_ev hb (by omega)) (Ev.now _))
theorem bytesOf_ev (l : List Int) : ∃ o, Ev (fun k => spec_BytesOf.f k l 60) o ∧ Bytes o ∧ o.length ≤ 60 := by
  obtain ⟨b, s', e, hb⟩ := srcNext_ev l 0 ((l.length : Int) % 1000) 61 (by omega) (by omega) (by omega) (by omega)
  obtain ⟨o, i', s2, g, gb, gl⟩ := srcBytes_l0 l 60 [] b (0 + 1) s' (by omega) (by omega) (by omega) (by simp) Bytes.nil
  refine ⟨o, ?_, gb, by simpa using gl⟩
  unfold spec_BytesOf.f spec_l00Source.f
  refine ev_some ?_
  refine Ev.bind (a := (o, i', s2)) ?_ (Ev.now _)
  unfold spec_l00Src_bytes.f
  have e61 : wrap64 (60 + 1) = 61 := by rw [wrap64_in (by omega) (by omega)]; try rfl
  simp only [e61]
  refine ev_bindc e ?_
  exact g
/-- The sum of bytes with their check sum behind them. -/
theorem csum_behind {l : List Int} (hb : Bytes l) (he : l.length % 2 = 0) : csum (l ++ [csum l / 256, csum l % 256]) = 0 := by
  have h := (wsum_range l hb).1
  have e : wsum [csum l / 256, csum l % 256] = csum l := by simp only [wsum]; omega
  unfold csum at *
  rw [wsum_append _ _ he, e]
  unfold fold
  split <;> split <;> omega
/-- Two words change places. -/
theorem csum_swap {l : List Int} (i k : Nat) (hi : i + 1 < l.length) (hk : k + 1 < l.length) (ei : i % 2 = 0) (ek : k % 2 = 0) : wsum ((((l.set i (rd l k)).set (i + 1) (rd (l.set i (rd l k)) ((k + 1 : Nat) : Int))).set k (rd l i)).set (k + 1) (rd l ((i + 1 : Nat) : Int))) = wsum l := by
  rw [wsum_odd _ (k + 1) _ (by simpa using hk) (by omega), wsum_even _ k _ (by simp; omega) ek, wsum_odd _ (i + 1) _ (by simpa using hi) (by omega), wsum_even _ i _ (by omega) ei]
  rw [rd_set _ k (k + 1) _ (by simpa using hk), if_neg (by omega), rd_set _ (i + 1) (k + 1) _ (by simpa using hk), rd_set _ i (k + 1) _ hk, rd_set _ (i + 1) k _ (by simp; omega), if_neg (by omega), rd_set _ i k _ (by omega), rd_set _ i (i + 1) _ hi, if_neg (by omega), if_neg (by omega)]
  by_cases c : i = k
  · subst c
    simp
  · rw [if_neg (by omega)]
    (try rw [if_neg c])
    omega

theorem tail_ev {more x : List Int} (hm : Bytes more) (hb : Bytes x) (hl : x.length ≤ 61) (he : x.length % 2 = 0) : Ev (fun k => laws_FnSums.j2 k more x (csum x) false) true := by
  apply ev_succ
  simp only [laws_FnSums.j2, Bool.false_eq_true, if_false]
  refine ev_some ?_
  simp only [List.nil_append]
  refine ev_pos (by simp; omega) (ev_some ?_)
  refine ev_ite (fun hp => ?_) (fun hp => ?_)
  · have hw : wrap64 ((x.length : Int) / 2) = (x.length : Int) / 2 := wrap64_in (by omega) (by omega)
    rw [hw]
    obtain ⟨a, ea, a0, a1, _⟩ := lawsAt_ev hm 0 ((x.length : Int) / 2) (by omega) (by omega) (by omega)
    obtain ⟨b, eb, b0, b1, _⟩ := lawsAt_ev hm 1 ((x.length : Int) / 2) (by omega) (by omega) (by omega)
    have a2 := a1 (by omega)
    have b2 := b1 (by omega)
    refine ev_bindc ea (ev_bindc eb ?_)
    have wa : wrap64 (2 * a) = 2 * a := wrap64_in (by omega) (by omega)
    have wb : wrap64 (2 * b) = 2 * b := wrap64_in (by omega) (by omega)
    have wa1 : wrap64 (2 * a + 1) = 2 * a + 1 := wrap64_in (by omega) (by omega)
    have wb1 : wrap64 (2 * b + 1) = 2 * b + 1 := wrap64_in (by omega) (by omega)
    simp only [wa, wb, wa1, wb1]
    obtain ⟨i, hi⟩ : ∃ i : Nat, 2 * a = (i : Int) := ⟨(2 * a).toNat, by omega⟩
    obtain ⟨j, hj⟩ : ∃ j : Nat, 2 * b = (j : Int) := ⟨(2 * b).toNat, by omega⟩
    have ei : i % 2 = 0 := by omega
    have ej : j % 2 = 0 := by omega
    rw [hi, hj]
    have ti : ((i : Int)).toNat = i := by omega
    have tj : ((j : Int)).toNat = j := by omega
    have ti1 : ((i : Int) + 1).toNat = i + 1 := by omega
    have tj1 : ((j : Int) + 1).toNat = j + 1 := by omega
    simp only [ti, tj, ti1, tj1]
    refine ev_pos (by omega) (ev_pos (by omega) (ev_pos (by omega) (ev_pos (by omega) (ev_pos (by omega) (ev_pos (by omega) (ev_some (ev_pos (by omega) (ev_pos (by omega) ?_))))))))
    have s := csum_swap (l := x) i j (by omega) (by omega) ei ej
    have hb4 : Bytes ((((x.set i (rd x j)).set (i + 1) (rd (x.set i (rd x j)) ((j + 1 : Nat) : Int))).set j (rd x i)).set (j + 1) (rd x ((i + 1 : Nat) : Int))) := bytes_set (bytes_set (bytes_set (bytes_set hb i (rd_byte hb _)) (i + 1) (rd_byte (bytes_set hb i (rd_byte hb _)) _)) j (rd_byte hb _)) (j + 1) (rd_byte hb _)
    have g := implSum16_ev hb4 (by simp; omega)
    rw [show csum _ = csum x from by unfold csum; rw [s]] at g
    exact Ev.bind g (ev_fin (by simp))
  · exact Ev.bind (implSum16_ev hb (by omega)) (ev_fin (by simp))
theorem j1_ev {more x : List Int} (hm : Bytes more) (hb : Bytes x) (hl : x.length ≤ 61) (he : x.length % 2 = 0) : Ev (fun k => laws_FnSums.j1 k more x) true := by
  have hc := csum_range hb
  have e1 : (wrap64 (Int.tdiv (csum x) 256)) % 256 = csum x / 256 := by rw [Int.tdiv_eq_ediv_of_nonneg hc.1, wrap64_in (by omega) (by omega)]; omega
  have e2 : (Int.tmod (csum x) 256) % 256 = csum x % 256 := by rw [Int.tmod_eq_emod_of_nonneg hc.1]; omega
  apply ev_succ
  simp only [laws_FnSums.j1]
  refine Ev.bind (implSum16_ev hb (by omega)) (Ev.bind (specSum16_ev hb (by omega)) (ev_pos rfl (ev_some ?_)))
  simp only [List.nil_append, e1, e2]
  refine ev_pos (by simp; omega) (ev_some (ev_some (ev_pos (by simp; omega) ?_)))
  have g := implSum16_ev (l := x ++ [csum x / 256, csum x % 256]) (hb.append (Bytes.cons (by omega) (Bytes.cons (by omega) Bytes.nil))) (by simp; omega)
  rw [csum_behind hb he] at g
  refine Ev.bind g ?_
  exact tail_ev hm hb hl he

theorem FnSums : SaysFnSums.Says := by
  intro l m h0 h1
  have hm := Bytes.of_wf h1.2
  refine Ev.rounds (g := fun k => laws_FnSums.f k l m) ?_
  have hj : ∀ b, Ev (fun k => laws_FnSums.j0 k l m b) true := by
    intro b
    apply ev_succ
    simp only [laws_FnSums.j0]
    refine ev_ite (fun _ => Ev.now _) (fun _ => ?_)
    obtain ⟨o, g, ob, ol⟩ := bytesOf_ev l
    refine Ev.bind g (ev_ite (fun c => ev_pos (by omega) ?_) (fun c => ?_))
    · exact j1_ev hm (ob.append (Bytes.cons (by omega) Bytes.nil)) (by simp; omega) (by simp; omega)
    · exact j1_ev hm ob (by omega) (by omega)
  unfold laws_FnSums.f
  exact ev_ite (fun _ => hj _) (fun _ => hj _)

end Go.Proofs.Ythjeegnmmeifbaa.Pure
