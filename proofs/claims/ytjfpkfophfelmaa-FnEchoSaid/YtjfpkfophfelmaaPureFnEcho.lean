/- An echo is read back from its bytes, and not between ends of the other version; for every code; no condition. -/
import Derived.Test.YtjfpkfophfelmaaSaysFnEcho
import Derived.Test.YtjfpkfophfelmaaSum
namespace Go.Proofs.Ytjfpkfophfelmaa.Pure
set_option linter.unusedSimpArgs false
open Go.RowKit Go.Proofs.Ytjfpkfophfelmaa.QFnEcho Go.Proofs.YtjfpkfophfelmaaV.PrintWords Go.Proofs.YtjfpkfophfelmaaV.PrintLast Go.Proofs.Ytjfpkfophfelmaa.Aid

theorem spec_in (a b c : Int) : spec_l01In.f a b c = some (decide (b ≤ a ∧ a ≤ c)) := by
  unfold spec_l01In.f
  split <;> simp <;> omega
theorem impl_in (a b c : Int) : impl_inRange.f a b c = some (decide (b ≤ a ∧ a ≤ c)) := by
  unfold impl_inRange.f
  split <;> simp <;> omega
/-! ### The sums of the two packages -/
theorem specSum_l1 (d : Nat) : ∀ n : Int, 0 ≤ n → n ≤ 4611756387171566592 → n ≤ d → Ev (fun k => spec_l01Sum.l1 k n) (65535 - fold n) := by
  induction d with
  | zero =>
    intro n h0 h1 h2
    have e : wrap64 (65535 - n) = 65535 - fold n := by rw [fold_small h0 (by omega), wrap64_in (by omega) (by omega)]
    apply ev_succ
    simp only [spec_l01Sum.l1, e]
    exact ev_neg (by omega) (Ev.now _)
  | succ d ih =>
    intro n h0 h1 h2
    by_cases hn : n > 65535
    · have e1 : wrap64 ((Int.tmod n 65536) + (wrap64 (Int.tdiv n 65536))) = n % 65536 + n / 65536 := by
        rw [Int.tmod_eq_emod_of_nonneg h0, Int.tdiv_eq_ediv_of_nonneg h0, wrap64_in (n := n / 65536) (by omega) (by omega), wrap64_in (by omega) (by omega)]
      have g := ih (n % 65536 + n / 65536) (by omega) (by omega) (by omega)
      rw [fold_step hn] at g
      apply ev_succ
      simp only [spec_l01Sum.l1]
      refine ev_pos hn ?_
      rw [e1]
      exact g
    · have e : wrap64 (65535 - n) = 65535 - fold n := by rw [fold_small h0 (by omega), wrap64_in (by omega) (by omega)]
      apply ev_succ
      simp only [spec_l01Sum.l1, e]
      exact ev_neg (by omega) (Ev.now _)
theorem specSum_l0 (l : List Int) (hb : Bytes l) (hl : l.length ≤ 140737488355328) (d : Nat) : ∀ (i : Nat) (s : Int), 2 ∣ i → l.length ≤ i + d → 0 ≤ s → s + wsum (l.drop i) ≤ 4611756387171566592 → Ev (fun k => spec_l01Sum.l0 k l s i) (65535 - fold (s + wsum (l.drop i))) := by
  induction d using Nat.strongRecOn with
  | _ d ih =>
    intro i s h2 hd h0 h1
    have hr := wsum_drop_nonneg hb i
    by_cases c : i < l.length
    · have hm : Int.tmod (i : Int) 2 = 0 := by rw [Int.tmod_eq_emod_of_nonneg (by omega)]; omega
      have b1 := rd_byte hb i
      by_cases c2 : i + 1 < l.length
      · have b2 := rd_byte hb ((i + 1 : Nat) : Int)
        have hm2 : ¬ Int.tmod ((i + 1 : Nat) : Int) 2 = 0 := by rw [Int.tmod_eq_emod_of_nonneg (by omega)]; omega
        have hw : wrap64 ((i : Int) + 1) = ((i + 1 : Nat) : Int) := by rw [wrap64_in (by omega) (by omega)]; omega
        have hw2 : wrap64 (((i + 1 : Nat) : Int) + 1) = ((i + 2 : Nat) : Int) := by rw [wrap64_in (by omega) (by omega)]; omega
        have e := wsum_drop2 l i c2
        have hr2 := wsum_drop_nonneg hb (i + 2)
        rw [e] at h1
        have g := ih (d - 2) (by omega) (i + 2) (s + (rd l i * 256 + rd l ((i + 1 : Nat) : Int))) (by omega) (by omega) (by omega) (by omega)
        have w1 : wrap64 (rd l i * 256) = rd l i * 256 := wrap64_in (by omega) (by omega)
        have w2 : wrap64 (s + rd l i * 256) = s + rd l i * 256 := wrap64_in (by omega) (by omega)
        have w3 : wrap64 (s + rd l i * 256 + rd l ((i + 1 : Nat) : Int)) = s + (rd l i * 256 + rd l ((i + 1 : Nat) : Int)) := by rw [wrap64_in (by omega) (by omega)]; omega
        rw [e, show s + (rd l i * 256 + rd l ((i + 1 : Nat) : Int) + wsum (l.drop (i + 2))) = s + (rd l i * 256 + rd l ((i + 1 : Nat) : Int)) + wsum (l.drop (i + 2)) from by omega]
        apply ev_succ
        simp only [spec_l01Sum.l0, hw, wrap_rd hb, w1, w2]
        refine ev_pos (by omega) (ev_pos hm (ev_pos (by omega) ?_))
        apply ev_succ
        simp only [spec_l01Sum.l0, hw2, wrap_rd hb, w3]
        exact ev_pos (by omega) (ev_neg hm2 (ev_pos (by omega) g))
      · have e := wsum_drop1 l i (by omega)
        rw [e] at h1
        rw [e]
        have hw : wrap64 ((i : Int) + 1) = ((i + 1 : Nat) : Int) := by rw [wrap64_in (by omega) (by omega)]; omega
        have w1 : wrap64 (rd l i * 256) = rd l i * 256 := wrap64_in (by omega) (by omega)
        have w2 : wrap64 (s + rd l i * 256) = s + rd l i * 256 := wrap64_in (by omega) (by omega)
        apply ev_succ
        simp only [spec_l01Sum.l0, hw, wrap_rd hb, w1, w2]
        refine ev_pos (by omega) (ev_pos hm (ev_pos (by omega) ?_))
        apply ev_succ
        simp only [spec_l01Sum.l0]
        refine ev_neg (by omega) ?_
        exact specSum_l1 (s + rd l i * 256).toNat _ (by omega) (by omega) (by omega)
    · have e := wsum_drop0 l i (by omega)
      rw [e] at h1
      rw [e]
      apply ev_succ
      simp only [spec_l01Sum.l0]
      refine ev_neg (by omega) ?_
      rw [Int.add_zero]
      exact specSum_l1 s.toNat s h0 (by omega) (by omega)
theorem specSum_ev {l : List Int} (hb : Bytes l) (hl : l.length ≤ 140737488355328) : Ev (fun k => spec_l01Sum.f k l) (csum l) := by
  have h := wsum_range l hb
  have g := specSum_l0 l hb hl l.length 0 0 (by omega) (by omega) (by omega) (by simp only [List.drop_zero]; omega)
  simp only [List.drop_zero, Int.zero_add] at g
  exact g
theorem implFold_l1 (d : Nat) : ∀ n : Int, 0 ≤ n → n ≤ 4611686018427387903 → n ≤ d → Ev (fun k => impl_foldSum.l1 k n) (fold n) := by
  induction d with
  | zero =>
    intro n h0 h1 h2
    rw [fold_small h0 (by omega)]
    apply ev_succ
    simp only [impl_foldSum.l1]
    exact ev_neg (by omega) (Ev.now _)
  | succ d ih =>
    intro n h0 h1 h2
    by_cases hn : n > 65535
    · have e2 : wrap64 ((Go.bits .and .i64 n 65535) + (n / 65536)) = n % 65536 + n / 65536 := by
        rw [and_65535 h0 (by omega), wrap64_in (by omega) (by omega)]
      have g := ih (n % 65536 + n / 65536) (by omega) (by omega) (by omega)
      rw [fold_step hn] at g
      apply ev_succ
      simp only [impl_foldSum.l1]
      refine ev_pos hn ?_
      rw [e2]
      exact g
    · rw [fold_small h0 (by omega)]
      apply ev_succ
      simp only [impl_foldSum.l1]
      exact ev_neg (by omega) (Ev.now _)
theorem implFold_l0 (l : List Int) (hb : Bytes l) (hl : l.length ≤ 1000000000) (d : Nat) : ∀ (i : Nat) (s : Int), l.length ≤ i + d → 0 ≤ s → s + wsum (l.drop i) ≤ 4611686018427387903 → Ev (fun k => impl_foldSum.l0 k l s i) (fold (s + wsum (l.drop i))) := by
  induction d using Nat.strongRecOn with
  | _ d ih =>
    intro i s hd h0 h1
    have hr := wsum_drop_nonneg hb i
    by_cases c : i < l.length
    · have b1 := rd_byte hb i
      have hw : wrap64 ((i : Int) + 1) = ((i + 1 : Nat) : Int) := by rw [wrap64_in (by omega) (by omega)]; omega
      have hw2 : wrap64 ((i : Int) + 2) = ((i + 2 : Nat) : Int) := by rw [wrap64_in (by omega) (by omega)]; omega
      have w1 : wrap64 (rd l i * 256) = rd l i * 256 := wrap64_in (by omega) (by omega)
      by_cases c2 : i + 1 < l.length
      · have b2 := rd_byte hb ((i + 1 : Nat) : Int)
        have e := wsum_drop2 l i c2
        have hr2 := wsum_drop_nonneg hb (i + 2)
        rw [e] at h1
        have g := ih (d - 2) (by omega) (i + 2) (s + (rd l i * 256 + rd l ((i + 1 : Nat) : Int))) (by omega) (by omega) (by omega)
        have w2 : wrap64 (s + rd l i * 256) = s + rd l i * 256 := wrap64_in (by omega) (by omega)
        have w3 : wrap64 (s + rd l i * 256 + rd l ((i + 1 : Nat) : Int)) = s + (rd l i * 256 + rd l ((i + 1 : Nat) : Int)) := by rw [wrap64_in (by omega) (by omega)]; omega
        rw [e, show s + (rd l i * 256 + rd l ((i + 1 : Nat) : Int) + wsum (l.drop (i + 2))) = s + (rd l i * 256 + rd l ((i + 1 : Nat) : Int)) + wsum (l.drop (i + 2)) from by omega]
        apply ev_succ
        simp only [impl_foldSum.l0, hw, hw2, wrap_rd hb, w1, w2, w3]
        exact ev_pos (by omega) (ev_pos (by omega) (ev_pos (by omega) (ev_pos (by omega) g)))
      · have e := wsum_drop1 l i (by omega)
        rw [e] at h1
        have g := ih (d - 1) (by omega) (i + 2) (s + rd l i * 256) (by omega) (by omega) (by rw [wsum_drop0 l (i + 2) (by omega)]; omega)
        rw [wsum_drop0 l (i + 2) (by omega), Int.add_zero] at g
        rw [e]
        have w2 : wrap64 (s + rd l i * 256) = s + rd l i * 256 := wrap64_in (by omega) (by omega)
        apply ev_succ
        simp only [impl_foldSum.l0, hw, hw2, wrap_rd hb, w1, w2]
        exact ev_pos (by omega) (ev_pos (by omega) (ev_neg (by omega) g))
    · have e := wsum_drop0 l i (by omega)
      rw [e] at h1
      rw [e]
      apply ev_succ
      simp only [impl_foldSum.l0]
      refine ev_neg (by omega) ?_
      rw [Int.add_zero]
      exact implFold_l1 s.toNat s h0 (by omega) (by omega)
theorem implFold_ev {l : List Int} (hb : Bytes l) (hl : l.length ≤ 1000000000) : Ev (fun k => impl_foldSum.f k l) (fold (wsum l)) := by
  have h := wsum_range l hb
  have g := implFold_l0 l hb hl l.length 0 0 (by omega) (by omega) (by simp only [List.drop_zero]; omega)
  simp only [List.drop_zero, Int.zero_add] at g
  exact g
theorem implSum_ev {l : List Int} (hb : Bytes l) (hl : l.length ≤ 1000000000) : Ev (fun k => impl_checkSum.f k l) (csum l) := by
  have h := fold_range (wsum_range l hb).1
  have e : wrap64 (65535 - fold (wsum l)) = csum l := by rw [wrap64_in (by omega) (by omega)]; rfl
  unfold impl_checkSum.f
  refine Ev.bind (implFold_ev hb hl) ?_
  rw [e]
  exact Ev.now _
/-! ### The source of choices that a code gives: its bytes, its place, its seed -/
def Seed (s : Int) : Prop := 0 ≤ s ∧ s < 2147483648
theorem tmod_seed (x : Int) (h : 0 ≤ x) : Seed (Int.tmod x 2147483648) := ⟨Int.tmod_nonneg _ h, Int.tmod_lt_of_pos _ (by omega)⟩
theorem srcB_ev {l : List Int} (hb : Bytes l) {i s : Int} (h0 : 0 ≤ i) (h1 : i ≤ 1000000000) (hs : Seed s) : ∃ b s', spec_l00Src_byte.f l i s = some (b, i + 1, s') ∧ (0 ≤ b ∧ b ≤ 255) ∧ Seed s' := by
  have hw : wrap64 (i + 1) = i + 1 := wrap64_in (by omega) (by omega)
  have hw2 : wrap64 (i + 1 - 1) = i := by rw [wrap64_in (by omega) (by omega)]; omega
  obtain ⟨s0, s1⟩ := hs
  unfold spec_l00Src_byte.f
  simp only [hw, hw2]
  by_cases c : i + 1 ≤ (l.length : Int)
  · have r := rd_byte hb i
    rw [if_pos c, if_pos h0, if_pos (by omega), wrap_rd hb]
    refine ⟨_, _, rfl, r, tmod_seed _ ?_⟩
    rw [wrap64_in (n := s * 31) (by omega) (by omega), wrap64_in (n := s * 31 + rd l i) (by omega) (by omega), wrap64_in (by omega) (by omega)]
    omega
  · rw [if_neg c]
    by_cases c2 : i + 1 > 3000
    · rw [if_pos c2]
      exact ⟨_, _, rfl, by omega, s0, s1⟩
    · have w1 : wrap64 (s * 1103515245) = s * 1103515245 := wrap64_in (by omega) (by omega)
      have w2 : wrap64 (s * 1103515245 + 12345) = s * 1103515245 + 12345 := wrap64_in (by omega) (by omega)
      have hq := tmod_seed (s * 1103515245 + 12345) (by omega)
      rw [if_neg c2, w1, w2]
      refine ⟨_, _, rfl, ?_, hq⟩
      obtain ⟨q0, q1⟩ := hq
      generalize Int.tmod (s * 1103515245 + 12345) 2147483648 = q at q0 q1
      rw [Int.tdiv_eq_ediv_of_nonneg q0, wrap64_in (by omega) (by omega), Int.tmod_eq_emod_of_nonneg (by omega)]
      omega
theorem srcN_ev {l : List Int} (hb : Bytes l) {i s n : Int} (h0 : 0 ≤ i) (h1 : i ≤ 100000000) (hs : Seed s) (h2 : 2 ≤ n) (h3 : n ≤ 16777216) : ∃ b i' s', spec_l00Src_next.f l i s n = some (b, i', s') ∧ (0 ≤ b ∧ b < n) ∧ (0 ≤ i' ∧ i' ≤ i + 3) ∧ Seed s' := by
  unfold spec_l00Src_next.f
  rw [if_neg (by omega)]
  obtain ⟨b, s', e, hb1, hs1⟩ := srcB_ev hb h0 (by omega) hs
  by_cases c : n ≤ 256
  · rw [if_pos c, e, Option.bind_some, if_neg (by omega)]
    exact ⟨_, _, _, rfl, ⟨Int.tmod_nonneg _ hb1.1, Int.tmod_lt_of_pos _ (by omega)⟩, by simp only; omega, hs1⟩
  · obtain ⟨b2, s2, e2, hb2, hs2⟩ := srcB_ev hb (show 0 ≤ i + 1 by omega) (by omega) hs1
    obtain ⟨b3, s3, e3, hb3, hs3⟩ := srcB_ev hb (show 0 ≤ i + 1 + 1 by omega) (by omega) hs2
    rw [if_neg c, e, Option.bind_some]
    simp only [e2, Option.bind_some, e3]
    rw [if_neg (by omega), wrap64_in (n := b * 65536) (by omega) (by omega), wrap64_in (n := b2 * 256) (by omega) (by omega), wrap64_in (n := b * 65536 + b2 * 256) (by omega) (by omega), wrap64_in (by omega) (by omega)]
    exact ⟨_, _, _, rfl, ⟨Int.tmod_nonneg _ (by omega), Int.tmod_lt_of_pos _ (by omega)⟩, by omega, hs3⟩
theorem source_seed (l : List Int) : Seed ((l.length : Int) % 1000) := by
  unfold Seed
  omega
/-! ### Two ends of one version; bytes -/
def EndsOK (a b : ByteArray) : Prop := (a.size = 4 ∧ b.size = 4) ∨ (a.size = 16 ∧ b.size = 16)
theorem addr4_ev {l : List Int} (hb : Bytes l) {i s : Int} (h0 : 0 ≤ i) (h1 : i ≤ 10000) (hs : Seed s) : ∃ a i' s', spec_l00Src_addr4.f l i s = some (a, i', s') ∧ a.size = 4 ∧ (0 ≤ i' ∧ i' ≤ i + 9) ∧ Seed s' := by
  unfold spec_l00Src_addr4.f
  obtain ⟨b1, i1, s1, e1, r1, j1, z1⟩ := srcN_ev hb h0 (by omega) hs (n := 3) (by omega) (by omega)
  obtain ⟨b2, i2, s2, e2, r2, j2, z2⟩ := srcN_ev hb j1.1 (by omega) z1 (n := 2) (by omega) (by omega)
  obtain ⟨b3, i3, s3, e3, r3, j3, z3⟩ := srcN_ev hb j2.1 (by omega) z2 (n := 4) (by omega) (by omega)
  rw [e1, Option.bind_some]
  simp only [e2, Option.bind_some, e3]
  exact ⟨_, _, _, rfl, by rw [strOfNums_size]; rfl, by omega, z3⟩
theorem addr6_l0 {l : List Int} (hb : Bytes l) (d : Nat) : ∀ (acc : List Int) (n i s : Int), n ≤ d → acc.length = 16 → 0 ≤ i → i + 6 * d ≤ 20000 → Seed s → ∃ a i' s', Ev (fun k => spec_l00Src_addr6.l0 k acc n l i s) (a, i', s') ∧ a.size = 16 ∧ (0 ≤ i' ∧ i' ≤ i + 6 * d) ∧ Seed s' := by
  induction d with
  | zero =>
    intro acc n i s hn ha h0 h1 hs
    refine ⟨strOfNums acc, i, s, ?_, by rw [strOfNums_size]; exact ha, by omega, hs⟩
    apply ev_succ
    simp only [spec_l00Src_addr6.l0]
    exact ev_neg (by omega) (Ev.now _)
  | succ d ih =>
    intro acc n i s hn ha h0 h1 hs
    by_cases c : n > 0
    · obtain ⟨b1, i1, s1, e1, r1, j1, z1⟩ := srcN_ev hb h0 (by omega) hs (n := 16) (by omega) (by omega)
      obtain ⟨b2, i2, s2, e2, r2, j2, z2⟩ := srcN_ev hb j1.1 (by omega) z1 (n := 256) (by omega) (by omega)
      by_cases cn : n - 1 ≤ (d : Int)
      · have hw : wrap64 (n - 1) = n - 1 := wrap64_in (by omega) (by omega)
        obtain ⟨a, i3, s3, g, ga, j3, z3⟩ := ih (acc.set (b1 : Int).toNat (b2 % 256)) (n - 1) i2 s2 cn (by simp [ha]) j2.1 (by omega) z2
        refine ⟨a, i3, s3, ?_, ga, by omega, z3⟩
        apply ev_succ
        simp only [spec_l00Src_addr6.l0, hw]
        exact ev_pos c (ev_bindc e1 (ev_bindc e2 (ev_pos r1.1 (ev_pos (by rw [ha]; omega) g))))
      · omega
    · refine ⟨strOfNums acc, i, s, ?_, by rw [strOfNums_size]; exact ha, by omega, hs⟩
      apply ev_succ
      simp only [spec_l00Src_addr6.l0]
      exact ev_neg c (Ev.now _)
theorem addr6_ev {l : List Int} (hb : Bytes l) {i s : Int} (h0 : 0 ≤ i) (h1 : i ≤ 10000) (hs : Seed s) : ∃ a i' s', Ev (fun k => spec_l00Src_addr6.f k l i s) (a, i', s') ∧ a.size = 16 ∧ (0 ≤ i' ∧ i' ≤ i + 30) ∧ Seed s' := by
  obtain ⟨b1, i1, s1, e1, r1, j1, z1⟩ := srcN_ev hb h0 (by omega) hs (n := 2) (by omega) (by omega)
  obtain ⟨b2, i2, s2, e2, r2, j2, z2⟩ := srcN_ev hb j1.1 (by omega) z1 (n := 4) (by omega) (by omega)
  obtain ⟨a, i3, s3, g, ga, j3, z3⟩ := addr6_l0 hb 4 (((List.replicate 16 (0 : Int)).set (0 : Int).toNat 32).set (1 : Int).toNat (b1 % 256)) b2 i2 s2 (by omega) (by simp) j2.1 (by omega) z2
  refine ⟨a, i3, s3, ?_, ga, by omega, z3⟩
  unfold spec_l00Src_addr6.f
  exact ev_pos (by omega) (ev_some (ev_pos (by simp) (ev_bindc e1 (ev_pos (by simp) (ev_bindc e2 g)))))
theorem ends_ev {l : List Int} (hb : Bytes l) : ∃ a b, Ev (fun k => spec_EndsOf.f k l) (a, b) ∧ EndsOK a b := by
  unfold spec_EndsOf.f spec_l00Source.f
  obtain ⟨b1, i1, s1, e1, r1, j1, z1⟩ := srcN_ev hb (show (0 : Int) ≤ 0 by omega) (by omega) (source_seed l) (n := 2) (by omega) (by omega)
  have hc : spec_l00Src_chance.f l 0 ((l.length : Int) % 1000) 2 = some ((b1 == wrap64 (2 - 1)), i1, s1) := by
    unfold spec_l00Src_chance.f
    rw [e1]
    rfl
  by_cases c : (b1 == wrap64 (2 - 1)) = true
  · obtain ⟨a, i2, s2, e2, r2, j2, z2⟩ := addr4_ev hb j1.1 (by omega) z1
    obtain ⟨b, i3, s3, e3, r3, j3, z3⟩ := addr4_ev hb j2.1 (by omega) z2
    refine ⟨a, b, ev_some (Ev.bind (a := (a, b, i3, s3)) ?_ (Ev.now _)), .inl ⟨r2, r3⟩⟩
    unfold spec_l00Src_ends.f
    exact ev_bindc hc (ev_pos c (ev_bindc e2 (ev_bindc e3 (Ev.now _))))
  · obtain ⟨a, i2, s2, e2, r2, j2, z2⟩ := addr6_ev hb j1.1 (by omega) z1
    obtain ⟨b, i3, s3, e3, r3, j3, z3⟩ := addr6_ev hb j2.1 (by omega) z2
    refine ⟨a, b, ev_some (Ev.bind (a := (a, b, i3, s3)) ?_ (Ev.now _)), .inr ⟨r2, r3⟩⟩
    unfold spec_l00Src_ends.f
    exact ev_bindc hc (ev_neg c (Ev.bind e2 (Ev.bind e3 (Ev.now _))))
theorem srcBytesX_l0 {l : List Int} (hbl : Bytes l) (d : Nat) : ∀ (acc : List Int) (n i s : Int), n ≤ d → 0 ≤ i → i + 3 * d ≤ 100000 → acc.length + d ≤ 100000 → Bytes acc → Seed s → ∃ o i' s', Ev (fun k => spec_l00Src_bytes.l0 k acc n l i s) (o, i', s') ∧ Bytes o ∧ o.length ≤ acc.length + d ∧ (0 ≤ i' ∧ i' ≤ i + 3 * d) ∧ Seed s' := by
  induction d with
  | zero =>
    intro acc n i s hn h0 h1 h2 hb hs
    refine ⟨acc, i, s, ?_, hb, by omega, by omega, hs⟩
    apply ev_succ
    simp only [spec_l00Src_bytes.l0]
    exact ev_neg (by omega) (Ev.now _)
  | succ d ih =>
    intro acc n i s hn h0 h1 h2 hb hs
    by_cases c : n > 0
    · obtain ⟨b, i1, s', e, r, j, z⟩ := srcN_ev hbl h0 (by omega) hs (n := 256) (by omega) (by omega)
      have hw : wrap64 (n - 1) = n - 1 := wrap64_in (by omega) (by omega)
      obtain ⟨o, i', s2, g, gb, gl, gj, gz⟩ := ih (acc ++ [b % 256]) (n - 1) i1 s' (by omega) j.1 (by omega) (by simp; omega) (hb.append (Bytes.cons (by omega) Bytes.nil)) z
      refine ⟨o, i', s2, ?_, gb, by simp at gl; omega, by omega, gz⟩
      apply ev_succ
      simp only [spec_l00Src_bytes.l0, hw]
      refine ev_pos c (ev_bindc e ?_)
      exact ev_pos (by omega) g
    · refine ⟨acc, i, s, ?_, hb, by omega, by omega, hs⟩
      apply ev_succ
      simp only [spec_l00Src_bytes.l0]
      exact ev_neg c (Ev.now _)
theorem srcBytes_ev {l : List Int} (hbl : Bytes l) {i s n : Int} (h0 : 0 ≤ i) (h1 : i ≤ 50000) (hs : Seed s) (hn : 1 ≤ n) (hn2 : n ≤ 10000) : ∃ o i' s', Ev (fun k => spec_l00Src_bytes.f k l i s n) (o, i', s') ∧ Bytes o ∧ o.length ≤ n.toNat ∧ (0 ≤ i' ∧ i' ≤ i + 3 + 3 * n) ∧ Seed s' := by
  have hw : wrap64 (n + 1) = n + 1 := wrap64_in (by omega) (by omega)
  obtain ⟨b, i1, s1, e, r, j, z⟩ := srcN_ev hbl h0 (by omega) hs (n := n + 1) (by omega) (by omega)
  obtain ⟨o, i', s2, g, gb, gl, gj, gz⟩ := srcBytesX_l0 hbl n.toNat [] b i1 s1 (by omega) j.1 (by omega) (by simp; omega) Bytes.nil z
  refine ⟨o, i', s2, ?_, gb, by simpa using gl, by omega, gz⟩
  unfold spec_l00Src_bytes.f
  rw [hw]
  exact ev_bindc e g
/-! ### A number in two bytes; two bytes written into a row -/
def two (n : Int) : List Int := [(n / 256) % 256, n % 256]
theorem two_length (n : Int) : (two n).length = 2 := rfl
theorem two_bytes (n : Int) : Bytes (two n) := by
  intro x hx
  simp only [two, List.mem_cons, List.not_mem_nil, or_false] at hx
  omega
theorem specTwo_ev {n : Int} (h0 : 0 ≤ n) (h1 : n ≤ 1000000000) : spec_l01Two.f n = some (two n) := by
  unfold spec_l01Two.f two
  rw [Int.tdiv_eq_ediv_of_nonneg h0, Int.tmod_eq_emod_of_nonneg h0, wrap64_in (by omega) (by omega)]
  rw [show n % 256 % 256 = n % 256 by omega]
theorem implTwo_ev (n : Int) : impl_word16.f n = some (two n) := rfl
theorem copyAt_two (xs : List Int) (k : Nat) (a b : Int) (h : k + 2 ≤ xs.length) : copyAt xs k [a, b] = (xs.set k a).set (k + 1) b := by
  unfold copyAt
  rw [List.take_of_length_le (show ([a, b] : List Int).length ≤ xs.length - k by simp only [List.length_cons, List.length_nil]; omega)]
  apply List.ext_getElem?
  intro q
  have e : (xs.take k).length = k := by rw [List.length_take]; omega
  rcases Nat.lt_or_ge q k with h1 | h1
  · rw [List.getElem?_append_left (by omega), List.getElem?_take, if_pos h1, List.getElem?_set_ne (by omega), List.getElem?_set_ne (by omega)]
  · rw [List.getElem?_append_right (by omega), e]
    by_cases h2 : q = k
    · subst h2
      rw [Nat.sub_self, List.getElem?_set_ne (by omega), List.getElem?_set_self (by omega)]
      rfl
    · by_cases h3 : q = k + 1
      · subst h3
        rw [show k + 1 - k = 1 by omega, List.getElem?_set_self (by simp; omega)]
        rfl
      · rw [List.getElem?_append_right (by simp; omega), List.getElem?_drop, List.getElem?_set_ne (by omega), List.getElem?_set_ne (by omega)]
        congr 1
        simp
        omega
/-! ### What is summed ahead of bytes between two ends -/
def ps (a b : ByteArray) (p n : Int) : List Int := if a.size = 4 then (bytesOf (a ++ b) ++ [0, p % 256]) ++ two n else ((bytesOf (a ++ b) ++ [0, 0]) ++ two n) ++ [0, 0, 0, p % 256]
theorem ends_size {a b : ByteArray} (h : EndsOK a b) : (a ++ b).size = 2 * a.size ∧ (bytesOf (a ++ b)).length = 2 * a.size ∧ a.size ≤ 16 ∧ (a.size = 4 ∨ a.size = 16) ∧ b.size = a.size := by
  unfold EndsOK at h
  simp only [bytesOf_length, ByteArray.size_append]
  omega
theorem ps_length {a b : ByteArray} (h : EndsOK a b) (p n : Int) : (ps a b p n).length = (if a.size = 4 then 12 else 40) := by
  obtain ⟨_, h2, _, h4, _⟩ := ends_size h
  unfold ps
  split
  · rename_i c
    simp [two, h2, c]
  · simp [two, h2]
    omega
theorem ps_bytes (a b : ByteArray) (p n : Int) : Bytes (ps a b p n) := by
  have z : (0 : Int) ≤ 0 ∧ (0 : Int) ≤ 255 := by omega
  have hp : 0 ≤ p % 256 ∧ p % 256 ≤ 255 := by omega
  unfold ps
  split
  · exact ((bytesOf_bytes _).append (Bytes.cons z (Bytes.cons hp Bytes.nil))).append (two_bytes _)
  · exact (((bytesOf_bytes _).append (Bytes.cons z (Bytes.cons z Bytes.nil))).append (two_bytes _)).append (Bytes.cons z (Bytes.cons z (Bytes.cons z (Bytes.cons hp Bytes.nil))))
theorem implHead_ev {a b : ByteArray} (h : EndsOK a b) (p n : Int) : impl_sumHead.f a b p n = some (ps a b p n) := by
  obtain ⟨h1, h2, h3, h4, h5⟩ := ends_size h
  unfold impl_sumHead.f ps
  rw [if_pos (by omega), if_pos (by omega)]
  simp only [Option.bind_some, implTwo_ev]
  by_cases c : a.size = 4
  · rw [if_pos (by omega), if_pos c, if_pos (by rw [h2]; simp; omega)]
    (try simp only [Option.bind_some, implTwo_ev])
    rw [if_pos (by simp [two, h2]; omega)]
  · rw [if_neg (by omega), if_neg c, if_pos (by rw [h2]; simp; omega)]
    (try simp only [Option.bind_some, implTwo_ev])
    rw [if_pos (by simp [two, h2]; omega)]
    (try simp only [Option.bind_some, implTwo_ev])
    rw [if_pos (by simp [two, h2]; omega)]
theorem specPs_ev {a b : ByteArray} (h : EndsOK a b) (p : Int) {n : Int} (n0 : 0 ≤ n) (n1 : n ≤ 1000000000) : spec_l09Pseudo.f a b p n = some (ps a b p n) := by
  obtain ⟨h1, h2, h3, h4, h5⟩ := ends_size h
  unfold spec_l09Pseudo.f ps
  rw [if_pos (by omega), if_pos (by omega)]
  simp only [Option.bind_some, specTwo_ev n0 n1]
  by_cases c : a.size = 4
  · rw [if_pos (by omega), if_pos c, if_pos (by rw [h2]; simp; omega)]
    (try simp only [Option.bind_some, specTwo_ev n0 n1])
    rw [if_pos (by simp [two, h2]; omega)]
  · rw [if_neg (by omega), if_neg c, if_pos (by rw [h2]; simp; omega)]
    (try simp only [Option.bind_some, specTwo_ev n0 n1])
    rw [if_pos (by simp [two, h2]; omega)]
    (try simp only [Option.bind_some, specTwo_ev n0 n1])
    rw [if_pos (by simp [two, h2]; omega)]
theorem implOne_ev {a b : ByteArray} (h : EndsOK a b) : impl_oneVersion.f a b = some true := by
  obtain ⟨h1, h2, h3, h4, h5⟩ := ends_size h
  unfold impl_oneVersion.f impl_isAddress.f
  by_cases c : (a.size : Int) = 4
  · rw [if_pos c]
    simp [h5]
  · rw [if_neg c]
    have e : (a.size : Int) = 16 := by omega
    simp [h5, e]
theorem specPair_ev {a b : ByteArray} (h : EndsOK a b) : spec_l09Pair.f a b = some true := by
  obtain ⟨h1, h2, h3, h4, h5⟩ := ends_size h
  unfold spec_l09Pair.f
  rw [if_pos (by omega)]
  by_cases c : (a.size : Int) = 4
  · rw [if_pos c]
  · rw [if_neg c]
    have e : (a.size : Int) = 16 := by omega
    simp [e]
theorem tooLong_ev {a b : ByteArray} (h : EndsOK a b) : Ev (fun k => impl_tooLong.f k [a, b]) false := by
  obtain ⟨h1, h2, h3, h4, h5⟩ := ends_size h
  unfold impl_tooLong.f
  have w1 : wrap64 (0 + 1) = 1 := wrap64_in (by omega) (by omega)
  have w2 : wrap64 (1 + 1) = 2 := wrap64_in (by omega) (by omega)
  have r0 : rdOf ByteArray.empty [a, b] 0 = a := rfl
  have r1 : rdOf ByteArray.empty [a, b] 1 = b := rfl
  apply ev_succ
  simp only [impl_tooLong.l0, r0, w1]
  refine ev_pos (by simp) (ev_pos (by omega) (ev_pos (by simp) (ev_neg (by omega) ?_)))
  apply ev_succ
  simp only [impl_tooLong.l0, r1, w2]
  refine ev_pos (by simp) (ev_pos (by omega) (ev_pos (by simp) (ev_neg (by omega) ?_)))
  apply ev_succ
  simp only [impl_tooLong.l0]
  exact ev_neg (by simp) (Ev.now _)
theorem implAt_ev {l : List Int} (hb : Bytes l) {a : Int} (h0 : 0 ≤ a) (h1 : a + 1 < l.length) (h2 : l.length ≤ 1000000000) : impl_at16.f l a = some (rd l a * 256 + rd l (a + 1)) := by
  have b1 := rd_byte hb a
  have b2 := rd_byte hb (a + 1)
  have hw : wrap64 (a + 1) = a + 1 := wrap64_in (by omega) (by omega)
  unfold impl_at16.f
  rw [hw, if_pos h0, if_pos (by omega), if_pos (by omega), if_pos h1, wrap_rd hb, wrap_rd hb, wrap64_in (n := rd l a * 256) (by omega) (by omega), or_8 (by omega) (by omega) (by omega) (by omega) (by omega)]
theorem specAt_ev {l : List Int} (hb : Bytes l) {a : Int} (h0 : 0 ≤ a) (h1 : a + 1 < l.length) (h2 : l.length ≤ 1000000000) : spec_l01At.f l a = some (rd l a * 256 + rd l (a + 1)) := by
  have b1 := rd_byte hb a
  have b2 := rd_byte hb (a + 1)
  have hw : wrap64 (a + 1) = a + 1 := wrap64_in (by omega) (by omega)
  unfold spec_l01At.f
  rw [hw, if_pos h0, if_pos (by omega), if_pos (by omega), if_pos h1, wrap_rd hb, wrap_rd hb, wrap64_in (n := rd l a * 256) (by omega) (by omega), wrap64_in (by omega) (by omega)]
theorem wsum_append (l m : List Int) : l.length % 2 = 0 → wsum (l ++ m) = wsum l + wsum m := by
  induction l using wsum.induct with
  | case1 => intro _; simp [wsum]
  | case2 a => intro h; simp at h
  | case3 a b t ih =>
    intro h
    have g := ih (by simp at h; omega)
    simp only [List.cons_append, wsum, g]
    omega
theorem ps_even {a b : ByteArray} (h : EndsOK a b) (p n : Int) : (ps a b p n).length % 2 = 0 := by
  rw [ps_length h]
  split <;> omega

def esum (a b : ByteArray) (x : List Int) : Int := if a.size = 4 then csum x else csum (ps a b 58 (x.length : Int) ++ x)
def ekind (a : ByteArray) (r : Bool) : Int := if a.size = 4 then (if r then 0 else 8) else (if r then 129 else 128)
def eBody (kd i n : Int) (d : List Int) : List Int := (([kd, 0, 0, 0] ++ two i) ++ two n) ++ d
def eFull (kd s i n : Int) (d : List Int) : List Int := ((([kd, 0] ++ two s) ++ two i) ++ two n) ++ d
def eBytes (a b : ByteArray) (r : Bool) (i n : Int) (d : List Int) : List Int := eFull (ekind a r) (esum a b (eBody (ekind a r) i n d)) i n d
theorem ekind_range (a : ByteArray) (r : Bool) : 0 ≤ ekind a r ∧ ekind a r ≤ 255 := by
  unfold ekind
  cases r <;> split <;> simp
theorem eBody_length (kd i n : Int) (d : List Int) : (eBody kd i n d).length = 8 + d.length := by
  simp [eBody, two]
  omega
theorem eFull_length (kd s i n : Int) (d : List Int) : (eFull kd s i n d).length = 8 + d.length := by
  simp [eFull, two]
  omega
theorem eBody_bytes {kd : Int} (i n : Int) {d : List Int} (hk : 0 ≤ kd ∧ kd ≤ 255) (hd : Bytes d) : Bytes (eBody kd i n d) := by
  have z : (0 : Int) ≤ 0 ∧ (0 : Int) ≤ 255 := by omega
  exact (((Bytes.cons hk (Bytes.cons z (Bytes.cons z (Bytes.cons z Bytes.nil)))).append (two_bytes _)).append (two_bytes _)).append hd
theorem eFull_bytes {kd : Int} (s i n : Int) {d : List Int} (hk : 0 ≤ kd ∧ kd ≤ 255) (hd : Bytes d) : Bytes (eFull kd s i n d) := by
  have z : (0 : Int) ≤ 0 ∧ (0 : Int) ≤ 255 := by omega
  exact ((((Bytes.cons hk (Bytes.cons z Bytes.nil)).append (two_bytes _)).append (two_bytes _)).append (two_bytes _)).append hd
theorem set_echo (kd s i n : Int) (d : List Int) (h : 0 ≤ s ∧ s ≤ 65535) : ((eBody kd i n d).set 2 (s / 256)).set 3 (s % 256) = eFull kd s i n d := by
  simp only [eBody, eFull, two, List.cons_append, List.nil_append, List.set_cons_succ, List.set_cons_zero]
  rw [show s / 256 % 256 = s / 256 by omega]
theorem wsum_echo (kd s i n : Int) (d : List Int) : wsum (eFull kd s i n d) = wsum (eBody kd i n d) + ((s / 256 % 256) * 256 + s % 256) := by
  simp only [eBody, eFull, two, List.cons_append, List.nil_append, wsum]
  omega
theorem esum_range {a b : ByteArray} {x : List Int} (hx : Bytes x) : 0 ≤ esum a b x ∧ esum a b x ≤ 65535 := by
  unfold esum
  split
  · exact csum_range hx
  · exact csum_range ((ps_bytes _ _ _ _).append hx)
theorem fold_done {W s : Int} (h0 : 0 ≤ W) (hs : s = 65535 - fold W) : 65535 - fold (W + s) = 0 := by
  unfold fold at hs ⊢
  split at hs <;> split <;> omega
theorem esum_done {a b : ByteArray} (h : EndsOK a b) {kd : Int} (i n : Int) {d : List Int} (hk : 0 ≤ kd ∧ kd ≤ 255) (hd : Bytes d) : esum a b (eFull kd (esum a b (eBody kd i n d)) i n d) = 0 := by
  have hB := eBody_bytes i n hk hd
  have hr := esum_range (a := a) (b := b) hB
  have hw := wsum_echo kd (esum a b (eBody kd i n d)) i n d
  have hlen : (eFull kd (esum a b (eBody kd i n d)) i n d).length = (eBody kd i n d).length := by rw [eFull_length, eBody_length]
  have hb0 := (wsum_range _ hB).1
  generalize hs : esum a b (eBody kd i n d) = s at *
  have e : s / 256 % 256 * 256 + s % 256 = s := by omega
  rw [e] at hw
  unfold esum at hs ⊢
  by_cases c : a.size = 4
  · rw [if_pos c] at hs ⊢
    unfold csum at hs ⊢
    rw [hw]
    exact fold_done hb0 hs.symm
  · rw [if_neg c] at hs ⊢
    rw [hlen]
    have hp := (wsum_range _ (ps_bytes a b 58 ((eBody kd i n d).length : Int))).1
    unfold csum at hs ⊢
    rw [wsum_append _ _ (ps_even h _ _)] at hs ⊢
    rw [hw, ← Int.add_assoc]
    exact fold_done (by omega) hs.symm
theorem implMsg_ev {a b : ByteArray} (h : EndsOK a b) {x : List Int} (hx : Bytes x) (hl : x.length ≤ 60000) : Ev (fun k => impl_messageSum.f k a b x) (esum a b x) := by
  have hps := ps_length h 58 (x.length : Int)
  have hpl : (ps a b 58 (x.length : Int)).length ≤ 40 := by rw [hps]; split <;> omega
  unfold impl_messageSum.f esum
  refine ev_ite (fun c => ?_) (fun c => ?_)
  · rw [if_pos (by omega)]
    exact Ev.bind (implSum_ev hx (by omega)) (Ev.now _)
  · rw [if_neg (by omega)]
    exact ev_bindc (implHead_ev h 58 _) (ev_pos (by omega) (Ev.bind (implSum_ev ((ps_bytes _ _ _ _).append hx) (by rw [List.length_append]; omega)) (Ev.now _)))
theorem specMsg_ev {a b : ByteArray} (h : EndsOK a b) {x : List Int} (hx : Bytes x) (hl : x.length ≤ 60000) : Ev (fun k => spec_l09EchoSum.f k a b x) (esum a b x) := by
  have hps := ps_length h 58 (x.length : Int)
  have hpl : (ps a b 58 (x.length : Int)).length ≤ 40 := by rw [hps]; split <;> omega
  unfold spec_l09EchoSum.f esum
  refine ev_ite (fun c => ?_) (fun c => ?_)
  · rw [if_pos (by omega)]
    exact Ev.bind (specSum_ev hx (by omega)) (Ev.now _)
  · rw [if_neg (by omega)]
    exact ev_bindc (specPs_ev h 58 (by omega) (by omega)) (ev_pos (by omega) (Ev.bind (specSum_ev ((ps_bytes _ _ _ _).append hx) (by rw [List.length_append]; omega)) (Ev.now _)))
theorem implEcho_ev {a b : ByteArray} (h : EndsOK a b) (r : Bool) {i n : Int} (hi : 0 ≤ i ∧ i < 65536) (hn : 0 ≤ n ∧ n < 65536) {d : List Int} (hd : Bytes d) (hl : d.length ≤ 40) : Ev (fun k => impl_EchoBytes.f k a b r i n d) (eBytes a b r i n d, 0) := by
  have hk := ekind_range a r
  have hB := eBody_bytes i n hk hd
  have hbl := eBody_length (ekind a r) i n d
  have hr := esum_range (a := a) (b := b) hB
  have fin : ∀ y : List Int, y = eBody (ekind a r) i n d → Ev (fun k => (if 2 ≤ (y.length : Int) then ((impl_messageSum.f k a b y).bind fun t293 => ((impl_word16.f t293).bind fun t294 => (some ((copyAt y (2 : Int).toNat t294), (0 : Int))))) else (none))) (eBytes a b r i n d, 0) := by
    rintro y rfl
    refine ev_pos (by omega) (Ev.bind (implMsg_ev h hB (by omega)) (ev_bindc (implTwo_ev _) (ev_fin ?_)))
    unfold eBytes
    rw [← set_echo _ _ _ _ _ hr]
    unfold two
    rw [show esum a b (eBody (ekind a r) i n d) / 256 % 256 = esum a b (eBody (ekind a r) i n d) / 256 by omega]
    exact congrArg (fun z => (z, (0 : Int))) (copyAt_two _ 2 _ _ (by omega))
  have j1 : ∀ x, x = ekind a r → Ev (fun k => impl_EchoBytes.j1 k a b x r i n d) (eBytes a b r i n d, 0) := by
    rintro x rfl
    apply ev_succ
    simp only [impl_EchoBytes.j1]
    refine ev_some (ev_bindc (implTwo_ev i) (ev_pos (by simp [two]) (ev_some ?_)))
    refine ev_bindc (implTwo_ev n) (ev_pos (by simp [two]) (ev_some ?_))
    refine ev_pos (by simp [two]; omega) (ev_some ?_)
    exact fin _ rfl
  have j0 : Ev (fun k => impl_EchoBytes.j0 k a b (decide ((d.length : Int) > 1492)) r i n d) (eBytes a b r i n d, 0) := by
    have e : decide ((d.length : Int) > 1492) = false := decide_eq_false (by omega)
    rw [e]
    apply ev_succ
    simp only [impl_EchoBytes.j0, Bool.false_eq_true, if_false]
    unfold impl_echoKinds.f
    by_cases c : (a.size : Int) = 4
    · rw [if_pos c]
      refine ev_some (ev_ite (fun hr2 => j1 _ ?_) (fun hr2 => j1 _ ?_))
      · unfold ekind
        rw [if_pos (by omega), if_pos hr2]
      · unfold ekind
        rw [if_pos (by omega), if_neg hr2]
    · rw [if_neg c]
      refine ev_some (ev_ite (fun hr2 => j1 _ ?_) (fun hr2 => j1 _ ?_))
      · unfold ekind
        rw [if_neg (by omega), if_pos hr2]
      · unfold ekind
        rw [if_neg (by omega), if_neg hr2]
  unfold impl_EchoBytes.f
  refine Ev.bind (tooLong_ev h) (ev_neg (by simp) (ev_bindc (implOne_ev h) (ev_pos rfl ?_)))
  exact ev_bindc (impl_in i 0 65535) (ev_pos (decide_eq_true (by omega)) (ev_bindc (impl_in n 0 65535) (ev_pos (decide_eq_true (by omega)) j0)))
theorem specEcho_ev {a b : ByteArray} (h : EndsOK a b) (r : Bool) {i n : Int} (hi : 0 ≤ i ∧ i < 65536) (hn : 0 ≤ n ∧ n < 65536) {d : List Int} (hd : Bytes d) (hl : d.length ≤ 40) : Ev (fun k => spec_EchoBytes.f k a b r i n d) (eBytes a b r i n d, 0) := by
  have hk := ekind_range a r
  have hB := eBody_bytes i n hk hd
  have hbl := eBody_length (ekind a r) i n d
  have hr := esum_range (a := a) (b := b) hB
  have hends := ends_size h
  have fin : ∀ y : List Int, y = eBody (ekind a r) i n d → Ev (fun k => (spec_l09EchoSum.f k a b y).bind fun t365 => (if 2 < (y.length : Int) then (if 3 < (y.length : Int) then (some ((y.set (2 : Int).toNat ((wrap64 (Int.tdiv t365 256)) % 256)).set (3 : Int).toNat ((Int.tmod t365 256) % 256))) else (none)) else (none))) (eBytes a b r i n d) := by
    rintro y rfl
    refine Ev.bind (specMsg_ev h hB (by omega)) (ev_pos (by omega) (ev_pos (by omega) (ev_fin ?_)))
    unfold eBytes
    rw [← set_echo _ _ _ _ _ hr, Int.tdiv_eq_ediv_of_nonneg hr.1, Int.tmod_eq_emod_of_nonneg hr.1, wrap64_in (by omega) (by omega)]
    congr 1
    · congr 1
      omega
    · omega
  have main : Ev (fun k => spec_l09EchoBytes.f k a b r i n d) (eBytes a b r i n d) := by
    have hb8 : spec_l01Bit.f r 8 = some (if r then 8 else 0) := by unfold spec_l01Bit.f; cases r <;> rfl
    have hb1 : spec_l01Bit.f r 1 = some (if r then 1 else 0) := by unfold spec_l01Bit.f; cases r <;> rfl
    unfold spec_l09EchoBytes.f
    refine ev_bindc hb8 (ev_ite (fun c => ?_) (fun c => ?_))
    · have e : (wrap64 (128 + (if r then 1 else 0))) % 256 = ekind a r := by
        have hek : ekind a r = if r then 129 else 128 := if_neg (by omega)
        rw [hek]
        cases r
        · rw [wrap64_in (by simp) (by simp)]; rfl
        · rw [wrap64_in (by simp) (by simp)]; rfl
      refine ev_bindc hb1 ?_
      rw [e]
      refine ev_some (ev_bindc (specTwo_ev hi.1 (by omega)) (ev_pos (by simp [two]) (ev_some ?_)))
      refine ev_bindc (specTwo_ev hn.1 (by omega)) (ev_pos (by simp [two]) (ev_some ?_))
      refine ev_pos (by simp [two]; omega) (ev_some ?_)
      exact fin _ rfl
    · have e : (wrap64 (8 - (if r then 8 else 0))) % 256 = ekind a r := by
        have hek : ekind a r = if r then 0 else 8 := if_pos (by omega)
        rw [hek]
        cases r
        · rw [wrap64_in (by simp) (by simp)]; rfl
        · rw [wrap64_in (by simp) (by simp)]; rfl
      rw [e]
      refine ev_some (ev_bindc (specTwo_ev hi.1 (by omega)) (ev_pos (by simp [two]) (ev_some ?_)))
      refine ev_bindc (specTwo_ev hn.1 (by omega)) (ev_pos (by simp [two]) (ev_some ?_))
      refine ev_pos (by simp [two]; omega) (ev_some ?_)
      exact fin _ rfl
  unfold spec_EchoBytes.f
  refine ev_bindc (specPair_ev h) (ev_pos rfl (ev_bindc (spec_in i 0 65535) (ev_pos (decide_eq_true (by omega)) (ev_bindc (spec_in n 0 65535) (ev_pos (decide_eq_true (by omega)) (ev_neg (by omega) (Ev.bind main (Ev.now _))))))))
theorem echo_rds {kd s i n : Int} (_hs : 0 ≤ s ∧ s ≤ 65535) (hi : 0 ≤ i ∧ i < 65536) (hn : 0 ≤ n ∧ n < 65536) (d : List Int) :
    rd (eFull kd s i n d) 0 = kd ∧ rd (eFull kd s i n d) 1 = 0 ∧ rd (eFull kd s i n d) 4 * 256 + rd (eFull kd s i n d) 5 = i ∧ rd (eFull kd s i n d) 6 * 256 + rd (eFull kd s i n d) 7 = n ∧ (eFull kd s i n d).drop 8 = d := by
  have r4 : rd (eFull kd s i n d) 4 = i / 256 % 256 := rfl
  have r5 : rd (eFull kd s i n d) 5 = i % 256 := rfl
  have r6 : rd (eFull kd s i n d) 6 = n / 256 % 256 := rfl
  have r7 : rd (eFull kd s i n d) 7 = n % 256 := rfl
  rw [r4, r5, r6, r7]
  exact ⟨rfl, rfl, by omega, by omega, rfl⟩
theorem readOwn_ev {a b : ByteArray} (h : EndsOK a b) (r : Bool) {i n : Int} (hi : 0 ≤ i ∧ i < 65536) (hn : 0 ≤ n ∧ n < 65536) {d : List Int} (hd : Bytes d) (hl : d.length ≤ 40) : Ev (fun k => impl_ReadEcho.f k a b (eBytes a b r i n d)) (r, i, n, d, 0) := by
  have hk := ekind_range a r
  have hr := esum_range (a := a) (b := b) (eBody_bytes i n hk hd)
  have hd0 := esum_done h i n hk hd
  have hB := eFull_bytes (esum a b (eBody (ekind a r) i n d)) i n hk hd
  have hlen := eFull_length (ekind a r) (esum a b (eBody (ekind a r) i n d)) i n d
  obtain ⟨r0, r1, r45, r67, rdr⟩ := echo_rds (kd := ekind a r) hr hi hn d
  unfold eBytes
  have hek : ekind a r = if a.size = 4 then (if r then 0 else 8) else (if r then 129 else 128) := rfl
  generalize eFull (ekind a r) (esum a b (eBody (ekind a r) i n d)) i n d = x at *
  generalize ekind a r = kd at *
  have a4 := implAt_ev hB (a := 4) (by omega) (by omega) (by omega)
  have a6 := implAt_ev hB (a := 6) (by omega) (by omega) (by omega)
  have a4' : impl_at16.f x 4 = some i := by rw [a4]; exact congrArg some r45
  have a6' : impl_at16.f x 6 = some n := by rw [a6]; exact congrArg some r67
  have hends := ends_size h
  have j1 : ∀ q, (kd == q) = r → Ev (fun k => impl_ReadEcho.j1 k a b x q (rd x 1 != 0)) (r, i, n, d, 0) := by
    intro q hq
    rw [r1]
    apply ev_succ
    simp only [impl_ReadEcho.j1, bne_self_eq_false, Bool.false_eq_true, if_false]
    have hm := implMsg_ev h hB (by omega)
    rw [hd0] at hm
    refine Ev.bind hm (ev_pos rfl (ev_pos (by omega) (ev_bindc a4' (ev_bindc a6' (ev_some (ev_pos (by omega) (ev_pos (by simp; omega) (ev_fin ?_))))))))
    rw [r0, hq, rdr]
    rfl
  unfold impl_ReadEcho.f
  refine Ev.bind (tooLong_ev h) (ev_neg (by simp) ?_)
  have e : decide ((x.length : Int) > 65536) = false := decide_eq_false (by omega)
  rw [e]
  apply ev_succ
  simp only [impl_ReadEcho.j0, Bool.false_eq_true, if_false]
  refine ev_bindc (implOne_ev h) (ev_pos rfl ?_)
  unfold impl_echoKinds.f
  by_cases c : (a.size : Int) = 4
  · rw [if_pos c]
    rw [if_pos (by omega)] at hek
    refine ev_some (ev_bindc (impl_in _ 8 1500) (ev_pos (decide_eq_true (by omega)) (ev_pos (by omega) ?_)))
    rw [r0]
    cases r
    · exact ev_pos hek (ev_pos (by omega) (j1 0 (by rw [hek]; rfl)))
    · exact ev_neg (by rw [hek]; decide) (ev_pos hek (ev_pos (by omega) (j1 0 (by rw [hek]; rfl))))
  · rw [if_neg c]
    rw [if_neg (by omega)] at hek
    refine ev_some (ev_bindc (impl_in _ 8 1500) (ev_pos (decide_eq_true (by omega)) (ev_pos (by omega) ?_)))
    rw [r0]
    cases r
    · exact ev_pos hek (ev_pos (by omega) (j1 129 (by rw [hek]; rfl)))
    · exact ev_neg (by rw [hek]; decide) (ev_pos hek (ev_pos (by omega) (j1 129 (by rw [hek]; rfl))))
/-- Between ends of the other version it is none. -/
theorem readOther_ev {o : ByteArray} (h : EndsOK o o) {x : List Int} (hlen : 8 ≤ x.length ∧ x.length ≤ 48) (hx : (o.size = 4 ∧ (rd x 0 = 128 ∨ rd x 0 = 129)) ∨ (o.size = 16 ∧ (rd x 0 = 0 ∨ rd x 0 = 8))) (r1 : rd x 1 = 0) :
    Ev (fun k => impl_ReadEcho.f k o o x) (false, 0, 0, [], 3) ∧ Ev (fun k => spec_ReadEcho.f k o o x) (false, 0, 0, [], 3) := by
  constructor
  · unfold impl_ReadEcho.f
    refine Ev.bind (tooLong_ev h) (ev_neg (by simp) ?_)
    have e : decide ((x.length : Int) > 65536) = false := decide_eq_false (by omega)
    rw [e]
    apply ev_succ
    simp only [impl_ReadEcho.j0, Bool.false_eq_true, if_false]
    refine ev_bindc (implOne_ev h) (ev_pos rfl ?_)
    have j1 : ∀ q, Ev (fun k => impl_ReadEcho.j1 k o o x q true) (false, 0, 0, [], 3) := by
      intro q
      apply ev_succ
      simp only [impl_ReadEcho.j1]
      exact ev_pos trivial (Ev.now _)
    unfold impl_echoKinds.f
    by_cases c : (o.size : Int) = 4
    · rw [if_pos c]
      exact ev_some (ev_bindc (impl_in _ 8 1500) (ev_pos (decide_eq_true (by omega)) (ev_pos (by omega) (ev_neg (by omega) (ev_neg (by omega) (j1 _))))))
    · rw [if_neg c]
      exact ev_some (ev_bindc (impl_in _ 8 1500) (ev_pos (decide_eq_true (by omega)) (ev_pos (by omega) (ev_neg (by omega) (ev_neg (by omega) (j1 _))))))
  · unfold spec_ReadEcho.f
    refine ev_neg (by omega) (ev_bindc (specPair_ev h) (ev_pos rfl (Ev.bind (a := (false, 0, 0, [], 3)) ?_ (Ev.now _))))
    unfold spec_l09ReadEcho.f
    refine ev_neg (by omega) (ev_neg (by omega) (ev_pos (by omega) ?_))
    rw [r1]
    have j2 : Ev (fun k => spec_l09ReadEcho.j2 k o o x false true) (false, 0, 0, [], 3) := by
      apply ev_succ
      simp only [spec_l09ReadEcho.j2]
      exact ev_pos trivial (Ev.now _)
    have j1 : Ev (fun k => spec_l09ReadEcho.j1 k o o x false) (false, 0, 0, [], 3) := by
      apply ev_succ
      simp only [spec_l09ReadEcho.j1, Bool.false_eq_true, if_false]
      rcases hx with ⟨h4, hv⟩ | ⟨h16, hv⟩
      · exact ev_pos (by omega) (ev_pos (by omega) (ev_neg (by omega) (ev_neg (by omega) j2)))
      · have e : (rd x 0 == 128) = false := by simp; omega
        rw [e]
        exact ev_neg (by omega) (ev_pos (by omega) (ev_pos (by omega) j2))
    apply ev_succ
    simp only [spec_l09ReadEcho.j0, bne_self_eq_false, Bool.false_eq_true, if_false]
    rcases hx with ⟨h4, hv⟩ | ⟨h16, hv⟩
    · exact ev_pos (by omega) (ev_pos (by omega) (ev_neg (by omega) (ev_neg (by omega) j1)))
    · have e : (rd x 0 == 129) = false := by simp; omega
      rw [e]
      exact ev_neg (by omega) (ev_pos (by omega) (ev_pos (by omega) j1))
theorem echoOf_ev {l : List Int} (hb : Bytes l) : ∃ r i n d, Ev (fun k => spec_EchoOf.f k l) (r, i, n, d) ∧ (0 ≤ i ∧ i < 65536) ∧ (0 ≤ n ∧ n < 65536) ∧ Bytes d ∧ d.length ≤ 40 := by
  obtain ⟨b0, i0, s0, e0, r0, j0, z0⟩ := srcN_ev hb (show (0 : Int) ≤ 0 by omega) (by omega) (source_seed l) (n := 2) (by omega) (by omega)
  obtain ⟨b1, i1, s1, e1, r1, j1, z1⟩ := srcN_ev hb j0.1 (by omega) z0 (n := 65536) (by omega) (by omega)
  obtain ⟨b2, i2, s2, e2, r2, j2, z2⟩ := srcN_ev hb j1.1 (by omega) z1 (n := 65536) (by omega) (by omega)
  obtain ⟨d, i3, s3, e3, db, dl, _, _⟩ := srcBytes_ev hb j2.1 (by omega) z2 (n := 40) (by omega) (by omega)
  have hc : spec_l00Src_chance.f l 0 ((l.length : Int) % 1000) 2 = some ((b0 == wrap64 (2 - 1)), i0, s0) := by
    unfold spec_l00Src_chance.f
    rw [e0]
    rfl
  refine ⟨(b0 == wrap64 (2 - 1)), b1, b2, d, ?_, r1, r2, db, by simpa using dl⟩
  unfold spec_EchoOf.f spec_l00Source.f
  refine ev_some (Ev.bind (a := ((b0 == wrap64 (2 - 1)), b1, b2, d, i3, s3)) ?_ (Ev.now _))
  unfold spec_l00Src_echo.f
  exact ev_bindc hc (ev_bindc e1 (ev_bindc e2 (Ev.bind e3 (Ev.now _))))

theorem FnEcho : SaysFnEcho.Says := by
  intro l m h0 h1
  have hb := Bytes.of_wf h0.2
  have hm := Bytes.of_wf h1.2
  refine Ev.rounds (g := fun k => laws_FnEcho.f k l m) ?_
  have hj : ∀ q, Ev (fun k => laws_FnEcho.j0 k l m q) true := by
    intro q
    apply ev_succ
    simp only [laws_FnEcho.j0]
    refine ev_ite (fun _ => Ev.now _) (fun _ => ?_)
    obtain ⟨a, b, ea, h⟩ := ends_ev hm
    obtain ⟨r, i, n, d, eu, hi, hn, hd, hl⟩ := echoOf_ev hb
    have hk := ekind_range a r
    have hr := esum_range (a := a) (b := b) (eBody_bytes i n hk hd)
    obtain ⟨r0, r1, _, _, _⟩ := echo_rds (kd := ekind a r) hr hi hn d
    have hlen := eFull_length (ekind a r) (esum a b (eBody (ekind a r) i n d)) i n d
    have hek : ekind a r = if a.size = 4 then (if r then 0 else 8) else (if r then 129 else 128) := rfl
    have hends := ends_size h
    refine Ev.bind ea (Ev.bind eu (Ev.bind (implEcho_ev h r hi hn hd hl) (Ev.bind (specEcho_ev h r hi hn hd hl) (Ev.bind (readOwn_ev h r hi hn hd hl) (ev_pos rfl (ev_pos rfl (ev_pos rfl (ev_neg (by simp) (ev_pos rfl (ev_pos rfl ?_))))))))))
    simp only [bne_self_eq_false]
    apply ev_succ
    simp only [laws_FnEcho.j1, Bool.false_eq_true, if_false]
    refine ev_ite (fun c => ?_) (fun c => ?_)
    · rw [if_pos (by omega)] at hek
      have ho : EndsOK ((⟨#[115, 105, 120, 116, 101, 101, 110, 32, 98, 121, 116, 101, 115, 46, 46, 46, 46]⟩ : ByteArray).extract 0 16) ((⟨#[115, 105, 120, 116, 101, 101, 110, 32, 98, 121, 116, 101, 115, 46, 46, 46, 46]⟩ : ByteArray).extract 0 16) := .inr ⟨by rfl, by rfl⟩
      obtain ⟨g1, g2⟩ := readOther_ev ho (x := eBytes a b r i n d) (by unfold eBytes; omega) (.inr ⟨by rfl, by
        unfold eBytes
        rw [r0, hek]
        cases r
        · exact .inr rfl
        · exact .inl rfl⟩) r1
      exact ev_pos (by omega) (ev_pos (by omega) (Ev.bind g1 (Ev.bind g2 (ev_pos rfl (ev_fin rfl)))))
    · rw [if_neg (by omega)] at hek
      have ho : EndsOK (⟨#[102, 111, 117, 114]⟩ : ByteArray) (⟨#[102, 111, 117, 114]⟩ : ByteArray) := .inl ⟨by rfl, by rfl⟩
      obtain ⟨g1, g2⟩ := readOther_ev ho (x := eBytes a b r i n d) (by unfold eBytes; omega) (.inl ⟨by rfl, by
        unfold eBytes
        rw [r0, hek]
        cases r
        · exact .inl rfl
        · exact .inr rfl⟩) r1
      exact Ev.bind g1 (Ev.bind g2 (ev_pos rfl (ev_fin rfl)))
  unfold laws_FnEcho.f
  exact ev_ite (fun _ => hj _) (fun _ => hj _)

end Go.Proofs.Ytjfpkfophfelmaa.Pure
