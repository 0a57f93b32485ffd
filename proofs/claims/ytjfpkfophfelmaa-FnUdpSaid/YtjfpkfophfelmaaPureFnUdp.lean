/- A datagram is read back from its bytes, and one byte changed is found, but where that lets its sum be none; for every code; no condition. -/
import Derived.Test.YtjfpkfophfelmaaSaysFnUdp
import Derived.Test.YtjfpkfophfelmaaSum
import Derived.Laws.BitsAllLaws
namespace Go.Proofs.Ytjfpkfophfelmaa.Pure
set_option linter.unusedSimpArgs false
open Go.RowKit Go.Proofs.Ytjfpkfophfelmaa.QFnUdp Go.Proofs.YtjfpkfophfelmaaV.PrintWords Go.Proofs.YtjfpkfophfelmaaV.PrintLast Go.Proofs.Ytjfpkfophfelmaa.Aid

theorem spec_in (a b c : Int) : spec_l01In.f a b c = some (decide (b ≤ a ∧ a ≤ c)) := by
  unfold spec_l01In.f
  split <;> simp <;> omega
theorem impl_in (a b c : Int) : impl_inRange.f a b c = some (decide (b ≤ a ∧ a ≤ c)) := by
  unfold impl_inRange.f
  split <;> simp <;> omega
/-! ### The sums of the two packages -/
theorem specSum_l1 (d : Nat) : ∀ n : Int, 0 ≤ n → n ≤ 4611756387171566592 → n ≤ d → Ev (fun k => spec_l01Sum.l1 k n) (65535 - fold n) := by
  induction d with
  | zero =>
    intro n h0 h1 h2
    have e : wrap64 (65535 - n) = 65535 - fold n := by rw [fold_small h0 (by omega), wrap64_in (by omega) (by omega)]
    apply ev_succ
    simp only [spec_l01Sum.l1, e]
    exact ev_neg (by omega) (Ev.now _)
  | succ d ih =>
    intro n h0 h1 h2
    by_cases hn : n > 65535
    · have e1 : wrap64 ((Int.tmod n 65536) + (wrap64 (Int.tdiv n 65536))) = n % 65536 + n / 65536 := by
        rw [Int.tmod_eq_emod_of_nonneg h0, Int.tdiv_eq_ediv_of_nonneg h0, wrap64_in (n := n / 65536) (by omega) (by omega), wrap64_in (by omega) (by omega)]
      have g := ih (n % 65536 + n / 65536) (by omega) (by omega) (by omega)
      rw [fold_step hn] at g
      apply ev_succ
      simp only [spec_l01Sum.l1]
      refine ev_pos hn ?_
      rw [e1]
      exact g
    · have e : wrap64 (65535 - n) = 65535 - fold n := by rw [fold_small h0 (by omega), wrap64_in (by omega) (by omega)]
      apply ev_succ
      simp only [spec_l01Sum.l1, e]
      exact ev_neg (by omega) (Ev.now _)
theorem specSum_l0 (l : List Int) (hb : Bytes l) (hl : l.length ≤ 140737488355328) (d : Nat) : ∀ (i : Nat) (s : Int), 2 ∣ i → l.length ≤ i + d → 0 ≤ s → s + wsum (l.drop i) ≤ 4611756387171566592 → Ev (fun k => spec_l01Sum.l0 k l s i) (65535 - fold (s + wsum (l.drop i))) := by
  induction d using Nat.strongRecOn with
  | _ d ih =>
    intro i s h2 hd h0 h1
    have hr := wsum_drop_nonneg hb i
    by_cases c : i < l.length
    · have hm : Int.tmod (i : Int) 2 = 0 := by rw [Int.tmod_eq_emod_of_nonneg (by omega)]; omega
      have b1 := rd_byte hb i
      by_cases c2 : i + 1 < l.length
      · have b2 := rd_byte hb ((i + 1 : Nat) : Int)
        have hm2 : ¬ Int.tmod ((i + 1 : Nat) : Int) 2 = 0 := by rw [Int.tmod_eq_emod_of_nonneg (by omega)]; omega
        have hw : wrap64 ((i : Int) + 1) = ((i + 1 : Nat) : Int) := by rw [wrap64_in (by omega) (by omega)]; omega
        have hw2 : wrap64 (((i + 1 : Nat) : Int) + 1) = ((i + 2 : Nat) : Int) := by rw [wrap64_in (by omega) (by omega)]; omega
        have e := wsum_drop2 l i c2
        have hr2 := wsum_drop_nonneg hb (i + 2)
        rw [e] at h1
        have g := ih (d - 2) (by omega) (i + 2) (s + (rd l i * 256 + rd l ((i + 1 : Nat) : Int))) (by omega) (by omega) (by omega) (by omega)
        have w1 : wrap64 (rd l i * 256) = rd l i * 256 := wrap64_in (by omega) (by omega)
        have w2 : wrap64 (s + rd l i * 256) = s + rd l i * 256 := wrap64_in (by omega) (by omega)
        have w3 : wrap64 (s + rd l i * 256 + rd l ((i + 1 : Nat) : Int)) = s + (rd l i * 256 + rd l ((i + 1 : Nat) : Int)) := by rw [wrap64_in (by omega) (by omega)]; omega
        rw [e, show s + (rd l i * 256 + rd l ((i + 1 : Nat) : Int) + wsum (l.drop (i + 2))) = s + (rd l i * 256 + rd l ((i + 1 : Nat) : Int)) + wsum (l.drop (i + 2)) from by omega]
        apply ev_succ
        simp only [spec_l01Sum.l0, hw, wrap_rd hb, w1, w2]
        refine ev_pos (by omega) (ev_pos hm (ev_pos (by omega) ?_))
        apply ev_succ
        simp only [spec_l01Sum.l0, hw2, wrap_rd hb, w3]
        exact ev_pos (by omega) (ev_neg hm2 (ev_pos (by omega) g))
      · have e := wsum_drop1 l i (by omega)
        rw [e] at h1
        rw [e]
        have hw : wrap64 ((i : Int) + 1) = ((i + 1 : Nat) : Int) := by rw [wrap64_in (by omega) (by omega)]; omega
        have w1 : wrap64 (rd l i * 256) = rd l i * 256 := wrap64_in (by omega) (by omega)
        have w2 : wrap64 (s + rd l i * 256) = s + rd l i * 256 := wrap64_in (by omega) (by omega)
        apply ev_succ
        simp only [spec_l01Sum.l0, hw, wrap_rd hb, w1, w2]
        refine ev_pos (by omega) (ev_pos hm (ev_pos (by omega) ?_))
        apply ev_succ
        simp only [spec_l01Sum.l0]
        refine ev_neg (by omega) ?_
        exact specSum_l1 (s + rd l i * 256).toNat _ (by omega) (by omega) (by omega)
    · have e := wsum_drop0 l i (by omega)
      rw [e] at h1
      rw [e]
      apply ev_succ
      simp only [spec_l01Sum.l0]
      refine ev_neg (by omega) ?_
      rw [Int.add_zero]
      exact specSum_l1 s.toNat s h0 (by omega) (by omega)
theorem specSum_ev {l : List Int} (hb : Bytes l) (hl : l.length ≤ 140737488355328) : Ev (fun k => spec_l01Sum.f k l) (csum l) := by
  have h := wsum_range l hb
  have g := specSum_l0 l hb hl l.length 0 0 (by omega) (by omega) (by omega) (by simp only [List.drop_zero]; omega)
  simp only [List.drop_zero, Int.zero_add] at g
  exact g
theorem implFold_l1 (d : Nat) : ∀ n : Int, 0 ≤ n → n ≤ 4611686018427387903 → n ≤ d → Ev (fun k => impl_foldSum.l1 k n) (fold n) := by
  induction d with
  | zero =>
    intro n h0 h1 h2
    rw [fold_small h0 (by omega)]
    apply ev_succ
    simp only [impl_foldSum.l1]
    exact ev_neg (by omega) (Ev.now _)
  | succ d ih =>
    intro n h0 h1 h2
    by_cases hn : n > 65535
    · have e2 : wrap64 ((Go.bits .and .i64 n 65535) + (n / 65536)) = n % 65536 + n / 65536 := by
        rw [and_65535 h0 (by omega), wrap64_in (by omega) (by omega)]
      have g := ih (n % 65536 + n / 65536) (by omega) (by omega) (by omega)
      rw [fold_step hn] at g
      apply ev_succ
      simp only [impl_foldSum.l1]
      refine ev_pos hn ?_
      rw [e2]
      exact g
    · rw [fold_small h0 (by omega)]
      apply ev_succ
      simp only [impl_foldSum.l1]
      exact ev_neg (by omega) (Ev.now _)
theorem implFold_l0 (l : List Int) (hb : Bytes l) (hl : l.length ≤ 1000000000) (d : Nat) : ∀ (i : Nat) (s : Int), l.length ≤ i + d → 0 ≤ s → s + wsum (l.drop i) ≤ 4611686018427387903 → Ev (fun k => impl_foldSum.l0 k l s i) (fold (s + wsum (l.drop i))) := by
  induction d using Nat.strongRecOn with
  | _ d ih =>
    intro i s hd h0 h1
    have hr := wsum_drop_nonneg hb i
    by_cases c : i < l.length
    · have b1 := rd_byte hb i
      have hw : wrap64 ((i : Int) + 1) = ((i + 1 : Nat) : Int) := by rw [wrap64_in (by omega) (by omega)]; omega
      have hw2 : wrap64 ((i : Int) + 2) = ((i + 2 : Nat) : Int) := by rw [wrap64_in (by omega) (by omega)]; omega
      have w1 : wrap64 (rd l i * 256) = rd l i * 256 := wrap64_in (by omega) (by omega)
      by_cases c2 : i + 1 < l.length
      · have b2 := rd_byte hb ((i + 1 : Nat) : Int)
        have e := wsum_drop2 l i c2
        have hr2 := wsum_drop_nonneg hb (i + 2)
        rw [e] at h1
        have g := ih (d - 2) (by omega) (i + 2) (s + (rd l i * 256 + rd l ((i + 1 : Nat) : Int))) (by omega) (by omega) (by omega)
        have w2 : wrap64 (s + rd l i * 256) = s + rd l i * 256 := wrap64_in (by omega) (by omega)
        have w3 : wrap64 (s + rd l i * 256 + rd l ((i + 1 : Nat) : Int)) = s + (rd l i * 256 + rd l ((i + 1 : Nat) : Int)) := by rw [wrap64_in (by omega) (by omega)]; omega
        rw [e, show s + (rd l i * 256 + rd l ((i + 1 : Nat) : Int) + wsum (l.drop (i + 2))) = s + (rd l i * 256 + rd l ((i + 1 : Nat) : Int)) + wsum (l.drop (i + 2)) from by omega]
        apply ev_succ
        simp only [impl_foldSum.l0, hw, hw2, wrap_rd hb, w1, w2, w3]
        exact ev_pos (by omega) (ev_pos (by omega) (ev_pos (by omega) (ev_pos (by omega) g)))
      · have e := wsum_drop1 l i (by omega)
        rw [e] at h1
        have g := ih (d - 1) (by omega) (i + 2) (s + rd l i * 256) (by omega) (by omega) (by rw [wsum_drop0 l (i + 2) (by omega)]; omega)
        rw [wsum_drop0 l (i + 2) (by omega), Int.add_zero] at g
        rw [e]
        have w2 : wrap64 (s + rd l i * 256) = s + rd l i * 256 := wrap64_in (by omega) (by omega)
        apply ev_succ
        simp only [impl_foldSum.l0, hw, hw2, wrap_rd hb, w1, w2]
        exact ev_pos (by omega) (ev_pos (by omega) (ev_neg (by omega) g))
    · have e := wsum_drop0 l i (by omega)
      rw [e] at h1
      rw [e]
      apply ev_succ
      simp only [impl_foldSum.l0]
      refine ev_neg (by omega) ?_
      rw [Int.add_zero]
      exact implFold_l1 s.toNat s h0 (by omega) (by omega)
theorem implFold_ev {l : List Int} (hb : Bytes l) (hl : l.length ≤ 1000000000) : Ev (fun k => impl_foldSum.f k l) (fold (wsum l)) := by
  have h := wsum_range l hb
  have g := implFold_l0 l hb hl l.length 0 0 (by omega) (by omega) (by simp only [List.drop_zero]; omega)
  simp only [List.drop_zero, Int.zero_add] at g
  exact g
theorem implSum_ev {l : List Int} (hb : Bytes l) (hl : l.length ≤ 1000000000) : Ev (fun k => impl_checkSum.f k l) (csum l) := by
  have h := fold_range (wsum_range l hb).1
  have e : wrap64 (65535 - fold (wsum l)) = csum l := by rw [wrap64_in (by omega) (by omega)]; rfl
  unfold impl_checkSum.f
  refine Ev.bind (implFold_ev hb hl) ?_
  rw [e]
  exact Ev.now _
/-! ### The source of choices that a code gives: its bytes, its place, its seed -/
def Seed (s : Int) : Prop := 0 ≤ s ∧ s < 2147483648
theorem tmod_seed (x : Int) (h : 0 ≤ x) : Seed (Int.tmod x 2147483648) := ⟨Int.tmod_nonneg _ h, Int.tmod_lt_of_pos _ (by omega)⟩
theorem srcB_ev {l : List Int} (hb : Bytes l) {i s : Int} (h0 : 0 ≤ i) (h1 : i ≤ 1000000000) (hs : Seed s) : ∃ b s', spec_l00Src_byte.f l i s = some (b, i + 1, s') ∧ (0 ≤ b ∧ b ≤ 255) ∧ Seed s' := by
  have hw : wrap64 (i + 1) = i + 1 := wrap64_in (by omega) (by omega)
  have hw2 : wrap64 (i + 1 - 1) = i := by rw [wrap64_in (by omega) (by omega)]; omega
  obtain ⟨s0, s1⟩ := hs
  unfold spec_l00Src_byte.f
  simp only [hw, hw2]
  by_cases c : i + 1 ≤ (l.length : Int)
  · have r := rd_byte hb i
    rw [if_pos c, if_pos h0, if_pos (by omega), wrap_rd hb]
    refine ⟨_, _, rfl, r, tmod_seed _ ?_⟩
    rw [wrap64_in (n := s * 31) (by omega) (by omega), wrap64_in (n := s * 31 + rd l i) (by omega) (by omega), wrap64_in (by omega) (by omega)]
    omega
  · rw [if_neg c]
    by_cases c2 : i + 1 > 3000
    · rw [if_pos c2]
      exact ⟨_, _, rfl, by omega, s0, s1⟩
    · have w1 : wrap64 (s * 1103515245) = s * 1103515245 := wrap64_in (by omega) (by omega)
      have w2 : wrap64 (s * 1103515245 + 12345) = s * 1103515245 + 12345 := wrap64_in (by omega) (by omega)
      have hq := tmod_seed (s * 1103515245 + 12345) (by omega)
      rw [if_neg c2, w1, w2]
      refine ⟨_, _, rfl, ?_, hq⟩
      obtain ⟨q0, q1⟩ := hq
      generalize Int.tmod (s * 1103515245 + 12345) 2147483648 = q at q0 q1
      rw [Int.tdiv_eq_ediv_of_nonneg q0, wrap64_in (by omega) (by omega), Int.tmod_eq_emod_of_nonneg (by omega)]
      omega
theorem srcN_ev {l : List Int} (hb : Bytes l) {i s n : Int} (h0 : 0 ≤ i) (h1 : i ≤ 100000000) (hs : Seed s) (h2 : 2 ≤ n) (h3 : n ≤ 16777216) : ∃ b i' s', spec_l00Src_next.f l i s n = some (b, i', s') ∧ (0 ≤ b ∧ b < n) ∧ (0 ≤ i' ∧ i' ≤ i + 3) ∧ Seed s' := by
  unfold spec_l00Src_next.f
  rw [if_neg (by omega)]
  obtain ⟨b, s', e, hb1, hs1⟩ := srcB_ev hb h0 (by omega) hs
  by_cases c : n ≤ 256
  · rw [if_pos c, e, Option.bind_some, if_neg (by omega)]
    exact ⟨_, _, _, rfl, ⟨Int.tmod_nonneg _ hb1.1, Int.tmod_lt_of_pos _ (by omega)⟩, by simp only; omega, hs1⟩
  · obtain ⟨b2, s2, e2, hb2, hs2⟩ := srcB_ev hb (show 0 ≤ i + 1 by omega) (by omega) hs1
    obtain ⟨b3, s3, e3, hb3, hs3⟩ := srcB_ev hb (show 0 ≤ i + 1 + 1 by omega) (by omega) hs2
    rw [if_neg c, e, Option.bind_some]
    simp only [e2, Option.bind_some, e3]
    rw [if_neg (by omega), wrap64_in (n := b * 65536) (by omega) (by omega), wrap64_in (n := b2 * 256) (by omega) (by omega), wrap64_in (n := b * 65536 + b2 * 256) (by omega) (by omega), wrap64_in (by omega) (by omega)]
    exact ⟨_, _, _, rfl, ⟨Int.tmod_nonneg _ (by omega), Int.tmod_lt_of_pos _ (by omega)⟩, by omega, hs3⟩
theorem source_seed (l : List Int) : Seed ((l.length : Int) % 1000) := by
  unfold Seed
  omega
/-! ### Two ends of one version; bytes -/
def EndsOK (a b : ByteArray) : Prop := (a.size = 4 ∧ b.size = 4) ∨ (a.size = 16 ∧ b.size = 16)
theorem addr4_ev {l : List Int} (hb : Bytes l) {i s : Int} (h0 : 0 ≤ i) (h1 : i ≤ 10000) (hs : Seed s) : ∃ a i' s', spec_l00Src_addr4.f l i s = some (a, i', s') ∧ a.size = 4 ∧ (0 ≤ i' ∧ i' ≤ i + 9) ∧ Seed s' := by
  unfold spec_l00Src_addr4.f
  obtain ⟨b1, i1, s1, e1, r1, j1, z1⟩ := srcN_ev hb h0 (by omega) hs (n := 3) (by omega) (by omega)
  obtain ⟨b2, i2, s2, e2, r2, j2, z2⟩ := srcN_ev hb j1.1 (by omega) z1 (n := 2) (by omega) (by omega)
  obtain ⟨b3, i3, s3, e3, r3, j3, z3⟩ := srcN_ev hb j2.1 (by omega) z2 (n := 4) (by omega) (by omega)
  rw [e1, Option.bind_some]
  simp only [e2, Option.bind_some, e3]
  exact ⟨_, _, _, rfl, by rw [strOfNums_size]; rfl, by omega, z3⟩
theorem addr6_l0 {l : List Int} (hb : Bytes l) (d : Nat) : ∀ (acc : List Int) (n i s : Int), n ≤ d → acc.length = 16 → 0 ≤ i → i + 6 * d ≤ 20000 → Seed s → ∃ a i' s', Ev (fun k => spec_l00Src_addr6.l0 k acc n l i s) (a, i', s') ∧ a.size = 16 ∧ (0 ≤ i' ∧ i' ≤ i + 6 * d) ∧ Seed s' := by
  induction d with
  | zero =>
    intro acc n i s hn ha h0 h1 hs
    refine ⟨strOfNums acc, i, s, ?_, by rw [strOfNums_size]; exact ha, by omega, hs⟩
    apply ev_succ
    simp only [spec_l00Src_addr6.l0]
    exact ev_neg (by omega) (Ev.now _)
  | succ d ih =>
    intro acc n i s hn ha h0 h1 hs
    by_cases c : n > 0
    · obtain ⟨b1, i1, s1, e1, r1, j1, z1⟩ := srcN_ev hb h0 (by omega) hs (n := 16) (by omega) (by omega)
      obtain ⟨b2, i2, s2, e2, r2, j2, z2⟩ := srcN_ev hb j1.1 (by omega) z1 (n := 256) (by omega) (by omega)
      by_cases cn : n - 1 ≤ (d : Int)
      · have hw : wrap64 (n - 1) = n - 1 := wrap64_in (by omega) (by omega)
        obtain ⟨a, i3, s3, g, ga, j3, z3⟩ := ih (acc.set (b1 : Int).toNat (b2 % 256)) (n - 1) i2 s2 cn (by simp [ha]) j2.1 (by omega) z2
        refine ⟨a, i3, s3, ?_, ga, by omega, z3⟩
        apply ev_succ
        simp only [spec_l00Src_addr6.l0, hw]
        exact ev_pos c (ev_bindc e1 (ev_bindc e2 (ev_pos r1.1 (ev_pos (by rw [ha]; omega) g))))
      · omega
    · refine ⟨strOfNums acc, i, s, ?_, by rw [strOfNums_size]; exact ha, by omega, hs⟩
      apply ev_succ
      simp only [spec_l00Src_addr6.l0]
      exact ev_neg c (Ev.now _)
theorem addr6_ev {l : List Int} (hb : Bytes l) {i s : Int} (h0 : 0 ≤ i) (h1 : i ≤ 10000) (hs : Seed s) : ∃ a i' s', Ev (fun k => spec_l00Src_addr6.f k l i s) (a, i', s') ∧ a.size = 16 ∧ (0 ≤ i' ∧ i' ≤ i + 30) ∧ Seed s' := by
  obtain ⟨b1, i1, s1, e1, r1, j1, z1⟩ := srcN_ev hb h0 (by omega) hs (n := 2) (by omega) (by omega)
  obtain ⟨b2, i2, s2, e2, r2, j2, z2⟩ := srcN_ev hb j1.1 (by omega) z1 (n := 4) (by omega) (by omega)
  obtain ⟨a, i3, s3, g, ga, j3, z3⟩ := addr6_l0 hb 4 (((List.replicate 16 (0 : Int)).set (0 : Int).toNat 32).set (1 : Int).toNat (b1 % 256)) b2 i2 s2 (by omega) (by simp) j2.1 (by omega) z2
  refine ⟨a, i3, s3, ?_, ga, by omega, z3⟩
  unfold spec_l00Src_addr6.f
  exact ev_pos (by omega) (ev_some (ev_pos (by simp) (ev_bindc e1 (ev_pos (by simp) (ev_bindc e2 g)))))
theorem ends_ev {l : List Int} (hb : Bytes l) : ∃ a b, Ev (fun k => spec_EndsOf.f k l) (a, b) ∧ EndsOK a b := by
  unfold spec_EndsOf.f spec_l00Source.f
  obtain ⟨b1, i1, s1, e1, r1, j1, z1⟩ := srcN_ev hb (show (0 : Int) ≤ 0 by omega) (by omega) (source_seed l) (n := 2) (by omega) (by omega)
  have hc : spec_l00Src_chance.f l 0 ((l.length : Int) % 1000) 2 = some ((b1 == wrap64 (2 - 1)), i1, s1) := by
    unfold spec_l00Src_chance.f
    rw [e1]
    rfl
  by_cases c : (b1 == wrap64 (2 - 1)) = true
  · obtain ⟨a, i2, s2, e2, r2, j2, z2⟩ := addr4_ev hb j1.1 (by omega) z1
    obtain ⟨b, i3, s3, e3, r3, j3, z3⟩ := addr4_ev hb j2.1 (by omega) z2
    refine ⟨a, b, ev_some (Ev.bind (a := (a, b, i3, s3)) ?_ (Ev.now _)), .inl ⟨r2, r3⟩⟩
    unfold spec_l00Src_ends.f
    exact ev_bindc hc (ev_pos c (ev_bindc e2 (ev_bindc e3 (Ev.now _))))
  · obtain ⟨a, i2, s2, e2, r2, j2, z2⟩ := addr6_ev hb j1.1 (by omega) z1
    obtain ⟨b, i3, s3, e3, r3, j3, z3⟩ := addr6_ev hb j2.1 (by omega) z2
    refine ⟨a, b, ev_some (Ev.bind (a := (a, b, i3, s3)) ?_ (Ev.now _)), .inr ⟨r2, r3⟩⟩
    unfold spec_l00Src_ends.f
    exact ev_bindc hc (ev_neg c (Ev.bind e2 (Ev.bind e3 (Ev.now _))))
theorem srcBytesX_l0 {l : List Int} (hbl : Bytes l) (d : Nat) : ∀ (acc : List Int) (n i s : Int), n ≤ d → 0 ≤ i → i + 3 * d ≤ 100000 → acc.length + d ≤ 100000 → Bytes acc → Seed s → ∃ o i' s', Ev (fun k => spec_l00Src_bytes.l0 k acc n l i s) (o, i', s') ∧ Bytes o ∧ o.length ≤ acc.length + d ∧ (0 ≤ i' ∧ i' ≤ i + 3 * d) ∧ Seed s' := by
  induction d with
  | zero =>
    intro acc n i s hn h0 h1 h2 hb hs
    refine ⟨acc, i, s, ?_, hb, by omega, by omega, hs⟩
    apply ev_succ
    simp only [spec_l00Src_bytes.l0]
    exact ev_neg (by omega) (Ev.now _)
  | succ d ih =>
    intro acc n i s hn h0 h1 h2 hb hs
    by_cases c : n > 0
    · obtain ⟨b, i1, s', e, r, j, z⟩ := srcN_ev hbl h0 (by omega) hs (n := 256) (by omega) (by omega)
      have hw : wrap64 (n - 1) = n - 1 := wrap64_in (by omega) (by omega)
      obtain ⟨o, i', s2, g, gb, gl, gj, gz⟩ := ih (acc ++ [b % 256]) (n - 1) i1 s' (by omega) j.1 (by omega) (by simp; omega) (hb.append (Bytes.cons (by omega) Bytes.nil)) z
      refine ⟨o, i', s2, ?_, gb, by simp at gl; omega, by omega, gz⟩
      apply ev_succ
      simp only [spec_l00Src_bytes.l0, hw]
      refine ev_pos c (ev_bindc e ?_)
      exact ev_pos (by omega) g
    · refine ⟨acc, i, s, ?_, hb, by omega, by omega, hs⟩
      apply ev_succ
      simp only [spec_l00Src_bytes.l0]
      exact ev_neg c (Ev.now _)
theorem srcBytes_ev {l : List Int} (hbl : Bytes l) {i s n : Int} (h0 : 0 ≤ i) (h1 : i ≤ 50000) (hs : Seed s) (hn : 1 ≤ n) (hn2 : n ≤ 10000) : ∃ o i' s', Ev (fun k => spec_l00Src_bytes.f k l i s n) (o, i', s') ∧ Bytes o ∧ o.length ≤ n.toNat ∧ (0 ≤ i' ∧ i' ≤ i + 3 + 3 * n) ∧ Seed s' := by
  have hw : wrap64 (n + 1) = n + 1 := wrap64_in (by omega) (by omega)
  obtain ⟨b, i1, s1, e, r, j, z⟩ := srcN_ev hbl h0 (by omega) hs (n := n + 1) (by omega) (by omega)
  obtain ⟨o, i', s2, g, gb, gl, gj, gz⟩ := srcBytesX_l0 hbl n.toNat [] b i1 s1 (by omega) j.1 (by omega) (by simp; omega) Bytes.nil z
  refine ⟨o, i', s2, ?_, gb, by simpa using gl, by omega, gz⟩
  unfold spec_l00Src_bytes.f
  rw [hw]
  exact ev_bindc e g
/-! ### A number in two bytes; two bytes written into a row -/
def two (n : Int) : List Int := [(n / 256) % 256, n % 256]
theorem two_length (n : Int) : (two n).length = 2 := rfl
theorem two_bytes (n : Int) : Bytes (two n) := by
  intro x hx
  simp only [two, List.mem_cons, List.not_mem_nil, or_false] at hx
  omega
theorem specTwo_ev {n : Int} (h0 : 0 ≤ n) (h1 : n ≤ 1000000000) : spec_l01Two.f n = some (two n) := by
  unfold spec_l01Two.f two
  rw [Int.tdiv_eq_ediv_of_nonneg h0, Int.tmod_eq_emod_of_nonneg h0, wrap64_in (by omega) (by omega)]
  rw [show n % 256 % 256 = n % 256 by omega]
theorem implTwo_ev (n : Int) : impl_word16.f n = some (two n) := rfl
theorem copyAt_two (xs : List Int) (k : Nat) (a b : Int) (h : k + 2 ≤ xs.length) : copyAt xs k [a, b] = (xs.set k a).set (k + 1) b := by
  unfold copyAt
  rw [List.take_of_length_le (show ([a, b] : List Int).length ≤ xs.length - k by simp only [List.length_cons, List.length_nil]; omega)]
  apply List.ext_getElem?
  intro q
  have e : (xs.take k).length = k := by rw [List.length_take]; omega
  rcases Nat.lt_or_ge q k with h1 | h1
  · rw [List.getElem?_append_left (by omega), List.getElem?_take, if_pos h1, List.getElem?_set_ne (by omega), List.getElem?_set_ne (by omega)]
  · rw [List.getElem?_append_right (by omega), e]
    by_cases h2 : q = k
    · subst h2
      rw [Nat.sub_self, List.getElem?_set_ne (by omega), List.getElem?_set_self (by omega)]
      rfl
    · by_cases h3 : q = k + 1
      · subst h3
        rw [show k + 1 - k = 1 by omega, List.getElem?_set_self (by simp; omega)]
        rfl
      · rw [List.getElem?_append_right (by simp; omega), List.getElem?_drop, List.getElem?_set_ne (by omega), List.getElem?_set_ne (by omega)]
        congr 1
        simp
        omega
/-! ### What is summed ahead of bytes between two ends -/
def ps (a b : ByteArray) (p n : Int) : List Int := if a.size = 4 then (bytesOf (a ++ b) ++ [0, p % 256]) ++ two n else ((bytesOf (a ++ b) ++ [0, 0]) ++ two n) ++ [0, 0, 0, p % 256]
theorem ends_size {a b : ByteArray} (h : EndsOK a b) : (a ++ b).size = 2 * a.size ∧ (bytesOf (a ++ b)).length = 2 * a.size ∧ a.size ≤ 16 ∧ (a.size = 4 ∨ a.size = 16) ∧ b.size = a.size := by
  unfold EndsOK at h
  simp only [bytesOf_length, ByteArray.size_append]
  omega
theorem ps_length {a b : ByteArray} (h : EndsOK a b) (p n : Int) : (ps a b p n).length = (if a.size = 4 then 12 else 40) := by
  obtain ⟨_, h2, _, h4, _⟩ := ends_size h
  unfold ps
  split
  · rename_i c
    simp [two, h2, c]
  · simp [two, h2]
    omega
theorem ps_bytes (a b : ByteArray) (p n : Int) : Bytes (ps a b p n) := by
  have z : (0 : Int) ≤ 0 ∧ (0 : Int) ≤ 255 := by omega
  have hp : 0 ≤ p % 256 ∧ p % 256 ≤ 255 := by omega
  unfold ps
  split
  · exact ((bytesOf_bytes _).append (Bytes.cons z (Bytes.cons hp Bytes.nil))).append (two_bytes _)
  · exact (((bytesOf_bytes _).append (Bytes.cons z (Bytes.cons z Bytes.nil))).append (two_bytes _)).append (Bytes.cons z (Bytes.cons z (Bytes.cons z (Bytes.cons hp Bytes.nil))))
theorem implHead_ev {a b : ByteArray} (h : EndsOK a b) (p n : Int) : impl_sumHead.f a b p n = some (ps a b p n) := by
  obtain ⟨h1, h2, h3, h4, h5⟩ := ends_size h
  unfold impl_sumHead.f ps
  rw [if_pos (by omega), if_pos (by omega)]
  simp only [Option.bind_some, implTwo_ev]
  by_cases c : a.size = 4
  · rw [if_pos (by omega), if_pos c, if_pos (by rw [h2]; simp; omega)]
    (try simp only [Option.bind_some, implTwo_ev])
    rw [if_pos (by simp [two, h2]; omega)]
  · rw [if_neg (by omega), if_neg c, if_pos (by rw [h2]; simp; omega)]
    (try simp only [Option.bind_some, implTwo_ev])
    rw [if_pos (by simp [two, h2]; omega)]
    (try simp only [Option.bind_some, implTwo_ev])
    rw [if_pos (by simp [two, h2]; omega)]
theorem specPs_ev {a b : ByteArray} (h : EndsOK a b) (p : Int) {n : Int} (n0 : 0 ≤ n) (n1 : n ≤ 1000000000) : spec_l09Pseudo.f a b p n = some (ps a b p n) := by
  obtain ⟨h1, h2, h3, h4, h5⟩ := ends_size h
  unfold spec_l09Pseudo.f ps
  rw [if_pos (by omega), if_pos (by omega)]
  simp only [Option.bind_some, specTwo_ev n0 n1]
  by_cases c : a.size = 4
  · rw [if_pos (by omega), if_pos c, if_pos (by rw [h2]; simp; omega)]
    (try simp only [Option.bind_some, specTwo_ev n0 n1])
    rw [if_pos (by simp [two, h2]; omega)]
  · rw [if_neg (by omega), if_neg c, if_pos (by rw [h2]; simp; omega)]
    (try simp only [Option.bind_some, specTwo_ev n0 n1])
    rw [if_pos (by simp [two, h2]; omega)]
    (try simp only [Option.bind_some, specTwo_ev n0 n1])
    rw [if_pos (by simp [two, h2]; omega)]
theorem implOne_ev {a b : ByteArray} (h : EndsOK a b) : impl_oneVersion.f a b = some true := by
  obtain ⟨h1, h2, h3, h4, h5⟩ := ends_size h
  unfold impl_oneVersion.f impl_isAddress.f
  by_cases c : (a.size : Int) = 4
  · rw [if_pos c]
    simp [h5]
  · rw [if_neg c]
    have e : (a.size : Int) = 16 := by omega
    simp [h5, e]
theorem specPair_ev {a b : ByteArray} (h : EndsOK a b) : spec_l09Pair.f a b = some true := by
  obtain ⟨h1, h2, h3, h4, h5⟩ := ends_size h
  unfold spec_l09Pair.f
  rw [if_pos (by omega)]
  by_cases c : (a.size : Int) = 4
  · rw [if_pos c]
  · rw [if_neg c]
    have e : (a.size : Int) = 16 := by omega
    simp [e]
theorem tooLong_ev {a b : ByteArray} (h : EndsOK a b) : Ev (fun k => impl_tooLong.f k [a, b]) false := by
  obtain ⟨h1, h2, h3, h4, h5⟩ := ends_size h
  unfold impl_tooLong.f
  have w1 : wrap64 (0 + 1) = 1 := wrap64_in (by omega) (by omega)
  have w2 : wrap64 (1 + 1) = 2 := wrap64_in (by omega) (by omega)
  have r0 : rdOf ByteArray.empty [a, b] 0 = a := rfl
  have r1 : rdOf ByteArray.empty [a, b] 1 = b := rfl
  apply ev_succ
  simp only [impl_tooLong.l0, r0, w1]
  refine ev_pos (by simp) (ev_pos (by omega) (ev_pos (by simp) (ev_neg (by omega) ?_)))
  apply ev_succ
  simp only [impl_tooLong.l0, r1, w2]
  refine ev_pos (by simp) (ev_pos (by omega) (ev_pos (by simp) (ev_neg (by omega) ?_)))
  apply ev_succ
  simp only [impl_tooLong.l0]
  exact ev_neg (by simp) (Ev.now _)
theorem implAt_ev {l : List Int} (hb : Bytes l) {a : Int} (h0 : 0 ≤ a) (h1 : a + 1 < l.length) (h2 : l.length ≤ 1000000000) : impl_at16.f l a = some (rd l a * 256 + rd l (a + 1)) := by
  have b1 := rd_byte hb a
  have b2 := rd_byte hb (a + 1)
  have hw : wrap64 (a + 1) = a + 1 := wrap64_in (by omega) (by omega)
  unfold impl_at16.f
  rw [hw, if_pos h0, if_pos (by omega), if_pos (by omega), if_pos h1, wrap_rd hb, wrap_rd hb, wrap64_in (n := rd l a * 256) (by omega) (by omega), or_8 (by omega) (by omega) (by omega) (by omega) (by omega)]
/-! ### The sum of a list of which one byte is changed -/
theorem rd_set (l : List Int) (n m : Nat) (v : Int) (h : m < l.length) : rd (l.set n v) m = if n = m then v else rd l m := by
  rw [rd_at _ rfl (by simpa using h : m < (l.set n v).length), rd_at l rfl h, List.getElem_set]
theorem bytes_set {l : List Int} (h : Bytes l) (n : Nat) {v : Int} (hv : 0 ≤ v ∧ v ≤ 255) : Bytes (l.set n v) := fun x hx => by
  rcases List.mem_or_eq_of_mem_set hx with h1 | h1
  · exact h x h1
  · subst h1
    exact hv
theorem wsum_set (l : List Int) : ∀ (j : Nat) (v : Int), j < l.length → wsum (l.set j v) = wsum l + (v - rd l j) * (if j % 2 = 0 then 256 else 1) := by
  induction l using wsum.induct with
  | case1 => intro j v h; simp at h
  | case2 a =>
    intro j v h
    have : j = 0 := by simpa using h
    subst this
    rw [rd_at [a] (n := 0) rfl (by simp)]
    simp [wsum]
    omega
  | case3 a b t ih =>
    intro j v h
    rcases j with _ | _ | j
    · rw [rd_at (a :: b :: t) (n := 0) rfl (by simp)]
      simp [wsum]
      omega
    · rw [rd_at (a :: b :: t) (n := 1) rfl (by simp)]
      simp [wsum]
      omega
    · have hj : j < t.length := by simpa using h
      have g := ih j v hj
      rw [rd_at t (n := j) rfl hj] at g
      rw [rd_at (a :: b :: t) (n := j + 1 + 1) rfl h]
      simp only [List.set_cons_succ, wsum, List.getElem_cons_succ, g]
      rw [show (j + 1 + 1) % 2 = j % 2 by omega]
      omega
theorem wsum_even (l : List Int) (j : Nat) (v : Int) (h : j < l.length) (e : j % 2 = 0) : wsum (l.set j v) = wsum l + (v - rd l j) * 256 := by
  rw [wsum_set l j v h, if_pos e]
theorem wsum_odd (l : List Int) (j : Nat) (v : Int) (h : j < l.length) (e : ¬ j % 2 = 0) : wsum (l.set j v) = wsum l + (v - rd l j) * 1 := by
  rw [wsum_set l j v h, if_neg e]
theorem wsum_append (l m : List Int) : l.length % 2 = 0 → wsum (l ++ m) = wsum l + wsum m := by
  induction l using wsum.induct with
  | case1 => intro _; simp [wsum]
  | case2 a => intro h; simp at h
  | case3 a b t ih =>
    intro h
    have g := ih (by simp at h; omega)
    simp only [List.cons_append, wsum, g]
    omega
theorem lawsAt_ev {l : List Int} (hb : Bytes l) (i n : Int) (h0 : 0 ≤ i) (h1 : i ≤ 1000) (hn : n ≤ 1000000) : ∃ v, laws_at.f l i n = some v ∧ 0 ≤ v ∧ (1 ≤ n → v < n) ∧ (n ≤ 1 → v = 0) := by
  unfold laws_at.f
  by_cases c : n ≤ 1
  · rw [if_pos c]
    exact ⟨0, rfl, by omega, by omega, by omega⟩
  · rw [if_neg c]
    by_cases c2 : (l.length : Int) = 0
    · rw [if_pos c2, if_neg (by omega), wrap64_in (by omega) (by omega)]
      refine ⟨_, rfl, Int.tmod_nonneg _ (by omega), fun _ => Int.tmod_lt_of_pos _ (by omega), by omega⟩
    · rw [if_neg c2]
      have hL : 0 < (l.length : Int) := by omega
      have m1 := Int.tmod_nonneg (l.length : Int) h0
      have m2 := Int.tmod_lt_of_pos i hL
      have m3 := Int.tmod_nonneg (l.length : Int) (show 0 ≤ i + 1 by omega)
      have m4 := Int.tmod_lt_of_pos (i + 1) hL
      have d0 := Int.tdiv_nonneg h0 (show 0 ≤ (l.length : Int) by omega)
      have d1 : Int.tdiv i (l.length : Int) ≤ i := by rw [Int.tdiv_eq_ediv_of_nonneg h0]; exact Int.ediv_le_self _ h0
      have r1 := rd_byte hb (Int.tmod i (l.length : Int))
      have r2 := rd_byte hb (Int.tmod (i + 1) (l.length : Int))
      have w0 : wrap64 (i + 1) = i + 1 := wrap64_in (by omega) (by omega)
      rw [w0]
      generalize Int.tmod i (l.length : Int) = a at *
      generalize Int.tmod (i + 1) (l.length : Int) = b at *
      generalize Int.tdiv i (l.length : Int) = q at *
      rw [if_pos m1, if_pos m2, if_pos m3, if_pos m4, if_neg (by omega), wrap_rd hb, wrap_rd hb, wrap64_in (n := rd l a * 31) (by omega) (by omega), wrap64_in (n := rd l a * 31 + rd l b) (by omega) (by omega), wrap64_in (n := q) (by omega) (by omega), wrap64_in (by omega) (by omega)]
      exact ⟨_, rfl, Int.tmod_nonneg _ (by omega), fun _ => Int.tmod_lt_of_pos _ (by omega), by omega⟩
theorem xor_byte {x m : Int} (hx : 0 ≤ x ∧ x ≤ 255) (hm : 1 ≤ m ∧ m ≤ 255) : (0 ≤ Go.bits .xor .u8 x m ∧ Go.bits .xor .u8 x m ≤ 255) ∧ Go.bits .xor .u8 x m ≠ x := by
  obtain ⟨n, rfl⟩ := Int.eq_ofNat_of_zero_le hx.1
  obtain ⟨k, rfl⟩ := Int.eq_ofNat_of_zero_le (show 0 ≤ m by omega)
  rw [u8_xor_nat n k (by omega) (by omega)]
  have hlt : n ^^^ k < 2 ^ 8 := Nat.xor_lt_two_pow (by omega) (by omega)
  refine ⟨by omega, fun he => ?_⟩
  have h1 : n ^^^ k = n := by omega
  have h2 : n ^^^ (n ^^^ k) = n ^^^ n := by rw [h1]
  rw [← Nat.xor_assoc, Nat.xor_self, Nat.zero_xor] at h2
  omega
/-! ### A datagram: its bytes, and how they are read -/
def udpBody (f t : Int) (d : List Int) : List Int := (((two f ++ two t) ++ two (8 + (d.length : Int))) ++ [0, 0]) ++ d
def udpSum (a b : ByteArray) (f t : Int) (d : List Int) : Int :=
  if csum (ps a b 17 ((udpBody f t d).length : Int) ++ udpBody f t d) = 0 then 65535 else csum (ps a b 17 ((udpBody f t d).length : Int) ++ udpBody f t d)
def udpBytes (a b : ByteArray) (f t : Int) (d : List Int) : List Int := (((two f ++ two t) ++ two (8 + (d.length : Int))) ++ two (udpSum a b f t d)) ++ d
theorem udpBody_length (f t : Int) (d : List Int) : (udpBody f t d).length = 8 + d.length := by
  simp [udpBody, two]
  omega
theorem udpBytes_length (a b : ByteArray) (f t : Int) (d : List Int) : (udpBytes a b f t d).length = 8 + d.length := by
  simp [udpBytes, two]
  omega
theorem udpBody_bytes (f t : Int) {d : List Int} (h : Bytes d) : Bytes (udpBody f t d) := by
  have z : (0 : Int) ≤ 0 ∧ (0 : Int) ≤ 255 := by omega
  exact ((((two_bytes _).append (two_bytes _)).append (two_bytes _)).append (Bytes.cons z (Bytes.cons z Bytes.nil))).append h
theorem udpBytes_bytes (a b : ByteArray) (f t : Int) {d : List Int} (h : Bytes d) : Bytes (udpBytes a b f t d) :=
  ((((two_bytes _).append (two_bytes _)).append (two_bytes _)).append (two_bytes _)).append h
theorem udpSum_range (a b : ByteArray) (f t : Int) {d : List Int} (h : Bytes d) : 0 < udpSum a b f t d ∧ udpSum a b f t d ≤ 65535 := by
  have g := csum_range ((ps_bytes a b 17 ((udpBody f t d).length : Int)).append (udpBody_bytes f t h))
  unfold udpSum
  split <;> omega
theorem set_udp (f t s : Int) (d : List Int) (h : 0 ≤ s ∧ s ≤ 65535) : ((udpBody f t d).set 6 (s / 256)).set 7 (s % 256) = (((two f ++ two t) ++ two (8 + (d.length : Int))) ++ two s) ++ d := by
  simp only [udpBody, two, List.cons_append, List.nil_append, List.set_cons_succ, List.set_cons_zero]
  rw [show s / 256 % 256 = s / 256 by omega]
theorem wsum_udp (f t s : Int) (d : List Int) : wsum ((((two f ++ two t) ++ two (8 + (d.length : Int))) ++ two s) ++ d) = wsum (udpBody f t d) + ((s / 256 % 256) * 256 + s % 256) := by
  simp only [udpBody, two, List.cons_append, List.nil_append, wsum]
  omega
theorem ps_even {a b : ByteArray} (h : EndsOK a b) (p n : Int) : (ps a b p n).length % 2 = 0 := by
  rw [ps_length h]
  split <;> omega
theorem csum_udp {a b : ByteArray} (h : EndsOK a b) (f t : Int) {d : List Int} (hd : Bytes d) : csum (ps a b 17 ((udpBytes a b f t d).length : Int) ++ udpBytes a b f t d) = 0 := by
  have hs := udpSum_range a b f t hd
  have e1 := wsum_append (ps a b 17 ((udpBytes a b f t d).length : Int)) (udpBytes a b f t d) (ps_even h _ _)
  have e2 := wsum_udp f t (udpSum a b f t d) d
  have e3 := wsum_append (ps a b 17 ((udpBody f t d).length : Int)) (udpBody f t d) (ps_even h _ _)
  have hp := (wsum_range _ (ps_bytes a b 17 ((udpBody f t d).length : Int))).1
  have hb := (wsum_range _ (udpBody_bytes f t hd)).1
  have hlen : (udpBytes a b f t d).length = (udpBody f t d).length := by rw [udpBytes_length, udpBody_length]
  rw [hlen] at e1 ⊢
  have e4 : udpSum a b f t d = (if csum (ps a b 17 ((udpBody f t d).length : Int) ++ udpBody f t d) = 0 then 65535 else csum (ps a b 17 ((udpBody f t d).length : Int) ++ udpBody f t d)) := rfl
  change wsum (udpBytes a b f t d) = _ at e2
  rw [e2] at e1
  unfold csum at e4 ⊢
  rw [e3] at e4
  rw [e1]
  generalize udpSum a b f t d = s at *
  generalize wsum (ps a b 17 ((udpBody f t d).length : Int)) = P at *
  generalize wsum (udpBody f t d) = B at *
  clear e1 e2 e3
  have e5 : P + (B + ((s / 256 % 256) * 256 + s % 256)) = P + B + s := by omega
  rw [e5]
  unfold fold at e4 ⊢
  split at e4 <;> split at e4 <;> split <;> omega
theorem implUdp_ev {a b : ByteArray} (h : EndsOK a b) {f t : Int} (hf : 0 ≤ f ∧ f < 65536) (ht : 0 ≤ t ∧ t < 65536) {d : List Int} (hd : Bytes d) (hl : d.length ≤ 40) : Ev (fun k => impl_UdpBytes.f k a b f t d) (udpBytes a b f t d, 0) := by
  have hw : wrap64 (8 + (d.length : Int)) = 8 + (d.length : Int) := wrap64_in (by omega) (by omega)
  have hps := ps_length h 17 ((udpBody f t d).length : Int)
  have hbl := udpBody_length f t d
  have hbb := (ps_bytes a b 17 ((udpBody f t d).length : Int)).append (udpBody_bytes f t hd)
  have hcs := csum_range hbb
  have hpl : (ps a b 17 ((udpBody f t d).length : Int)).length ≤ 40 := by rw [hps]; split <;> omega
  have fin : ∀ y : List Int, y = udpBody f t d → Ev (fun k => (impl_sumHead.f a b 17 (y.length : Int)).bind fun t281 => (if t281.length + y.length < 140737488355328 then ((impl_checkSum.f k (t281 ++ y)).bind fun t287 => (if t287 = 0 then (if 6 ≤ (y.length : Int) then ((impl_word16.f 65535).bind fun t292 => (some ((copyAt y (6 : Int).toNat t292), (0 : Int)))) else (none)) else (if 6 ≤ (y.length : Int) then ((impl_word16.f t287).bind fun t300 => (some ((copyAt y (6 : Int).toNat t300), 0))) else (none)))) else (none))) (udpBytes a b f t d, 0) := by
    rintro y rfl
    refine ev_bindc (implHead_ev h 17 _) (ev_pos (by omega) (Ev.bind (implSum_ev hbb (by rw [List.length_append]; omega)) ?_))
    have cp : ∀ s : Int, 0 ≤ s ∧ s ≤ 65535 → copyAt (udpBody f t d) (6 : Int).toNat (two s) = (((two f ++ two t) ++ two (8 + (d.length : Int))) ++ two s) ++ d := by
      intro s hs
      rw [← set_udp f t s d hs]
      unfold two
      rw [show s / 256 % 256 = s / 256 by omega]
      exact copyAt_two _ 6 _ _ (by omega)
    refine ev_ite (fun c => ?_) (fun c => ?_)
    · refine ev_pos (by omega) (ev_bindc (implTwo_ev 65535) (ev_fin ?_))
      rw [cp 65535 (by omega)]
      unfold udpBytes udpSum
      rw [if_pos c]
    · refine ev_pos (by omega) (ev_bindc (implTwo_ev _) (ev_fin ?_))
      rw [cp _ hcs]
      unfold udpBytes udpSum
      rw [if_neg c]
  have j0 : Ev (fun k => impl_UdpBytes.j0 k a b (decide ((d.length : Int) > 1492)) f t d) (udpBytes a b f t d, 0) := by
    have e : decide ((d.length : Int) > 1492) = false := decide_eq_false (by omega)
    rw [e]
    apply ev_succ
    simp only [impl_UdpBytes.j0, Bool.false_eq_true, if_false]
    rw [hw]
    refine ev_bindc (implTwo_ev f) ?_
    refine ev_bindc (implTwo_ev t) (ev_pos (by simp [two]) (ev_some ?_))
    refine ev_bindc (implTwo_ev _) (ev_pos (by simp [two]) (ev_some ?_))
    refine ev_some (ev_pos (by simp [two]) (ev_some ?_))
    refine ev_pos (by simp [two]; omega) (ev_some ?_)
    exact fin _ rfl
  unfold impl_UdpBytes.f
  refine Ev.bind (tooLong_ev h) (ev_neg (by simp) (ev_bindc (implOne_ev h) (ev_pos rfl ?_)))
  refine ev_bindc (impl_in f 0 65535) (ev_pos (decide_eq_true (by omega)) (ev_bindc (impl_in t 0 65535) (ev_pos (decide_eq_true (by omega)) j0)))
theorem specUdp_ev {a b : ByteArray} (h : EndsOK a b) {f t : Int} (hf : 0 ≤ f ∧ f < 65536) (ht : 0 ≤ t ∧ t < 65536) {d : List Int} (hd : Bytes d) (hl : d.length ≤ 40) : Ev (fun k => spec_UdpBytes.f k a b f t d) (udpBytes a b f t d, 0) := by
  have hw : wrap64 (8 + (d.length : Int)) = 8 + (d.length : Int) := wrap64_in (by omega) (by omega)
  have hps := ps_length h 17 ((udpBody f t d).length : Int)
  have hbl := udpBody_length f t d
  have hbb := (ps_bytes a b 17 ((udpBody f t d).length : Int)).append (udpBody_bytes f t hd)
  have hcs := csum_range hbb
  have hpl : (ps a b 17 ((udpBody f t d).length : Int)).length ≤ 40 := by rw [hps]; split <;> omega
  have fin : ∀ y : List Int, y = udpBody f t d → Ev (fun k => (spec_l09Pseudo.f a b 17 (y.length : Int)).bind fun t370 => (if t370.length + y.length < 140737488355328 then ((spec_l01Sum.f k (t370 ++ y)).bind fun t376 => (if t376 = 0 then (if 6 < (y.length : Int) then (if 7 < (y.length : Int) then (some ((y.set (6 : Int).toNat (((65535 : Int) / 256) % 256)).set (7 : Int).toNat ((65535 : Int) % 256))) else (none)) else (none)) else (if 6 < (y.length : Int) then (if 7 < (y.length : Int) then (some ((y.set (6 : Int).toNat ((wrap64 (Int.tdiv t376 256)) % 256)).set (7 : Int).toNat ((Int.tmod t376 256) % 256))) else (none)) else (none)))) else (none))) (udpBytes a b f t d) := by
    rintro y rfl
    refine ev_bindc (specPs_ev h 17 (by omega) (by omega)) (ev_pos (by omega) (Ev.bind (specSum_ev hbb (by rw [List.length_append]; omega)) ?_))
    refine ev_ite (fun c => ?_) (fun c => ?_)
    · refine ev_pos (by omega) (ev_pos (by omega) (ev_fin ?_))
      unfold udpBytes udpSum
      rw [if_pos c]
      exact set_udp f t 65535 d (by omega)
    · refine ev_pos (by omega) (ev_pos (by omega) (ev_fin ?_))
      unfold udpBytes udpSum
      rw [if_neg c, ← set_udp f t _ d hcs]
      rw [Int.tdiv_eq_ediv_of_nonneg hcs.1, Int.tmod_eq_emod_of_nonneg hcs.1, wrap64_in (by omega) (by omega)]
      congr 1
      · congr 1
        omega
      · omega
  unfold spec_UdpBytes.f spec_l09Udp.f
  simp only [spec_in, Option.bind_some]
  refine ev_bindc (specPair_ev h) (ev_pos rfl (ev_bindc (a := true) ?_ (ev_pos rfl (Ev.bind (a := udpBytes a b f t d) ?_ (Ev.now _)))))
  · rw [if_pos (decide_eq_true (by omega)), if_pos (decide_eq_true (by omega))]
    exact congrArg some (decide_eq_true (by omega))
  · unfold spec_l09UdpBytes.f
    rw [hw]
    refine ev_bindc (specTwo_ev hf.1 (by omega)) ?_
    refine ev_bindc (specTwo_ev ht.1 (by omega)) (ev_pos (by simp [two]) (ev_some ?_))
    refine ev_bindc (specTwo_ev (by omega) (by omega)) (ev_pos (by simp [two]) (ev_some ?_))
    refine ev_some (ev_pos (by simp [two]) (ev_some ?_))
    refine ev_pos (by simp [two]; omega) (ev_some ?_)
    exact fin _ rfl
/-- What ReadUdp answers. -/
def rdU (a b : ByteArray) (x : List Int) : Int × Int × List Int × Int :=
  if 8 ≤ x.length ∧ x.length ≤ 1500 ∧ rd x 4 * 256 + rd x 5 = x.length then
    (if rd x 6 * 256 + rd x 7 = 0 then (if a.size = 16 then (0, 0, [], 8) else (rd x 0 * 256 + rd x 1, rd x 2 * 256 + rd x 3, x.drop 8, 0))
     else if csum (ps a b 17 (x.length : Int) ++ x) = 0 then (rd x 0 * 256 + rd x 1, rd x 2 * 256 + rd x 3, x.drop 8, 0) else (0, 0, [], 8))
  else (0, 0, [], 3)
theorem readUdp_ev {a b : ByteArray} (h : EndsOK a b) {x : List Int} (hx : Bytes x) (hl : x.length ≤ 1500) (hl2 : 8 ≤ x.length) : Ev (fun k => impl_ReadUdp.f k a b x) (rdU a b x) := by
  have hps := ps_length h 17 (x.length : Int)
  have hpl : (ps a b 17 (x.length : Int)).length ≤ 40 := by rw [hps]; split <;> omega
  have hbb := (ps_bytes a b 17 (x.length : Int)).append hx
  have a0 : impl_at16.f x 0 = some (rd x 0 * 256 + rd x 1) := implAt_ev hx (a := 0) (by omega) (by omega) (by omega)
  have a2 : impl_at16.f x 2 = some (rd x 2 * 256 + rd x 3) := implAt_ev hx (a := 2) (by omega) (by omega) (by omega)
  have a4 : impl_at16.f x 4 = some (rd x 4 * 256 + rd x 5) := implAt_ev hx (a := 4) (by omega) (by omega) (by omega)
  have a6 : impl_at16.f x 6 = some (rd x 6 * 256 + rd x 7) := implAt_ev hx (a := 6) (by omega) (by omega) (by omega)
  have hends := ends_size h
  have j1 : Ev (fun k => impl_ReadUdp.j1 k a b x (rd x 4 * 256 + rd x 5 != (x.length : Int))) (rdU a b x) := by
    apply ev_succ
    simp only [impl_ReadUdp.j1]
    unfold rdU
    refine ev_ite (fun c => ev_fin ?_) (fun c => ?_)
    · rw [if_neg]
      intro hc
      simp [hc.2.2] at c
    · have c' : rd x 4 * 256 + rd x 5 = (x.length : Int) := by simpa using c
      rw [if_pos (show 8 ≤ x.length ∧ x.length ≤ 1500 ∧ rd x 4 * 256 + rd x 5 = (x.length : Int) from ⟨hl2, hl, c'⟩)]
      refine ev_bindc a6 (ev_ite (fun c6 => ?_) (fun c6 => ?_))
      · rw [if_pos c6]
        refine ev_ite (fun cs => ev_fin ?_) (fun cs => ?_)
        · rw [if_pos (by omega)]
        · rw [if_neg (by omega)]
          refine ev_bindc a0 (ev_bindc a2 (ev_some (ev_pos (by omega) (ev_pos (by simp; omega) (ev_fin ?_)))))
          rfl
      · rw [if_neg c6]
        refine ev_bindc (implHead_ev h 17 _) (ev_pos (by omega) (Ev.bind (implSum_ev hbb (by rw [List.length_append]; omega)) (ev_ite (fun cs => ?_) (fun cs => ?_))))
        · rw [if_pos cs]
          refine ev_bindc a0 (ev_bindc a2 (ev_some (ev_pos (by omega) (ev_pos (by simp; omega) (ev_fin ?_)))))
          rfl
        · rw [if_neg cs]
          exact Ev.now _
  unfold impl_ReadUdp.f
  refine Ev.bind (tooLong_ev h) (ev_neg (by simp) ?_)
  have e : decide ((x.length : Int) > 65536) = false := decide_eq_false (by omega)
  rw [e]
  apply ev_succ
  simp only [impl_ReadUdp.j0, Bool.false_eq_true, if_false]
  exact ev_bindc (implOne_ev h) (ev_pos rfl (ev_bindc (impl_in _ 8 1500) (ev_pos (decide_eq_true (by omega)) (ev_bindc a4 j1))))

theorem udpOf_ev {l : List Int} (hb : Bytes l) : ∃ f t d, Ev (fun k => spec_UdpOf.f k l) (f, t, d) ∧ (0 ≤ f ∧ f < 65536) ∧ (0 ≤ t ∧ t < 65536) ∧ Bytes d ∧ d.length ≤ 40 := by
  obtain ⟨b1, i1, s1, e1, r1, j1, z1⟩ := srcN_ev hb (show (0 : Int) ≤ 0 by omega) (by omega) (source_seed l) (n := 65536) (by omega) (by omega)
  obtain ⟨b2, i2, s2, e2, r2, j2, z2⟩ := srcN_ev hb j1.1 (by omega) z1 (n := 65536) (by omega) (by omega)
  obtain ⟨d, i3, s3, e3, db, dl, _, _⟩ := srcBytes_ev hb j2.1 (by omega) z2 (n := 40) (by omega) (by omega)
  refine ⟨b1, b2, d, ?_, r1, r2, db, by simpa using dl⟩
  unfold spec_UdpOf.f spec_l00Source.f
  refine ev_some (Ev.bind (a := (b1, b2, d, i3, s3)) ?_ (Ev.now _))
  unfold spec_l00Src_udp.f
  exact ev_bindc e1 (ev_bindc e2 (Ev.bind e3 (Ev.now _)))
theorem implPs_ev {a b : ByteArray} (h : EndsOK a b) {x : List Int} (hx : Bytes x) (hl : x.length ≤ 60000) : Ev (fun k => impl_PseudoSum.f k a b 17 x) (csum (ps a b 17 (x.length : Int) ++ x), 0) := by
  have hps := ps_length h 17 (x.length : Int)
  have hpl : (ps a b 17 (x.length : Int)).length ≤ 40 := by rw [hps]; split <;> omega
  have hbb := (ps_bytes a b 17 (x.length : Int)).append hx
  unfold impl_PseudoSum.f
  have e1 : decide ((x.length : Int) > 65536) = false := decide_eq_false (by omega)
  have e2 : decide ((x.length : Int) > 65535) = false := decide_eq_false (by omega)
  refine Ev.bind (tooLong_ev h) (ev_neg (by simp) ?_)
  rw [e1]
  apply ev_succ
  simp only [impl_PseudoSum.j0, Bool.false_eq_true, if_false]
  refine ev_bindc (implOne_ev h) (ev_pos rfl (ev_bindc (impl_in 17 0 255) (ev_pos (by decide) ?_)))
  rw [e2]
  apply ev_succ
  simp only [impl_PseudoSum.j1, Bool.false_eq_true, if_false]
  exact ev_bindc (implHead_ev h 17 _) (ev_pos (by omega) (Ev.bind (implSum_ev hbb (by rw [List.length_append]; omega)) (Ev.now _)))
theorem specPsum_ev {a b : ByteArray} (h : EndsOK a b) {x : List Int} (hx : Bytes x) (hl : x.length ≤ 60000) : Ev (fun k => spec_PseudoSum.f k a b 17 x) (csum (ps a b 17 (x.length : Int) ++ x), 0) := by
  have hps := ps_length h 17 (x.length : Int)
  have hpl : (ps a b 17 (x.length : Int)).length ≤ 40 := by rw [hps]; split <;> omega
  have hbb := (ps_bytes a b 17 (x.length : Int)).append hx
  unfold spec_PseudoSum.f
  have e2 : decide ((x.length : Int) > 65535) = false := decide_eq_false (by omega)
  refine ev_bindc (specPair_ev h) (ev_pos rfl (ev_bindc (spec_in 17 0 255) (ev_pos (by decide) ?_)))
  rw [e2]
  apply ev_succ
  simp only [spec_PseudoSum.j0, Bool.false_eq_true, if_false]
  exact ev_bindc (specPs_ev h 17 (by omega) (by omega)) (ev_pos (by omega) (Ev.bind (specSum_ev hbb (by rw [List.length_append]; omega)) (Ev.now _)))
theorem rd_head (u0 u1 u2 u3 u4 u5 u6 u7 : Int) (d : List Int) : rd (u0 :: u1 :: u2 :: u3 :: u4 :: u5 :: u6 :: u7 :: d) 0 = u0 ∧ rd (u0 :: u1 :: u2 :: u3 :: u4 :: u5 :: u6 :: u7 :: d) 1 = u1 ∧ rd (u0 :: u1 :: u2 :: u3 :: u4 :: u5 :: u6 :: u7 :: d) 2 = u2 ∧ rd (u0 :: u1 :: u2 :: u3 :: u4 :: u5 :: u6 :: u7 :: d) 3 = u3 ∧ rd (u0 :: u1 :: u2 :: u3 :: u4 :: u5 :: u6 :: u7 :: d) 4 = u4 ∧ rd (u0 :: u1 :: u2 :: u3 :: u4 :: u5 :: u6 :: u7 :: d) 5 = u5 ∧ rd (u0 :: u1 :: u2 :: u3 :: u4 :: u5 :: u6 :: u7 :: d) 6 = u6 ∧ rd (u0 :: u1 :: u2 :: u3 :: u4 :: u5 :: u6 :: u7 :: d) 7 = u7 := ⟨rfl, rfl, rfl, rfl, rfl, rfl, rfl, rfl⟩
theorem udp_rds (a b : ByteArray) {f t : Int} (hf : 0 ≤ f ∧ f < 65536) (ht : 0 ≤ t ∧ t < 65536) {d : List Int} (hd : Bytes d) (hl : d.length ≤ 40) :
    rd (udpBytes a b f t d) 0 * 256 + rd (udpBytes a b f t d) 1 = f ∧ rd (udpBytes a b f t d) 2 * 256 + rd (udpBytes a b f t d) 3 = t ∧ rd (udpBytes a b f t d) 4 * 256 + rd (udpBytes a b f t d) 5 = 8 + (d.length : Int) ∧ rd (udpBytes a b f t d) 6 * 256 + rd (udpBytes a b f t d) 7 = udpSum a b f t d ∧ (udpBytes a b f t d).drop 8 = d := by
  have hs := udpSum_range a b f t hd
  have e : udpBytes a b f t d = ((f / 256) % 256) :: (f % 256) :: ((t / 256) % 256) :: (t % 256) :: (((8 + (d.length : Int)) / 256) % 256) :: ((8 + (d.length : Int)) % 256) :: ((udpSum a b f t d / 256) % 256) :: (udpSum a b f t d % 256) :: d := rfl
  rw [e]
  obtain ⟨r0, r1, r2, r3, r4, r5, r6, r7⟩ := rd_head ((f / 256) % 256) (f % 256) ((t / 256) % 256) (t % 256) (((8 + (d.length : Int)) / 256) % 256) ((8 + (d.length : Int)) % 256) ((udpSum a b f t d / 256) % 256) (udpSum a b f t d % 256) d
  rw [r0, r1, r2, r3, r4, r5, r6, r7]
  refine ⟨by omega, by omega, by omega, by omega, rfl⟩
theorem fold_shift {n d : Int} (_ : 0 ≤ n) (_ : 0 ≤ n + d) (hn : 65535 - fold n = 0) (hd : d ≠ 0) (hd1 : -65535 < d ∧ d < 65535) : 65535 - fold (n + d) ≠ 0 := by
  unfold fold at hn ⊢
  split at hn <;> split <;> omega
/-- One byte changed is found. -/
theorem udp_flip {a b : ByteArray} (h : EndsOK a b) {f t : Int} (hf : 0 ≤ f ∧ f < 65536) (ht : 0 ≤ t ∧ t < 65536) {d : List Int} (hd : Bytes d) (hl : d.length ≤ 40) (j : Nat) (hj : j < 8 + d.length) (v : Int) (hv : 0 ≤ v ∧ v ≤ 255) (hne : v ≠ rd (udpBytes a b f t d) j) :
    (rdU a b ((udpBytes a b f t d).set j v)).2.2.2 = 0 → rd ((udpBytes a b f t d).set j v) 6 = 0 ∧ rd ((udpBytes a b f t d).set j v) 7 = 0 := by
  have hlen := udpBytes_length a b f t d
  have hU := udpBytes_bytes a b f t hd
  obtain ⟨_, _, r45, _, _⟩ := udp_rds a b hf ht hd hl
  have hU2 := bytes_set hU j hv
  have hr6 := rd_byte hU2 6
  have hr7 := rd_byte hU2 7
  have b4 := rd_byte hU 4
  have b5 := rd_byte hU 5
  have bj := rd_byte hU (j : Int)
  unfold rdU
  intro hc
  split at hc
  · rename_i hx
    have e4 := rd_set (udpBytes a b f t d) j 4 v (by omega)
    have e5 := rd_set (udpBytes a b f t d) j 5 v (by omega)
    have hx3 := hx.2.2
    rw [List.length_set, hlen] at hx3
    have e4' : rd ((udpBytes a b f t d).set j v) 4 = if j = 4 then v else rd (udpBytes a b f t d) 4 := e4
    have e5' : rd ((udpBytes a b f t d).set j v) 5 = if j = 5 then v else rd (udpBytes a b f t d) 5 := e5
    rw [e4', e5'] at hx3
    split at hc
    · rename_i h67
      omega
    · split at hc
      · rename_i h67 hcs
        exfalso
        have hj45 : j ≠ 4 ∧ j ≠ 5 := by
          refine ⟨fun e => ?_, fun e => ?_⟩
          · subst e
            rw [if_pos rfl, if_neg (by omega)] at hx3
            have hne' : v ≠ rd (udpBytes a b f t d) 4 := hne
            omega
          · subst e
            rw [if_neg (by omega), if_pos rfl] at hx3
            have hne' : v ≠ rd (udpBytes a b f t d) 5 := hne
            omega
        have c0 := csum_udp h f t hd
        rw [List.length_set] at hcs
        unfold csum at hcs c0
        rw [wsum_append _ _ (ps_even h _ _)] at hcs c0
        have hp := (wsum_range _ (ps_bytes a b 17 ((udpBytes a b f t d).length : Int))).1
        have hw := (wsum_range _ hU).1
        have hw2 := (wsum_range _ hU2).1
        have es := wsum_set (udpBytes a b f t d) j v (by omega)
        rw [es] at hcs hw2
        generalize wsum (ps a b 17 ((udpBytes a b f t d).length : Int)) = P at *
        generalize wsum (udpBytes a b f t d) = B at *
        generalize rd (udpBytes a b f t d) (j : Int) = r at *
        have hsh : 65535 - fold (P + B + (v - r) * (if j % 2 = 0 then 256 else 1)) ≠ 0 := by
          by_cases e : j % 2 = 0
          · rw [if_pos e] at hcs hw2 ⊢
            exact fold_shift (by omega) (by omega) c0 (by omega) (by omega)
          · rw [if_neg e] at hcs hw2 ⊢
            exact fold_shift (by omega) (by omega) c0 (by omega) (by omega)
        apply hsh
        rw [← hcs]
        congr 2
        omega
      · simp at hc
  · simp at hc

theorem FnUdp : SaysFnUdp.Says := by
  intro l m h0 h1
  have hb := Bytes.of_wf h0.2
  have hm := Bytes.of_wf h1.2
  refine Ev.rounds (g := fun k => laws_FnUdp.f k l m) ?_
  have hj : ∀ q, Ev (fun k => laws_FnUdp.j0 k l m q) true := by
    intro q
    apply ev_succ
    simp only [laws_FnUdp.j0]
    refine ev_ite (fun _ => Ev.now _) (fun _ => ?_)
    obtain ⟨a, b, ea, h⟩ := ends_ev hm
    obtain ⟨f, t, d, eu, hf, ht, hd, hl⟩ := udpOf_ev hb
    have hU := udpBytes_bytes a b f t hd
    have hlen := udpBytes_length a b f t d
    obtain ⟨r01, r23, r45, r67, rdr⟩ := udp_rds a b hf ht hd hl
    have hs := udpSum_range a b f t hd
    have hcs := csum_udp h f t hd
    have hrd : rdU a b (udpBytes a b f t d) = (f, t, d, 0) := by
      unfold rdU
      rw [if_pos ⟨by omega, by omega, by omega⟩, if_neg (by omega), if_pos hcs, r01, r23, rdr]
    have g1 := implUdp_ev h hf ht hd hl
    have g2 := specUdp_ev h hf ht hd hl
    have g3 := readUdp_ev h hU (by omega) (by omega)
    rw [hrd] at g3
    refine Ev.bind ea (Ev.bind eu (Ev.bind g1 (Ev.bind g2 (Ev.bind g3 (ev_pos rfl (ev_pos rfl (ev_pos rfl (ev_pos rfl (ev_pos rfl ?_)))))))))
    simp only [bne_self_eq_false]
    apply ev_succ
    simp only [laws_FnUdp.j1, Bool.false_eq_true, if_false]
    have p1 := implPs_ev h hU (by omega)
    have p2 := specPsum_ev h hU (by omega)
    rw [hcs] at p1 p2
    refine Ev.bind p1 (Ev.bind p2 (ev_pos rfl (ev_pos rfl ?_)))
    simp only [bne_self_eq_false]
    apply ev_succ
    simp only [laws_FnUdp.j2, Bool.false_eq_true, if_false]
    obtain ⟨x, ex, x0, x1, _⟩ := lawsAt_ev hm 0 ((udpBytes a b f t d).length : Int) (by omega) (by omega) (by omega)
    obtain ⟨y, ey, y0, y1, _⟩ := lawsAt_ev hm 1 255 (by omega) (by omega) (by omega)
    have x2 := x1 (by omega)
    have y2 := y1 (by omega)
    refine ev_bindc ex (ev_pos x0 (ev_pos x2 (ev_bindc ey (ev_some ?_))))
    have wy : (wrap64 (1 + y)) % 256 = 1 + y := by rw [wrap64_in (by omega) (by omega)]; omega
    rw [wy]
    obtain ⟨j, rfl⟩ := Int.eq_ofNat_of_zero_le x0
    have hxr := xor_byte (rd_byte hU (j : Int)) (show 1 ≤ 1 + y ∧ 1 + y ≤ 255 by omega)
    generalize Go.bits .xor .u8 (rd (udpBytes a b f t d) (j : Int)) (1 + y) = v at hxr ⊢
    rw [Int.toNat_natCast]
    have fl := udp_flip h hf ht hd hl j (by omega) v hxr.1 hxr.2
    have g4 := readUdp_ev h (bytes_set hU j hxr.1) (by rw [List.length_set]; omega) (by rw [List.length_set]; omega)
    refine Ev.bind g4 (ev_ite (fun hc => ?_) (fun _ => Ev.now _))
    obtain ⟨f6, f7⟩ := fl hc
    refine ev_pos (by omega) (ev_pos f6 (ev_pos (by omega) (ev_fin ?_)))
    rw [f7]
    rfl
  unfold laws_FnUdp.f
  exact ev_ite (fun _ => hj _) (fun _ => hj _)

end Go.Proofs.Ytjfpkfophfelmaa.Pure
