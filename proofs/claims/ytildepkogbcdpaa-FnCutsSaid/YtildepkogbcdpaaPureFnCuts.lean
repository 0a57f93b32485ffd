/- Pieces of a packet are no larger than they may be, and their data, one behind the other, are the packet's; no condition. -/
import Derived.Test.YtildepkogbcdpaaSaysFnCuts
namespace Go.Proofs.Ytildepkogbcdpaa.Pure
open Go Go.B Go.Proofs.Ytildepkogbcdpaa.B Go.Proofs.Ytildepkogbcdpaa.SaysFnCuts
set_option linter.unusedVariables false
set_option linter.unusedSimpArgs false
theorem w64 {n : Int} (h0 : -9223372036854775808 ≤ n) (h1 : n ≤ 9223372036854775807) : IntKind.i64.wrap n = n := by
  rw [IntKind.wrap_i64]; omega
theorem gd {α : Type} (l : List α) (i : Nat) (d : α) (h : i < l.length) : List.getD l (Int.toNat (i : Int)) d = l[i] := by
  simp [List.getD_eq_getElem?_getD, List.getElem?_eq_getElem h]
theorem tb {c : Prop} [Decidable c] (h : c) : decide c = true := decide_eq_true h
theorem fb {c : Prop} [Decidable c] (h : ¬ c) : ¬ decide c = true := by simpa using h
theorem ff {c : Prop} [Decidable c] (h : ¬ c) : decide c = false := by simpa using h
theorem nf {c : Prop} [Decidable c] (h : c) : ¬ decide c = false := by simpa using h
theorem bp {c : Prop} [Decidable c] (h : c) : (!decide c) = false := by simp [h]
theorem bn {c : Prop} [Decidable c] (h : ¬ c) : ¬ (!decide c) = false := by simp [h]
theorem bpt {c : Prop} [Decidable c] (h : c) : ¬ (!decide c) = true := by simp [h]
theorem spec_in (k : Nat) (a b c : Int) : f86 k a b c = some (decide (b ≤ a ∧ a ≤ c)) := by
  simp only [f86, f86.step]
  split <;> simp at * <;> omega
theorem impl_in (k : Nat) (a b c : Int) : f83 k a b c = some (decide (b ≤ a ∧ a ≤ c)) := by
  simp only [f83, f83.step]
  split <;> simp at * <;> omega
theorem wf_u8 {x : Int} (h : (Lit.int .u8 x).wf = true) : 0 ≤ x ∧ x ≤ 255 := by
  simp [Lit.wf, IntKind.min, IntKind.max, IntKind.bits, IntKind.signed] at h
  omega
/-! ### what is drawn -/
def Bytes (l : List Int) : Prop := ∀ x ∈ l, 0 ≤ x ∧ x ≤ 255
theorem getD_byte {l : List Int} (h : Bytes l) (i : Nat) : 0 ≤ l.getD i 0 ∧ l.getD i 0 ≤ 255 := by
  rw [List.getD_eq_getElem?_getD]
  cases e : l[i]? with
  | none => simp
  | some x => exact h x (List.mem_of_getElem? e)
/-- A source's state: it has been asked at most n times. -/
structure GS (xs : List Int) (a s : Int) (n : Nat) : Prop where
  len : xs.length ≤ 1048576
  b : Bytes xs
  a0 : 0 ≤ a
  a1 : a ≤ n
  s0 : 0 ≤ s
  s1 : s < 2147483648
theorem GS.to {xs : List Int} {a s : Int} {n n' : Nat} (h : GS xs a s n) (hn : n ≤ n') : GS xs a s n' := ⟨h.len, h.b, h.a0, by have := h.a1; omega, h.s0, h.s1⟩
theorem byte_ok (k : Nat) {xs : List Int} {a s : Int} {n : Nat} (h : GS xs a s n) (hn : n ≤ 100000) : ∃ v a' s', f182 k xs a s = some (v, xs, a', s') ∧ (0 ≤ v ∧ v ≤ 255) ∧ GS xs a' s' (n + 1) := by
  obtain ⟨h0, h1, h2, h3, h4, h5⟩ := h
  have e1 : IntKind.i64.wrap (a + 1) = a + 1 := w64 (by omega) (by omega)
  simp only [f182, f182.step, e1]
  by_cases c : a + 1 ≤ (xs.length : Int)
  · have e2 : IntKind.i64.wrap (a + 1 - 1) = a := by rw [w64 (by omega) (by omega)]; omega
    have hb := getD_byte h1 a.toNat
    rw [if_pos (tb c), e2, if_pos (by omega), if_pos (by omega), if_pos (by omega), if_pos (by omega)]
    refine ⟨_, _, _, rfl, ?_, h0, h1, by omega, by omega, ?_, ?_⟩
    · rw [w64 (by omega) (by omega)]; exact hb
    · rw [w64 (n := xs.getD a.toNat 0) (by omega) (by omega), w64 (n := s * 31) (by omega) (by omega), w64 (n := s * 31 + _) (by omega) (by omega), w64 (by omega) (by omega), Int.tmod_eq_emod_of_nonneg (by omega)]
      omega
    · rw [w64 (n := xs.getD a.toNat 0) (by omega) (by omega), w64 (n := s * 31) (by omega) (by omega), w64 (n := s * 31 + _) (by omega) (by omega), w64 (by omega) (by omega), Int.tmod_eq_emod_of_nonneg (by omega)]
      omega
  · rw [if_neg (fb c)]
    by_cases c2 : a + 1 > 3000
    · rw [if_pos (tb c2)]
      exact ⟨_, _, _, rfl, by omega, h0, h1, by omega, by omega, h4, h5⟩
    · rw [if_neg (fb c2)]
      have e3 : IntKind.i64.wrap (s * 1103515245) = s * 1103515245 := w64 (by omega) (by omega)
      have e4 : IntKind.i64.wrap (s * 1103515245 + 12345) = s * 1103515245 + 12345 := w64 (by omega) (by omega)
      have e5 : Int.tmod (s * 1103515245 + 12345) 2147483648 = (s * 1103515245 + 12345) % 2147483648 := Int.tmod_eq_emod_of_nonneg (by omega)
      rw [e3, e4, e5]
      have h6 : 0 ≤ (s * 1103515245 + 12345) % 2147483648 ∧ (s * 1103515245 + 12345) % 2147483648 < 2147483648 := by omega
      generalize (s * 1103515245 + 12345) % 2147483648 = z at h6
      have e6 : Int.tdiv z 65536 = z / 65536 := Int.tdiv_eq_ediv_of_nonneg h6.1
      rw [e6, w64 (by omega) (by omega), Int.tmod_eq_emod_of_nonneg (by omega)]
      exact ⟨_, _, _, rfl, by omega, h0, h1, by omega, by omega, h6.1, h6.2⟩
theorem next_ok (k : Nat) {xs : List Int} {a s : Int} {n : Nat} (h : GS xs a s n) (hn : n ≤ 90000) {N : Int} (h1 : 1 ≤ N) (h2 : N ≤ 65536) : ∃ v a' s', f145 k xs a s N = some (v, xs, a', s') ∧ (0 ≤ v ∧ v < N) ∧ GS xs a' s' (n + 3) := by
  simp only [f145, f145.step]
  by_cases c : N ≤ 1
  · rw [if_pos (tb c)]
    exact ⟨_, _, _, rfl, by omega, h.to (by omega)⟩
  · rw [if_neg (fb c)]
    by_cases c2 : N ≤ 256
    · obtain ⟨v, a', s', e, hv, g⟩ := byte_ok k h (by omega)
      rw [if_pos (tb c2), e]
      simp only [Option.bind_some]
      rw [if_pos (by omega), Int.tmod_eq_emod_of_nonneg hv.1]
      exact ⟨_, _, _, rfl, ⟨Int.emod_nonneg _ (by omega), Int.emod_lt_of_pos _ (by omega)⟩, g.to (by omega)⟩
    · obtain ⟨v1, a1, s1, e1, hv1, g1⟩ := byte_ok k h (by omega)
      obtain ⟨v2, a2, s2, e2, hv2, g2⟩ := byte_ok k g1 (by omega)
      obtain ⟨v3, a3, s3, e3, hv3, g3⟩ := byte_ok k g2 (by omega)
      rw [if_neg (fb c2), e1]
      simp only [Option.bind_some, e2, e3]
      rw [if_pos (by omega), w64 (n := v1 * 65536) (by omega) (by omega), w64 (n := v2 * 256) (by omega) (by omega), w64 (n := v1 * 65536 + v2 * 256) (by omega) (by omega), w64 (by omega) (by omega), Int.tmod_eq_emod_of_nonneg (by omega)]
      exact ⟨_, _, _, rfl, ⟨Int.emod_nonneg _ (by omega), Int.emod_lt_of_pos _ (by omega)⟩, g3⟩
theorem six_loop (k : Nat) : ∀ (d j n : Nat) (i : Int) (xs : List Int) (a s : Int) (out : List Int), i ≤ d → 0 ≤ i → d < j → GS xs a s n → n + 6 * d ≤ 80000 → out.length = 16 → ∃ a' s' out', f164.l5 k j i xs a s out = some (xs, a', s', out') ∧ GS xs a' s' (n + 6 * d) := by
  intro d
  induction d with
  | zero =>
    intro j n i xs a s out hi h0 hj g hn ho
    obtain ⟨j, rfl⟩ : ∃ j', j = j' + 1 := ⟨j - 1, by omega⟩
    simp only [f164.l5, f164.l5.step]
    rw [if_neg (fb (by omega))]
    exact ⟨_, _, _, rfl, g.to (by omega)⟩
  | succ d ih =>
    intro j n i xs a s out hi h0 hj g hn ho
    obtain ⟨j, rfl⟩ : ∃ j', j = j' + 1 := ⟨j - 1, by omega⟩
    simp only [f164.l5, f164.l5.step]
    by_cases c : i > 0
    · obtain ⟨v1, a1, s1, e1, hv1, g1⟩ := next_ok k g (by omega) (N := 16) (by omega) (by omega)
      obtain ⟨v2, a2, s2, e2, hv2, g2⟩ := next_ok k g1 (by omega) (N := 256) (by omega) (by omega)
      rw [if_pos (tb c), e1]
      simp only [Option.bind_some, e2]
      rw [if_pos (by omega), if_pos (by omega), w64 (by omega) (by omega)]
      obtain ⟨a', s', out', e, g'⟩ := ih j (n + 6) (i - 1) xs a2 s2 (out.set v1.toNat (IntKind.u8.wrap v2)) (by omega) (by omega) (by omega) (g2.to (by omega)) (by omega) (by simpa using ho)
      exact ⟨a', s', out', e, g'.to (by omega)⟩
    · rw [if_neg (fb c)]
      exact ⟨_, _, _, rfl, g.to (by omega)⟩
theorem addr6_ok {k : Nat} (hK : 2097152 ≤ k) {xs : List Int} {a s : Int} {n : Nat} (g : GS xs a s n) (hn : n ≤ 70000) : ∃ t a' s', f164 k xs a s = some (t, xs, a', s') ∧ GS xs a' s' (n + 30) := by
  obtain ⟨v1, a1, s1, e1, hv1, g1⟩ := next_ok k g (by omega) (N := 2) (by omega) (by omega)
  obtain ⟨v2, a2, s2, e2, hv2, g2⟩ := next_ok k g1 (by omega) (N := 4) (by omega) (by omega)
  obtain ⟨a', s', out', e, g'⟩ := six_loop k 4 k (n + 6) v2 xs a2 s2 (List.set (List.set (List.replicate 16 0) 0 32) 1 (IntKind.u8.wrap v1)) (by omega) hv2.1 (by omega) g2 (by omega) (by simp)
  simp only [f164, f164.step, e1, Option.bind_some, e2]
  rw [if_pos (by decide), if_pos (by decide), e]
  exact ⟨_, _, _, rfl, g'.to (by omega)⟩
theorem bytes_loop (k : Nat) : ∀ (d j n : Nat) (i : Int) (xs : List Int) (a s : Int) (out : List Int), i ≤ d → 0 ≤ i → d < j → GS xs a s n → n + 3 * d ≤ 80000 → out.length + d ≤ 1000 → ∃ a' s' out', f165.l3 k j i xs a s out = some (xs, a', s', out') ∧ GS xs a' s' (n + 3 * d) ∧ out'.length ≤ out.length + d := by
  intro d
  induction d with
  | zero =>
    intro j n i xs a s out hi h0 hj g hn ho
    obtain ⟨j, rfl⟩ : ∃ j', j = j' + 1 := ⟨j - 1, by omega⟩
    simp only [f165.l3, f165.l3.step]
    rw [if_neg (fb (by omega))]
    exact ⟨_, _, _, rfl, g.to (by omega), by omega⟩
  | succ d ih =>
    intro j n i xs a s out hi h0 hj g hn ho
    obtain ⟨j, rfl⟩ : ∃ j', j = j' + 1 := ⟨j - 1, by omega⟩
    simp only [f165.l3, f165.l3.step]
    by_cases c : i > 0
    · obtain ⟨v1, a1, s1, e1, hv1, g1⟩ := next_ok k g (by omega) (N := 256) (by omega) (by omega)
      rw [if_pos (tb c), e1]
      simp only [Option.bind_some]
      rw [if_pos (by simp [maxN]; omega), w64 (by omega) (by omega)]
      obtain ⟨a', s', out', e, g', hl⟩ := ih j (n + 3) (i - 1) xs a1 s1 (out ++ [IntKind.u8.wrap v1]) (by omega) (by omega) (by omega) g1 (by omega) (by simp; omega)
      exact ⟨a', s', out', e, g'.to (by omega), by simp at hl; omega⟩
    · rw [if_neg (fb c)]
      exact ⟨_, _, _, rfl, g.to (by omega), by omega⟩
theorem bytes_ok {k : Nat} (hK : 2097152 ≤ k) {xs : List Int} {a s : Int} {n : Nat} (g : GS xs a s n) (hn : n ≤ 70000) : ∃ t a' s', f165 k xs a s 40 = some (t, xs, a', s') ∧ GS xs a' s' (n + 130) ∧ t.length ≤ 40 := by
  have hw : IntKind.i64.wrap (40 + 1) = 41 := w64 (by omega) (by omega)
  obtain ⟨v1, a1, s1, e1, hv1, g1⟩ := next_ok k g (by omega) (N := 41) (by omega) (by omega)
  obtain ⟨a', s', out', e, g', hl⟩ := bytes_loop k 40 k (n + 3) v1 xs a1 s1 [] (by omega) hv1.1 (by omega) g1 (by omega) (by simp)
  simp only [f165, f165.step, hw, e1, Option.bind_some, e]
  exact ⟨_, _, _, rfl, g'.to (by omega), by simpa using hl⟩
theorem chance_ok (k : Nat) {xs : List Int} {a s : Int} {n : Nat} (g : GS xs a s n) (hn : n ≤ 70000) {N : Int} (h1 : 1 ≤ N) (h2 : N ≤ 65536) : ∃ t a' s', f166 k xs a s N = some (t, xs, a', s') ∧ GS xs a' s' (n + 3) := by
  obtain ⟨v1, a1, s1, e1, hv1, g1⟩ := next_ok k g (by omega) h1 h2
  simp only [f166, f166.step, e1, Option.bind_some]
  exact ⟨_, _, _, rfl, g1⟩
theorem addr4_ok (k : Nat) {xs : List Int} {a s : Int} {n : Nat} (g : GS xs a s n) (hn : n ≤ 70000) : ∃ t a' s', f167 k xs a s = some (t, xs, a', s') ∧ GS xs a' s' (n + 9) := by
  obtain ⟨v1, a1, s1, e1, hv1, g1⟩ := next_ok k g (by omega) (N := 3) (by omega) (by omega)
  obtain ⟨v2, a2, s2, e2, hv2, g2⟩ := next_ok k g1 (by omega) (N := 2) (by omega) (by omega)
  obtain ⟨v3, a3, s3, e3, hv3, g3⟩ := next_ok k g2 (by omega) (N := 4) (by omega) (by omega)
  simp only [f167, f167.step, e1, Option.bind_some, e2, e3]
  exact ⟨_, _, _, rfl, g3⟩
/-- A drawn packet: what is known of it. -/
def PK (xs : List Int) (n : Nat) (t : Int × ByteArray × ByteArray × Int × Int × Int × Int × Bool × Bool × List Int × List Int × Int × Int) : Prop :=
  (0 ≤ t.2.2.2.1 ∧ t.2.2.2.1 ≤ 255) ∧ (0 ≤ t.2.2.2.2.1 ∧ t.2.2.2.2.1 ≤ 255) ∧ t.2.2.2.2.2.2.2.2.2.1.length ≤ 1440 ∧ t.2.2.2.2.2.2.2.2.2.2.1 = xs ∧ GS xs t.2.2.2.2.2.2.2.2.2.2.2.1 t.2.2.2.2.2.2.2.2.2.2.2.2 n
theorem packet_ok {k : Nat} (hK : 2097152 ≤ k) {xs : List Int} {a s : Int} {n : Nat} (g : GS xs a s n) (hn : n ≤ 60000) : ∃ t, f123 k xs a s = some t ∧ PK xs (n + 300) t := by
  obtain ⟨u1, a1, s1, e1, g1⟩ := addr6_ok hK g (by omega)
  obtain ⟨u2, a2, s2, e2, g2⟩ := addr6_ok hK g1 (by omega)
  obtain ⟨v3, a3, s3, e3, hv3, g3⟩ := next_ok k g2 (by omega) (N := 4) (by omega) (by omega)
  obtain ⟨v4, a4, s4, e4, hv4, g4⟩ := next_ok k g3 (by omega) (N := 256) (by omega) (by omega)
  obtain ⟨d, a5, s5, e5, g5, hd⟩ := bytes_ok hK g4 (by omega)
  obtain ⟨b6, a6, s6, e6, g6⟩ := chance_ok k g5 (by omega) (N := 3) (by omega) (by omega)
  have hhop : 0 ≤ List.getD ([64, 1, 0, 255] : List Int) v3.toNat 0 ∧ List.getD ([64, 1, 0, 255] : List Int) v3.toNat 0 ≤ 255 := getD_byte (by intro x hx; simp at hx; omega) _
  simp only [f123, f123.step, e1, Option.bind_some, e2, e3, e4, e5, e6]
  rw [if_pos hv3.1, if_pos (by simpa using hv3.2)]
  -- the rest, once the data are known
  have rest : ∀ (d : List Int) (a7 s7 : Int), d.length ≤ 1440 → GS xs a7 s7 (n + 240) → ∃ t, ((f166 k xs a7 s7 2).bind fun t17 => if t17.1 = true then
      (f167 k t17.2.1 t17.2.2.1 t17.2.2.2).bind fun t18 => (f167 k t18.2.1 t18.2.2.1 t18.2.2.2).bind fun t19 => (f145 k t19.2.1 t19.2.2.1 t19.2.2.2 65536).bind fun t20 => (f145 k t20.2.1 t20.2.2.1 t20.2.2.2 4).bind fun t21 => if decide (t21.1 = 0) = true then
        some ((4 : Int), t18.1, t19.1, (List.getD ([64, 1, 0, 255] : List Int) v3.toNat 0), v4, t20.1, (0 : Int), false, true, d, t21.2.1, t21.2.2.1, t21.2.2.2)
      else if decide (t21.1 = 1) = true then
        (f145 k t21.2.1 t21.2.2.1 t21.2.2.2 20).bind fun t22 => if decide ((Int.tmod (d.length : Int) 8) = 0) = true then
          some ((4 : Int), t18.1, t19.1, (List.getD ([64, 1, 0, 255] : List Int) v3.toNat 0), v4, t20.1, t22.1, decide ((d.length : Int) > 0), false, d, t22.2.1, t22.2.2.1, t22.2.2.2)
        else some ((4 : Int), t18.1, t19.1, (List.getD ([64, 1, 0, 255] : List Int) v3.toNat 0), v4, t20.1, t22.1, false, false, d, t22.2.1, t22.2.2.1, t22.2.2.2)
      else some ((4 : Int), t18.1, t19.1, (List.getD ([64, 1, 0, 255] : List Int) v3.toNat 0), v4, t20.1, (0 : Int), false, false, d, t21.2.1, t21.2.2.1, t21.2.2.2)
    else some ((6 : Int), u1, u2, (List.getD ([64, 1, 0, 255] : List Int) v3.toNat 0), v4, (0 : Int), (0 : Int), false, false, d, t17.2.1, t17.2.2.1, t17.2.2.2)) = some t ∧ PK xs (n + 300) t := fun d a7 s7 hd g7 => by
    have hv4' : 0 ≤ v4 ∧ v4 ≤ 255 := by omega
    obtain ⟨b8, a8, s8, e8, g8⟩ := chance_ok k g7 (by omega) (N := 2) (by omega) (by omega)
    obtain ⟨u9, a9, s9, e9, g9⟩ := addr4_ok k g8 (by omega)
    obtain ⟨u10, a10, s10, e10, g10⟩ := addr4_ok k g9 (by omega)
    obtain ⟨v11, a11, s11, e11, hv11, g11⟩ := next_ok k g10 (by omega) (N := 65536) (by omega) (by omega)
    obtain ⟨v12, a12, s12, e12, hv12, g12⟩ := next_ok k g11 (by omega) (N := 4) (by omega) (by omega)
    obtain ⟨v13, a13, s13, e13, hv13, g13⟩ := next_ok k g12 (by omega) (N := 20) (by omega) (by omega)
    simp only [e8, Option.bind_some, e9, e10, e11, e12, e13]
    split
    · split
      · exact ⟨_, rfl, hhop, hv4', hd, rfl, g12.to (by omega)⟩
      · split
        · split
          · exact ⟨_, rfl, hhop, hv4', hd, rfl, g13.to (by omega)⟩
          · exact ⟨_, rfl, hhop, hv4', hd, rfl, g13.to (by omega)⟩
        · exact ⟨_, rfl, hhop, hv4', hd, rfl, g12.to (by omega)⟩
    · exact ⟨_, rfl, hhop, hv4', hd, rfl, g8.to (by omega)⟩
  split
  · obtain ⟨v7, a7, s7, e7, hv7, g7⟩ := next_ok k g6 (by omega) (N := 1400) (by omega) (by omega)
    simp only [e7, Option.bind_some]
    rw [if_pos hv7.1, if_pos (by simp [maxN]; omega)]
    exact rest _ _ _ (by simp; omega) (g7.to (by omega))
  · exact rest _ _ _ (by omega) (g6.to (by omega))
set_option maxRecDepth 4000 in
theorem four_loop {k : Nat} (hK : 2097152 ≤ k) : ∀ (d j n : Nat) (i : Int) (xs : List Int) (a s : Int), i + d = 8 → d < j → GS xs a s n → n + 300 * d ≤ 50000 →
    (∃ t, f144.l2 k j i xs a s 0 ByteArray.empty ByteArray.empty 0 0 0 0 false false = some (.inl t) ∧ t.2.2.2.1 = 4 ∧ (0 ≤ t.2.2.2.2.2.2.1 ∧ t.2.2.2.2.2.2.1 ≤ 255) ∧ (0 ≤ t.2.2.2.2.2.2.2.1 ∧ t.2.2.2.2.2.2.2.1 ≤ 255) ∧ t.2.2.2.2.2.2.2.2.2.2.2.2.length ≤ 1440 ∧ t.1 = xs ∧ GS xs t.2.1 t.2.2.1 (n + 300 * d)) ∨
    (∃ t, f144.l2 k j i xs a s 0 ByteArray.empty ByteArray.empty 0 0 0 0 false false = some (.inr t) ∧ t.1 = xs ∧ GS xs t.2.1 t.2.2.1 (n + 300 * d)) := by
  intro d
  induction d with
  | zero =>
    intro j n i xs a s hi hj g hn
    obtain ⟨j, rfl⟩ : ∃ j', j = j' + 1 := ⟨j - 1, by omega⟩
    simp only [f144.l2, f144.l2.step]
    rw [if_neg (fb (by omega))]
    exact .inr ⟨_, rfl, rfl, g⟩
  | succ d ih =>
    intro j n i xs a s hi hj g hn
    obtain ⟨j, rfl⟩ : ∃ j', j = j' + 1 := ⟨j - 1, by omega⟩
    obtain ⟨t, e, h1, h2, h3, h4, h5⟩ := packet_ok hK g (by omega)
    obtain ⟨t1, t2, t3, t4, t5, t6, t7, t8, t9, t10, t11, t12, t13⟩ := t
    simp only at h1 h2 h3 h4 h5
    subst h4
    simp only [f144.l2, f144.l2.step, e, Option.bind_some]
    rw [if_pos (tb (by omega))]
    by_cases c : t1 = 4
    · rw [if_pos (tb c)]
      exact .inl ⟨_, rfl, c, h1, h2, h3, rfl, h5.to (by omega)⟩
    · rw [if_neg (fb c), w64 (by omega) (by omega)]
      rcases ih j (n + 300) (i + 1) t11 t12 t13 (by omega) (by omega) h5 (by omega) with ⟨t, e1, e2, e3, e4, e5, e6, e7⟩ | ⟨t, e1, e2, e3⟩
      · exact .inl ⟨t, e1, e2, e3, e4, e5, e6, e7.to (by omega)⟩
      · exact .inr ⟨t, e1, e2, e3.to (by omega)⟩
def SA : ByteArray := ⟨#[10, 0, 0, 1]⟩
def SB : ByteArray := ⟨#[10, 0, 0, 2]⟩
/-- The drawn packet of version 4. -/
theorem whole_ok {k : Nat} (hK : 2097152 ≤ k) {xs : List Int} (hb : Bytes xs) (hl : xs.length ≤ 1048576) :
    (∃ hop proto id d, f15 k xs = some (.inl (4, SA, SB, hop, proto, id, 0, false, false, d)) ∧ (0 ≤ hop ∧ hop ≤ 255) ∧ (0 ≤ proto ∧ proto ≤ 255) ∧ (0 ≤ id ∧ id < 4) ∧ d.length ≤ 1440) ∨
    (∃ id, f15 k xs = some (.inr (4, SA, SB, 0, 0, id, 0, false, false)) ∧ (0 ≤ id ∧ id < 4)) := by
  have g : GS xs 0 (Int.tmod (xs.length : Int) 1000) 0 := by
    rw [Int.tmod_eq_emod_of_nonneg (by omega)]
    exact ⟨hl, hb, by omega, by omega, by omega, by omega⟩
  simp only [f15, f15.step, f81, f81.step, Option.bind_some, f82, f82.step, f144, f144.step]
  rcases four_loop hK 8 k 0 0 xs 0 _ (by omega) (by omega) g (by omega) with ⟨t, e1, e2, e3, e4, e5, e6, e7⟩ | ⟨t, e1, e2, e3⟩
  · obtain ⟨t1, t2, t3, t4, t5, t6, t7, t8, t9, t10, t11, t12, t13⟩ := t
    simp only at e2 e3 e4 e5 e6 e7
    subst e6
    subst e2
    obtain ⟨v, a', s', e, hv, _⟩ := next_ok k e7 (by omega) (N := 4) (by omega) (by omega)
    rw [e1]
    simp only [Option.bind_some, Sum.elim_inl, e]
    exact .inl ⟨t7, t8, v, t13, rfl, e3, e4, hv, e5⟩
  · obtain ⟨t1, t2, t3, t4, t5, t6, t7, t8, t9, t10, t11, t12⟩ := t
    simp only at e2 e3
    subst e2
    obtain ⟨v, a', s', e, hv, _⟩ := next_ok k e3 (by omega) (N := 4) (by omega) (by omega)
    rw [e1]
    simp only [Option.bind_some, Sum.elim_inr, e]
    exact .inr ⟨v, rfl, hv⟩
theorem at_ok (k : Nat) {xs : List Int} (hb : Bytes xs) (hl : xs.length ≤ 1048576) : ∃ v, f16 k xs 0 1400 = some v ∧ 0 ≤ v ∧ v < 1400 := by
  simp only [f16, f16.step]
  rw [if_neg (fb (by omega))]
  by_cases c : (xs.length : Int) = 0
  · rw [if_pos (tb c), if_pos (by omega), w64 (by omega) (by omega)]
    exact ⟨_, rfl, by decide, by decide⟩
  · have e1 : Int.tmod 0 (xs.length : Int) = 0 := Int.zero_tmod _
    have e2 : Int.tmod (IntKind.i64.wrap (0 + 1)) (xs.length : Int) = 1 % (xs.length : Int) := by
      rw [w64 (by omega) (by omega), Int.tmod_eq_emod_of_nonneg (by omega)]; rfl
    have e3 : Int.tdiv 0 (xs.length : Int) = 0 := Int.zero_tdiv _
    have h1 : 0 ≤ 1 % (xs.length : Int) ∧ 1 % (xs.length : Int) < xs.length := ⟨Int.emod_nonneg _ c, Int.emod_lt_of_pos _ (by omega)⟩
    rw [if_neg (fb c), e1, e2, e3, if_pos c, if_pos (by omega), if_pos (by omega), if_pos c, if_pos h1.1, if_pos h1.2, if_pos c, if_pos (by omega)]
    have b0 := getD_byte hb (Int.toNat 0)
    have b1 := getD_byte hb (Int.toNat (1 % (xs.length : Int)))
    rw [w64 (n := xs.getD (Int.toNat 0) 0) (by omega) (by omega), w64 (n := xs.getD (Int.toNat (1 % (xs.length : Int))) 0) (by omega) (by omega), w64 (n := _ * 31) (by omega) (by omega), w64 (n := _ * 31 + _) (by omega) (by omega), w64 (n := (0 : Int)) (by omega) (by omega), w64 (by omega) (by omega), Int.tmod_eq_emod_of_nonneg (by omega)]
    exact ⟨_, rfl, by omega, by omega⟩
/-! ### pieces -/
section
variable (hop proto id : Int)
/-- A piece. -/
def pc (at_ : Nat) (more : Bool) (d : List Int) : S24 := ⟨4, SA, SB, hop, proto, id, ((at_ / 8 : Nat) : Int), more, false, d⟩
/-- The pieces from byte 'at' on. -/
def cut (room m8 : Nat) : Nat → Nat → List Int → List S24
  | 0, at_, d => [pc hop proto id at_ false d]
  | f + 1, at_, d => if room < d.length then pc hop proto id at_ true (d.take m8) :: cut room m8 f (at_ + m8) (d.drop m8) else [pc hop proto id at_ false d]
end
theorem cut_pos (hop proto id : Int) (room m8 : Nat) : ∀ (f at_ : Nat) (d : List Int), 0 < (cut hop proto id room m8 f at_ d).length
  | 0, _, _ => by simp [cut]
  | f + 1, at_, d => by simp only [cut]; split <;> simp
theorem cut_len (hop proto id : Int) (room m8 : Nat) (h8 : 1 ≤ m8) (hm : m8 ≤ room) : ∀ (f at_ : Nat) (d : List Int), (cut hop proto id room m8 f at_ d).length ≤ d.length + 1
  | 0, _, _ => by simp [cut]
  | f + 1, at_, d => by
    simp only [cut]
    split
    · have := cut_len hop proto id room m8 h8 hm f (at_ + m8) (d.drop m8)
      simp only [List.length_cons, List.length_drop] at this ⊢
      omega
    · simp
theorem impl_cut (k : Nat) (hop proto id : Int) (data : List Int) {room m8 : Nat} (h8 : 8 ≤ m8) (hd8 : m8 % 8 = 0) (hm : m8 ≤ room) (hr : room ≤ 2000) : ∀ (f j at_ : Nat) (d : List Int) (acc : List S24), d.length ≤ f → f < j → acc.length ≤ at_ → at_ + d.length ≤ 2000 → at_ % 8 = 0 →
    ∃ (d' : List Int) (o' : Int) (acc' : List S24), f84.l5 k j room m8 d ((at_ / 8 : Nat) : Int) 4 SA SB hop proto id 0 false false data acc = some (d', o', 4, SA, SB, hop, proto, id, 0, false, false, data, acc') ∧
      acc' ++ [(⟨4, SA, SB, hop, proto, id, o', false, false, d'⟩ : S24)] = acc ++ cut hop proto id room m8 f at_ d ∧ d'.length ≤ 2000 ∧ acc'.length ≤ 2000 := by
  intro f
  induction f with
  | zero =>
    intro j at_ d acc hf hj ha hl h0
    obtain ⟨j, rfl⟩ : ∃ j', j = j' + 1 := ⟨j - 1, by omega⟩
    simp only [f84.l5, f84.l5.step]
    rw [if_neg (fb (by omega))]
    exact ⟨_, _, _, rfl, rfl, by omega, by omega⟩
  | succ f ih =>
    intro j at_ d acc hf hj ha hl h0
    obtain ⟨j, rfl⟩ : ∃ j', j = j' + 1 := ⟨j - 1, by omega⟩
    by_cases c : room < d.length
    · have e1 : IntKind.i64.wrap (Int.tdiv (m8 : Int) 8) = ((m8 / 8 : Nat) : Int) := by rw [Int.tdiv_eq_ediv_of_nonneg (by omega), w64 (by omega) (by omega)]; omega
      have e2 : IntKind.i64.wrap (((at_ / 8 : Nat) : Int) + ((m8 / 8 : Nat) : Int)) = (((at_ + m8) / 8 : Nat) : Int) := by rw [w64 (by omega) (by omega)]; omega
      simp only [f84.l5, f84.l5.step, e1, e2, List.drop_zero, List.nil_append, Int.toNat_natCast, List.take_length]
      rw [if_pos (tb (by omega)), if_pos (by omega), if_pos (by omega), if_pos (by simp [maxN]; omega), if_pos (by simp [maxN]; omega), if_pos (by omega), if_pos (by omega), if_pos (by omega)]
      obtain ⟨d', o', acc', g1, g2, g3, g4⟩ := ih j (at_ + m8) (d.drop m8) (acc ++ [pc hop proto id at_ true (d.take m8)]) (by simp; omega) (by omega) (by simp; omega) (by simp; omega) (by omega)
      refine ⟨d', o', acc', g1, ?_, g3, g4⟩
      rw [g2]
      simp only [cut, if_pos c, List.append_assoc, List.singleton_append]
    · simp only [f84.l5, f84.l5.step]
      rw [if_neg (fb (by omega))]
      refine ⟨_, _, _, rfl, ?_, by omega, by omega⟩
      simp only [cut, if_neg c]
      rfl
theorem spec_cut (k : Nat) (hop proto id : Int) (data : List Int) {room m8 : Nat} (h8 : 8 ≤ m8) (hd8 : m8 % 8 = 0) (hm : m8 ≤ room) (hr : room ≤ 2000) : ∀ (f j at_ : Nat) (acc : List S24), data.length - at_ ≤ f → at_ < data.length → f + 1 < j → acc.length ≤ at_ → data.length ≤ 2000 → at_ % 8 = 0 →
    f87.l6 k j ((room : Int) + 20) m8 at_ 4 SA SB hop proto id 0 false false data acc = some (acc ++ cut hop proto id room m8 f at_ (data.drop at_)) := by
  intro f
  induction f with
  | zero => intro j at_ acc hf h1; omega
  | succ f ih =>
    intro j at_ acc hf h1 hj ha hl h0
    obtain ⟨j, rfl⟩ : ∃ j', j = j' + 1 := ⟨j - 1, by omega⟩
    have e1 : IntKind.i64.wrap ((data.length : Int) - (at_ : Int)) = ((data.length - at_ : Nat) : Int) := by rw [w64 (by omega) (by omega)]; omega
    have e2 : IntKind.i64.wrap ((room : Int) + 20 - 20) = (room : Int) := by rw [w64 (by omega) (by omega)]; omega
    have e3 : IntKind.i64.wrap (Int.tdiv (at_ : Int) 8) = ((at_ / 8 : Nat) : Int) := by rw [Int.tdiv_eq_ediv_of_nonneg (by omega), w64 (by omega) (by omega)]; omega
    have e4 : IntKind.i64.wrap (0 + ((at_ / 8 : Nat) : Int)) = ((at_ / 8 : Nat) : Int) := by rw [w64 (by omega) (by omega)]; omega
    have hdl : (data.drop at_).length = data.length - at_ := List.length_drop
    simp only [f87.l6, f87.l6.step, e1, e2, e3, e4, List.nil_append, Int.toNat_natCast, List.take_length]
    rw [if_pos (tb (by omega))]
    by_cases c : data.length - at_ ≤ room
    · have e5 : IntKind.i64.wrap ((at_ : Int) + ((data.length - at_ : Nat) : Int)) = (data.length : Int) := by rw [w64 (by omega) (by omega)]; omega
      rw [if_pos (tb (by omega)), if_pos (by omega), if_pos (by omega), if_pos (by omega), if_pos (by simp [maxN]; omega), if_pos trivial, if_pos (by simp [maxN]; omega), e5]
      obtain ⟨j, rfl⟩ : ∃ j', j = j' + 1 := ⟨j - 1, by omega⟩
      simp only [f87.l6, f87.l6.step]
      rw [if_neg (fb (by omega))]
      simp only [cut]
      rw [if_neg (by rw [hdl]; omega)]
      simp [pc]
    · have e5 : IntKind.i64.wrap ((at_ : Int) + (m8 : Int)) = ((at_ + m8 : Nat) : Int) := by rw [w64 (by omega) (by omega)]; omega
      have e6 : (if (data.length : Int) < ((at_ + m8 : Nat) : Int) then (data.length : Int) else ((at_ + m8 : Nat) : Int)) = ((at_ + m8 : Nat) : Int) := by rw [if_neg (by omega)]
      have e7 : List.drop at_ (List.take (at_ + m8) data) = (data.drop at_).take m8 := by rw [List.drop_take]; congr 1; omega
      rw [if_neg (fb (by omega))]
      simp only [e5, e6, Int.toNat_natCast, e7]
      rw [if_pos (by omega), if_pos (by omega), if_pos (by omega), if_pos (by simp [maxN]; omega), if_pos trivial, if_pos (by simp [maxN]; omega)]
      have hih := ih j (at_ + m8) (acc ++ [pc hop proto id at_ true ((data.drop at_).take m8)]) (by omega) (by omega) (by omega) (by simp; omega) hl (by omega)
      have e8 : decide (((at_ + m8 : Nat) : Int) < (data.length : Int)) = true := tb (by omega)
      rw [e8]
      refine Eq.trans hih ?_
      simp only [cut]
      rw [if_pos (by rw [hdl]; omega)]
      simp [List.drop_drop, Nat.add_comm]
theorem same_self (k : Nat) (a1 : Int) (s2 s3 : ByteArray) (a4 a5 a6 a7 : Int) (b8 b9 : Bool) (xs : List Int) : f19 k a1 s2 s3 a4 a5 a6 a7 b8 b9 xs a1 s2 s3 a4 a5 a6 a7 b8 b9 xs = some true := by
  simp [f19, f19.step]
theorem pc_ok (k : Nat) {hop proto id o : Int} {more : Bool} {d : List Int} (h1 : 0 ≤ hop ∧ hop ≤ 255) (h2 : 0 ≤ proto ∧ proto ≤ 255) (h3 : 0 ≤ id ∧ id < 4) (h4 : 0 ≤ o ∧ o ≤ 1000) (hd : d.length ≤ 1500) (hm : more = true → d.length % 8 = 0 ∧ 0 < d.length) : f20 k 4 SA SB hop proto id o more false d = some true := by
  have sa : ((SA.size : Nat) : Int) = 4 := by decide
  have sb : ((SB.size : Nat) : Int) = 4 := by decide
  have g1 : decide (0 ≤ hop ∧ hop ≤ 255) = true := tb h1
  have g2 : decide (0 ≤ proto ∧ proto ≤ 255) = true := tb h2
  have g3 : decide (0 ≤ id ∧ id ≤ 65535) = true := tb (by omega)
  have g4 : decide (0 ≤ o ∧ o ≤ 8191) = true := tb (by omega)
  have g5 : decide ((d.length : Int) > 1500) = false := ff (by omega)
  have g6 : decide (IntKind.i64.wrap (IntKind.i64.wrap (8 * o) + (d.length : Int)) ≤ 65515) = true := by rw [w64 (n := 8 * o) (by omega) (by omega), w64 (by omega) (by omega)]; exact tb (by omega)
  simp only [f20, f20.step, impl_in, Option.bind_some, sa, sb, g1, g2, g3, g4, g5, g6]
  cases more with
  | false => simp
  | true =>
    have := hm rfl
    have g7 : decide ((d.length : Int) = 0) = false := ff (by omega)
    have g8 : decide (Int.tmod (d.length : Int) 8 ≠ 0) = false := by rw [Int.tmod_eq_emod_of_nonneg (by omega)]; exact ff (by omega)
    simp only [g7, g8]
    simp
theorem law_step (k j : Nat) {hop proto id : Int} {at_ room : Nat} {more : Bool} {d : List Int} (data : List Int) (h1 : 0 ≤ hop ∧ hop ≤ 255) (h2 : 0 ≤ proto ∧ proto ≤ 255) (h3 : 0 ≤ id ∧ id < 4) (h4 : at_ ≤ 8000) (h8 : at_ % 8 = 0) (hd : d.length ≤ 1500) (hr : d.length ≤ room) (hr2 : room ≤ 2000) (hm : more = true → d.length % 8 = 0 ∧ 0 < d.length)
    {L pre rest : List S24} (hL : L = pre ++ pc hop proto id at_ more d :: rest) (hmr : more = decide (0 < rest.length)) (hlen : L.length ≤ 10000) {all : List Int} (hall : all.length = at_) (mtu : Int) (hmtu : mtu = (room : Int) + 20) :
    f3.l11 k (j + 1) mtu (pre.length : Int) data 4 SA SB hop proto id 0 false false L L all = f3.l11 k j mtu ((pre.length + 1 : Nat) : Int) data 4 SA SB hop proto id 0 false false L L (all ++ d) := by
  have hlt : pre.length < L.length := by rw [hL]; simp
  have e : ∀ x, L.getD (Int.toNat (pre.length : Int)) x = pc hop proto id at_ more d := by intro x; rw [gd _ _ _ hlt]; subst hL; simp
  have hll : L.length = pre.length + 1 + rest.length := by rw [hL]; simp; omega
  have hw : IntKind.i64.wrap (8 * ((at_ / 8 : Nat) : Int)) = (all.length : Int) := by rw [w64 (by omega) (by omega)]; omega
  simp only [f3.l11, f3.l11.step]
  rw [if_pos (tb (by omega)), if_pos (by omega), if_pos (by omega), if_pos (by omega), if_pos (by omega)]
  simp only [e]
  simp only [pc, same_self, Option.bind_some]
  rw [if_pos (show (!true) = false from rfl), pc_ok k h1 h2 h3 (by omega) hd hm]
  simp only [Option.bind_some]
  rw [if_pos (show (!true) = false from rfl)]
  refine (if_pos (ff (fun h => h hw))).trans ?_
  rw [w64 (n := (L.length : Int) - 1) (by omega) (by omega)]
  have e2 : decide ((pre.length : Int) < (L.length : Int) - 1) = more := by rw [hmr]; congr 1; simp; omega
  rw [e2]
  refine (if_pos (by simp)).trans ?_
  have hx : IntKind.i64.wrap (20 + (d.length : Int)) = 20 + (d.length : Int) := w64 (by omega) (by omega)
  refine (if_neg (fb (by rw [hx]; omega))).trans ?_
  refine (if_pos (by simp [maxN]; omega)).trans ?_
  rw [w64 (by omega) (by omega)]
  rfl
theorem law_loop (k : Nat) {hop proto id : Int} (data : List Int) {room m8 : Nat} (h1 : 0 ≤ hop ∧ hop ≤ 255) (h2 : 0 ≤ proto ∧ proto ≤ 255) (h3 : 0 ≤ id ∧ id < 4) (h8 : 8 ≤ m8) (hd8 : m8 % 8 = 0) (hm : m8 ≤ room) (hr : room ≤ 1500) (mtu : Int) (hmtu : mtu = (room : Int) + 20) (L : List S24) (hlen : L.length ≤ 10000) :
    ∀ (f j at_ : Nat) (d all : List Int) (pre : List S24), d.length ≤ f → f + 1 < j → at_ + d.length ≤ 2000 → at_ % 8 = 0 → all.length = at_ → L = pre ++ cut hop proto id room m8 f at_ d →
    f3.l11 k j mtu (pre.length : Int) data 4 SA SB hop proto id 0 false false L L all = some (.inr (data, 4, SA, SB, hop, proto, id, 0, false, false, all ++ d)) := by
  have last : ∀ (j at_ : Nat) (d all : List Int) (pre : List S24), 1 < j → d.length ≤ room → at_ + d.length ≤ 2000 → at_ % 8 = 0 → all.length = at_ → L = pre ++ [pc hop proto id at_ false d] →
      f3.l11 k j mtu (pre.length : Int) data 4 SA SB hop proto id 0 false false L L all = some (.inr (data, 4, SA, SB, hop, proto, id, 0, false, false, all ++ d)) := by
    intro j at_ d all pre hj hdr hl h0 hall hL
    obtain ⟨j, rfl⟩ : ∃ j', j = j' + 2 := ⟨j - 2, by omega⟩
    rw [law_step k (j + 1) (more := false) data h1 h2 h3 (by omega) h0 (by omega) hdr (by omega) (by simp) hL (by simp) hlen hall mtu hmtu]
    simp only [f3.l11, f3.l11.step]
    have : L.length = pre.length + 1 := by rw [hL]; simp
    rw [if_neg (fb (by omega))]
  intro f
  induction f with
  | zero =>
    intro j at_ d all pre hf hj hl h0 hall hL
    exact last j at_ d all pre (by omega) (by omega) hl h0 hall hL
  | succ f ih =>
    intro j at_ d all pre hf hj hl h0 hall hL
    by_cases c : room < d.length
    · simp only [cut, if_pos c] at hL
      obtain ⟨j, rfl⟩ : ∃ j', j = j' + 1 := ⟨j - 1, by omega⟩
      have htl : (d.take m8).length = m8 := by simp; omega
      rw [law_step k j (more := true) data h1 h2 h3 (by omega) h0 (by omega) (by omega) (by omega) (by intro _; omega) hL (by simp [cut_pos]) hlen hall mtu hmtu]
      have := ih j (at_ + m8) (d.drop m8) (all ++ d.take m8) (pre ++ [pc hop proto id at_ true (d.take m8)]) (by simp; omega) (by omega) (by simp; omega) (by omega) (by simp; omega) (by rw [hL]; simp)
      simp only [List.length_append, List.length_singleton] at this
      rw [this, List.append_assoc, List.take_append_drop]
    · simp only [cut, if_neg c] at hL
      exact last j at_ d all pre (by omega) (by omega) hl h0 hall hL
/-- The model's pieces. -/
theorem impl_frag {k : Nat} (hK : 2097152 ≤ k) {hop proto id : Int} {data : List Int} {room m8 : Nat} (h1 : 0 ≤ hop ∧ hop ≤ 255) (h2 : 0 ≤ proto ∧ proto ≤ 255) (h3 : 0 ≤ id ∧ id < 4) (hd : data.length ≤ 1440) (hr : 8 ≤ room ∧ room ≤ 1408) (hm : m8 = room / 8 * 8) :
    f17 k 4 SA SB hop proto id 0 false false data ((room : Int) + 20) = some (.inr (cut hop proto id room m8 data.length 0 data, 0)) := by
  have g4 : decide (28 ≤ (room : Int) + 20 ∧ (room : Int) + 20 ≤ 1520) = true := tb (by omega)
  have e2 : IntKind.i64.wrap ((room : Int) + 20 - 20) = (room : Int) := by rw [w64 (by omega) (by omega)]; omega
  have e3 : IntKind.i64.wrap (IntKind.i64.wrap (Int.tdiv (room : Int) 8) * 8) = (m8 : Int) := by rw [Int.tdiv_eq_ediv_of_nonneg (by omega), w64 (n := (room : Int) / 8) (by omega) (by omega), w64 (by omega) (by omega)]; omega
  simp only [f17, f17.step, pc_ok k (o := 0) (more := false) (d := data) h1 h2 h3 (by omega) (by omega) (by simp), Option.bind_some, impl_in, g4, f84, f84.step, e2, e3]
  obtain ⟨d', o', acc', q1, q2, q3, q4⟩ := impl_cut k hop proto id data (room := room) (m8 := m8) (by omega) (by omega) (by omega) (by omega) data.length k 0 data [] (by omega) (by omega) (by simp) (by omega) (by omega)
  have q1' : f84.l5 k k room m8 data 0 4 SA SB hop proto id 0 false false data [] = some (d', o', 4, SA, SB, hop, proto, id, 0, false, false, data, acc') := q1
  simp only [List.nil_append] at q2
  rw [q1']
  simp only [Option.bind_some, List.nil_append]
  rw [if_pos (by decide), if_neg (by decide), if_neg (by decide), if_neg (by decide), if_pos (by simp [maxN]; omega), if_pos (by simp [maxN]; omega), q2]
  rfl
theorem spec_frag {k : Nat} (hK : 2097152 ≤ k) {hop proto id : Int} {data : List Int} {room m8 : Nat} (h1 : 0 ≤ hop ∧ hop ≤ 255) (h2 : 0 ≤ proto ∧ proto ≤ 255) (h3 : 0 ≤ id ∧ id < 4) (hd : data.length ≤ 1440) (hr : 8 ≤ room ∧ room ≤ 1408) (hm : m8 = room / 8 * 8) :
    f18 k 4 SA SB hop proto id 0 false false data ((room : Int) + 20) = some (cut hop proto id room m8 data.length 0 data, 0) := by
  have g1 : decide (0 ≤ hop ∧ hop ≤ 255) = true := tb h1
  have g2 : decide (0 ≤ proto ∧ proto ≤ 255) = true := tb h2
  have g3 : decide (0 ≤ id ∧ id ≤ 65535) = true := tb (by omega)
  have g5 : decide ((data.length : Int) > 1500) = false := ff (by omega)
  have g4 : decide (28 ≤ (room : Int) + 20 ∧ (room : Int) + 20 ≤ 1520) = true := tb (by omega)
  have g6 : decide (IntKind.i64.wrap (IntKind.i64.wrap (8 * 0) + (data.length : Int)) ≤ 65515) = true := by rw [w64 (n := 8 * 0) (by omega) (by omega), w64 (by omega) (by omega)]; exact tb (by omega)
  have sa : ((SA.size : Nat) : Int) = 4 := by decide
  have sb : ((SB.size : Nat) : Int) = 4 := by decide
  have ok : f85 k 4 SA SB hop proto id 0 false false data = some true := by
    simp only [f85, f85.step, spec_in, Option.bind_some, sa, sb, g1, g2, g3, g5, g6]
    simp
  have e2 : IntKind.i64.wrap ((room : Int) + 20 - 20) = (room : Int) := by rw [w64 (by omega) (by omega)]; omega
  have e3 : IntKind.i64.wrap (IntKind.i64.wrap (Int.tdiv (room : Int) 8) * 8) = (m8 : Int) := by rw [Int.tdiv_eq_ediv_of_nonneg (by omega), w64 (n := (room : Int) / 8) (by omega) (by omega), w64 (by omega) (by omega)]; omega
  have own : f146 k 4 SA SB hop proto id 0 false false data = some (4, SA, SB, hop, proto, id, 0, false, false, data) := by
    simp only [f146, f146.step]
    rw [if_pos (by simp [maxN]; omega), List.nil_append]
  simp only [f18, f18.step, ok, Option.bind_some, spec_in, g4, f87, f87.step, e2, e3, w64 (n := 20 + (data.length : Int)) (by omega) (by omega), own]
  by_cases c : data.length ≤ room
  · rw [if_pos (show (!true) = false from rfl), if_neg (by decide), if_neg (by decide), if_neg (by decide), if_pos (tb (by omega))]
    simp only [Option.bind_some]
    cases hdl : data.length with
    | zero => rfl
    | succ n => simp only [cut]; rw [if_neg (by omega)]; rfl
  · rw [if_pos (show (!true) = false from rfl), if_neg (by decide), if_neg (by decide), if_neg (by decide), if_neg (fb (by omega))]
    have := spec_cut k hop proto id data (room := room) (m8 := m8) (by omega) (by omega) (by omega) (by omega) data.length k 0 [] (by omega) (by omega) (by omega) (by simp) (by omega) (by omega)
    have q1 : f87.l6 k k ((room : Int) + 20) m8 0 4 SA SB hop proto id 0 false false data [] = some ([] ++ cut hop proto id room m8 data.length 0 (data.drop 0)) := this
    rw [q1]
    simp
theorem FnCuts : Says := by
  intro a0 a1 ⟨hl0, hb0⟩ ⟨hl1, hb1⟩
  obtain ⟨k, hK⟩ : ∃ k : Nat, 2097152 ≤ k := ⟨_, Nat.le_refl _⟩
  refine ⟨k, ?_⟩
  have b0 : Bytes a0 := fun x hx => wf_u8 (hb0 x hx)
  have b1 : Bytes a1 := fun x hx => wf_u8 (hb1 x hx)
  simp only [f3, f3.step]
  by_cases c0 : a0.length > 1048576
  · rw [if_neg (by rw [tb (by omega)]; simp)]
  rw [if_pos (ff (by omega))]
  by_cases c1 : a1.length > 1048576
  · rw [if_pos (tb (by omega))]
  rw [if_neg (fb (by omega))]
  obtain ⟨v, ev, hv0, hv1⟩ := at_ok k b1 (by omega)
  have ew : ∃ room : Nat, IntKind.i64.wrap (28 + v) = (room : Int) + 20 ∧ 8 ≤ room ∧ room ≤ 1408 := ⟨(v + 8).toNat, by rw [w64 (by omega) (by omega)]; omega, by omega, by omega⟩
  obtain ⟨room, ew, hr⟩ := ew
  rcases whole_ok hK b0 (by omega) with ⟨hop, proto, id, d, e, h1, h2, h3, hd⟩ | ⟨id, e, h3⟩
  · rw [e]
    simp only [Option.bind_some, Sum.elim_inl, ev, ew]
    rw [impl_frag hK h1 h2 h3 hd hr rfl, spec_frag hK h1 h2 h3 hd hr rfl]
    simp only [Option.bind_some, Sum.elim_inr]
    have hp := cut_pos hop proto id room (room / 8 * 8) d.length 0 d
    have hq := cut_len hop proto id room (room / 8 * 8) (by omega) (by omega) d.length 0 d
    rw [if_pos (by simp), if_pos (by simp), if_neg (fb (by omega))]
    have := law_loop k d (room := room) (m8 := room / 8 * 8) h1 h2 h3 (by omega) (by omega) (by omega) (by omega) _ rfl (cut hop proto id room (room / 8 * 8) d.length 0 d) (by omega) d.length k 0 d [] [] (by omega) (by omega) (by omega) (by omega) rfl rfl
    have q : f3.l11 k k ((room : Int) + 20) 0 d 4 SA SB hop proto id 0 false false (cut hop proto id room (room / 8 * 8) d.length 0 d) (cut hop proto id room (room / 8 * 8) d.length 0 d) [] = _ := this
    rw [q]
    simp
  · rw [e]
    simp only [Option.bind_some, Sum.elim_inr, ev, ew]
    rw [impl_frag hK (by omega) (by omega) h3 (by simp) hr rfl, spec_frag hK (by omega) (by omega) h3 (by simp) hr rfl]
    simp only [Option.bind_some, Sum.elim_inr]
    have hc : cut 0 0 id room (room / 8 * 8) ([] : List Int).length 0 [] = [pc 0 0 id 0 false []] := rfl
    rw [hc, if_pos (by simp), if_pos (by simp), if_neg (by simp)]
    obtain ⟨j, rfl⟩ : ∃ j', k = j' + 2 := ⟨k - 2, by omega⟩
    generalize hk : j + 2 = k
    have hk2 : f3.l11_1 k (j + 2) ((room : Int) + 20) 0 4 SA SB 0 0 id 0 false false [pc 0 0 id 0 false []] [pc 0 0 id 0 false []] [] = some (.inr (4, SA, SB, 0, 0, id, 0, false, false, [])) := by
      simp only [f3.l11_1, f3.l11_1.step]
      have e1 : List.getD [pc 0 0 id 0 false []] (Int.toNat 0) (⟨0, ByteArray.empty, ByteArray.empty, 0, 0, 0, 0, false, false, []⟩ : S24) = pc 0 0 id 0 false [] := rfl
      rw [if_pos (by rfl), if_pos (by omega), if_pos (by simp), if_pos (by omega), if_pos (by simp)]
      simp only [e1]
      simp only [pc, same_self, Option.bind_some]
      rw [if_pos (show (!true) = false from rfl), pc_ok k (by omega) (by omega) h3 (by omega) (by simp) (by simp)]
      simp only [Option.bind_some]
      rw [if_pos (show (!true) = false from rfl)]
      refine (if_pos (by rfl)).trans ?_
      refine (if_pos (by rfl)).trans ?_
      have hx : IntKind.i64.wrap (20 + ((([] : List Int).length : Nat) : Int)) = 20 := by decide
      refine (if_neg (fb (by rw [hx]; omega))).trans ?_
      refine (if_pos (by simp [maxN])).trans ?_
      refine (if_neg (by rw [w64 (by omega) (by omega)]; simp)).trans ?_
      rfl
    rw [hk] at hk2
    rw [hk2]
    have : strOf [] = ByteArray.empty := by rfl
    simp only [Option.bind_some, Sum.elim_inr, this, decide_true]
end Go.Proofs.Ytildepkogbcdpaa.Pure
