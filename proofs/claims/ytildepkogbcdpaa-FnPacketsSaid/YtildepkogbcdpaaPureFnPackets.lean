/- The plain law of FnPackets. -/
import Derived.Test.YtildepkogbcdpaaSaysFnPackets
namespace Go.Proofs.Ytildepkogbcdpaa.Pure
open Go Go.B Go.Proofs.Ytildepkogbcdpaa.B Go.Proofs.Ytildepkogbcdpaa.SaysFnPackets
set_option linter.unusedVariables false
set_option linter.unusedSimpArgs false
theorem w64 {n : Int} (h0 : -9223372036854775808 ≤ n) (h1 : n ≤ 9223372036854775807) : IntKind.i64.wrap n = n := by
  rw [IntKind.wrap_i64]; omega
theorem tb {c : Prop} [Decidable c] (h : c) : decide c = true := decide_eq_true h
theorem fb {c : Prop} [Decidable c] (h : ¬ c) : ¬ decide c = true := by simpa using h
theorem ff {c : Prop} [Decidable c] (h : ¬ c) : decide c = false := by simpa using h
theorem gm {α : Type} (pre rest : List α) (x d : α) : List.getD (pre ++ x :: rest) (Int.toNat (pre.length : Int)) d = x := by
  simp [List.getD_eq_getElem?_getD]
theorem lt_mid {α : Type} (pre rest : List α) (x : α) : (pre.length : Int) < ((pre ++ x :: rest).length : Int) := by simp; omega
theorem set_mid {α : Type} (pre rest : List α) (x y : α) : List.set (pre ++ x :: rest) (Int.toNat (pre.length : Int)) y = pre ++ y :: rest := by
  simp
theorem set_at {e : TypeId} (pre rest : List (env.T e)) (x y : env.T e) {off : Nat} {cs : List (Cell env.T)} (h : putCells (E := env) e x off cs = some y) : setE env e (pre ++ x :: rest) (Int.toNat (pre.length : Int)) off cs = pre ++ y :: rest := by
  have hg : List.getD (pre ++ x :: rest) (Int.toNat (pre.length : Int)) (env.dflt e) = x := gm pre rest x _
  simp only [setE, hg, h, Option.getD_some, set_mid]
theorem mid_next {α : Type} (pre rest : List α) (x : α) : pre ++ x :: rest = (pre ++ [x]) ++ rest := by simp
/-! ### bits -/
theorem ofInt_nat {n : Nat} (h : n < 9223372036854775808) : (BitVec.ofInt 64 (n : Int)).toNat = n := by
  rw [BitVec.toNat_ofInt]; omega
theorem and_nat {a b : Nat} (ha : a < 9223372036854775808) (hb : b < 9223372036854775808) : bitsV .and .i64 (a : Int) (b : Int) = ((a &&& b : Nat) : Int) := by
  have h1 : a &&& b ≤ a := Nat.and_le_left
  show IntKind.i64.wrap (((BitVec.ofInt 64 (a : Int) &&& BitVec.ofInt 64 (b : Int)).toNat : Nat) : Int) = _
  rw [BitVec.toNat_and, ofInt_nat ha, ofInt_nat hb, w64 (by omega) (by omega)]
theorem or_nat {a b : Nat} (ha : a < 9223372036854775808) (hb : b < 9223372036854775808) (hc : a ||| b < 9223372036854775808) : bitsV .or .i64 (a : Int) (b : Int) = ((a ||| b : Nat) : Int) := by
  show IntKind.i64.wrap (((BitVec.ofInt 64 (a : Int) ||| BitVec.ofInt 64 (b : Int)).toNat : Nat) : Int) = _
  rw [BitVec.toNat_or, ofInt_nat ha, ofInt_nat hb, w64 (by omega) (by omega)]
theorem and_mask {x : Int} (h0 : 0 ≤ x) (h1 : x < 9223372036854775808) (i : Nat) (hi : i < 62) : bitsV .and .i64 x ((2 ^ i - 1 : Nat) : Int) = x % ((2 ^ i : Nat) : Int) := by
  obtain ⟨n, rfl⟩ : ∃ n : Nat, x = n := ⟨x.toNat, by omega⟩
  have h2 : 2 ^ i ≤ 2 ^ 61 := Nat.pow_le_pow_right (by omega) (by omega)
  rw [and_nat (by omega) (by omega), Nat.and_two_pow_sub_one_eq_mod]
  rfl
theorem and_pow (n i : Nat) : n &&& 2 ^ i = n / 2 ^ i % 2 * 2 ^ i := by
  have e : n / 2 ^ i % 2 = (n.testBit i).toNat := by rw [Nat.testBit_eq_decide_div_mod_eq]; rcases Nat.mod_two_eq_zero_or_one (n / 2 ^ i) with h | h <;> simp [h]
  rw [e]
  apply Nat.eq_of_testBit_eq
  intro j
  rw [Nat.testBit_and, Nat.testBit_two_pow]
  by_cases h : i = j
  · subst h
    cases hb : n.testBit i <;> simp [Nat.testBit_two_pow]
  · cases hb : n.testBit i <;> simp [h, Nat.testBit_two_pow]
theorem and_bit {x : Int} (h0 : 0 ≤ x) (h1 : x < 9223372036854775808) (i : Nat) (hi : i < 62) : bitsV .and .i64 x ((2 ^ i : Nat) : Int) = x / ((2 ^ i : Nat) : Int) % 2 * ((2 ^ i : Nat) : Int) := by
  obtain ⟨n, rfl⟩ : ∃ n : Nat, x = n := ⟨x.toNat, by omega⟩
  have h2 : 2 ^ i ≤ 2 ^ 61 := Nat.pow_le_pow_right (by omega) (by omega)
  rw [and_nat (by omega) (by omega), and_pow]
  rfl
theorem or_byte {a b : Int} (ha : 0 ≤ a ∧ a ≤ 255) (hb : 0 ≤ b ∧ b ≤ 255) : bitsV .or .i64 (a * 256) b = a * 256 + b := by
  obtain ⟨n, rfl⟩ : ∃ n : Nat, a = n := ⟨a.toNat, by omega⟩
  obtain ⟨m, rfl⟩ : ∃ m : Nat, b = m := ⟨b.toNat, by omega⟩
  have e : (2 ^ 8 * n + m : Nat) = 2 ^ 8 * n ||| m := Nat.two_pow_add_eq_or_of_lt (by omega) n
  have e2 : (n * 256 : Nat) = 2 ^ 8 * n := by omega
  have := or_nat (a := n * 256) (b := m) (by omega) (by omega) (by rw [e2, ← e]; omega)
  rw [show ((n : Int) * 256) = ((n * 256 : Nat) : Int) by omega, this, e2, ← e]
  omega
/-! ### bytes; the Internet sum -/
theorem wf_u8 {x : Int} (h : (Lit.int .u8 x).wf = true) : 0 ≤ x ∧ x ≤ 255 := by
  simp [Lit.wf, IntKind.min, IntKind.max, IntKind.bits, IntKind.signed] at h
  omega
/-! ### what is drawn -/
def Bytes (l : List Int) : Prop := ∀ x ∈ l, 0 ≤ x ∧ x ≤ 255
theorem getD_byte {l : List Int} (h : Bytes l) (i : Nat) : 0 ≤ l.getD i 0 ∧ l.getD i 0 ≤ 255 := by
  rw [List.getD_eq_getElem?_getD]
  cases e : l[i]? with
  | none => simp
  | some x => exact h x (List.mem_of_getElem? e)
theorem Bytes.drop {l : List Int} (h : Bytes l) (i : Nat) : Bytes (l.drop i) := fun x hx => h x (List.mem_of_mem_drop hx)
theorem Bytes.take {l : List Int} (h : Bytes l) (i : Nat) : Bytes (l.take i) := fun x hx => h x (List.mem_of_mem_take hx)
theorem wbyte {l : List Int} (h : Bytes l) (i : Nat) : IntKind.i64.wrap (l.getD i 0) = l.getD i 0 := by
  have := getD_byte h i
  rw [w64 (by omega) (by omega)]
def isum : List Int → Int
  | [] => 0
  | [a] => a * 256
  | a :: b :: t => a * 256 + b + isum t
/-- What folding a sum comes to. -/
def fold (n : Int) : Int := if n = 0 then 0 else (n - 1) % 65535 + 1
theorem fold_small {n : Int} (h0 : 0 ≤ n) (h1 : n ≤ 65535) : fold n = n := by
  unfold fold
  split <;> omega
theorem fold_step {n : Int} (_ : n > 65535) : fold (n % 65536 + n / 65536) = fold n := by
  unfold fold
  split <;> split <;> omega
theorem fold_range {n : Int} (_ : 0 ≤ n) : 0 ≤ fold n ∧ fold n ≤ 65535 := by
  unfold fold
  split <;> omega
theorem isum_range (l : List Int) : Bytes l → 0 ≤ isum l ∧ isum l ≤ 65535 * ((l.length + 1) / 2 : Nat) := by
  induction l using isum.induct with
  | case1 => intro _; simp [isum]
  | case2 a =>
    intro h
    have := h a (by simp)
    simp [isum]
    omega
  | case3 a b t ih =>
    intro h
    have h1 := h a (by simp)
    have h2 := h b (by simp)
    have h3 := ih (fun x hx => h x (by simp [hx]))
    simp only [isum, List.length_cons]
    omega
theorem isum_drop2 (l : List Int) (i : Nat) (h : i + 1 < l.length) : isum (l.drop i) = l.getD i 0 * 256 + l.getD (i + 1) 0 + isum (l.drop (i + 2)) := by
  rw [List.drop_eq_getElem_cons (by omega), List.drop_eq_getElem_cons (by omega)]
  simp [isum, List.getD_eq_getElem?_getD, List.getElem?_eq_getElem h, List.getElem?_eq_getElem (show i < l.length by omega)]
theorem isum_drop1 (l : List Int) (i : Nat) (h : i + 1 = l.length) : isum (l.drop i) = l.getD i 0 * 256 := by
  rw [List.drop_eq_getElem_cons (by omega), List.drop_eq_nil_of_le (by omega)]
  simp [isum, List.getD_eq_getElem?_getD, List.getElem?_eq_getElem (show i < l.length by omega)]
theorem isum_drop0 (l : List Int) (i : Nat) (h : l.length ≤ i) : isum (l.drop i) = 0 := by
  rw [List.drop_eq_nil_of_le h]
  rfl
theorem isum_drop_range {l : List Int} (h : Bytes l) (i : Nat) : 0 ≤ isum (l.drop i) ∧ isum (l.drop i) ≤ 65535 * ((l.length + 1) / 2 : Nat) := by
  have := isum_range _ (h.drop i)
  simp only [List.length_drop] at this
  have h2 : ((l.length - i + 1) / 2 : Nat) ≤ (l.length + 1) / 2 := Nat.div_le_div_right (by omega)
  omega
/-- The check sum. -/
def csum (l : List Int) : Int := 65535 - fold (isum l)
theorem csum_range {l : List Int} (h : Bytes l) : 0 ≤ csum l ∧ csum l ≤ 65535 := by
  have := fold_range (isum_range l h).1
  unfold csum
  omega
theorem fold_less {n : Int} (h : n > 65535) : n % 65536 + n / 65536 < n := by omega
theorem specFold (k : Nat) : ∀ (d j : Nat) (n : Int), 0 ≤ n → n ≤ 4611686018427387903 → n ≤ 65535 + d → d < j → f151.l8 k j n = some (fold n) := by
  intro d
  induction d with
  | zero =>
    intro j n h0 h1 h2 hj
    obtain ⟨j, rfl⟩ : ∃ j', j = j' + 1 := ⟨j - 1, by omega⟩
    simp only [f151.l8, f151.l8.step]
    rw [if_neg (fb (by omega)), fold_small h0 (by omega)]
  | succ d ih =>
    intro j n h0 h1 h2 hj
    obtain ⟨j, rfl⟩ : ∃ j', j = j' + 1 := ⟨j - 1, by omega⟩
    simp only [f151.l8, f151.l8.step]
    by_cases c : n > 65535
    · have e : IntKind.i64.wrap (Int.tmod n 65536 + IntKind.i64.wrap (Int.tdiv n 65536)) = n % 65536 + n / 65536 := by
        rw [Int.tmod_eq_emod_of_nonneg h0, Int.tdiv_eq_ediv_of_nonneg h0, w64 (n := n / 65536) (by omega) (by omega), w64 (by omega) (by omega)]
      rw [if_pos (tb c), e, ih j _ (by omega) (by omega) (by omega) (by omega), fold_step c]
    · rw [if_neg (fb c), fold_small h0 (by omega)]
theorem implFold (k : Nat) : ∀ (d j : Nat) (n : Int), 0 ≤ n → n ≤ 4611686018427387903 → n ≤ 65535 + d → d < j → f152.l8 k j n = some (fold n) := by
  intro d
  induction d with
  | zero =>
    intro j n h0 h1 h2 hj
    obtain ⟨j, rfl⟩ : ∃ j', j = j' + 1 := ⟨j - 1, by omega⟩
    simp only [f152.l8, f152.l8.step]
    rw [if_neg (fb (by omega)), fold_small h0 (by omega)]
  | succ d ih =>
    intro j n h0 h1 h2 hj
    obtain ⟨j, rfl⟩ : ∃ j', j = j' + 1 := ⟨j - 1, by omega⟩
    simp only [f152.l8, f152.l8.step]
    by_cases c : n > 65535
    · have e : IntKind.i64.wrap (bitsV .and .i64 n 65535 + Int.fdiv n (2 ^ (min (Int.toNat 16) IntKind.i64.bits))) = n % 65536 + n / 65536 := by
        have m : bitsV .and .i64 n 65535 = n % 65536 := and_mask h0 (by omega) 16 (by omega)
        have q : (2 ^ (min (Int.toNat 16) IntKind.i64.bits) : Int) = 65536 := by decide
        rw [m, q, Int.fdiv_eq_ediv_of_nonneg _ (by omega), w64 (by omega) (by omega)]
      rw [if_pos (tb c), e, ih j _ (by omega) (by omega) (by omega) (by omega), fold_step c]
    · rw [if_neg (fb c), fold_small h0 (by omega)]
theorem specSum_loop (k : Nat) (l : List Int) (hb : Bytes l) (hl : l.length ≤ 1000000) : ∀ (d j i : Nat) (s : Int), l.length ≤ i + d → i % 2 = 0 → 2 * d < j → 0 ≤ s → s ≤ 65535 * i → f151.l3 k j l s i = some (s + isum (l.drop i)) := by
  intro d
  induction d using Nat.strongRecOn with
  | _ d ih =>
    intro j i s hd h2 hj h0 h1
    obtain ⟨j, rfl⟩ : ∃ j', j = j' + 1 := ⟨j - 1, by omega⟩
    by_cases c : i < l.length
    · have b1 := getD_byte hb i
      have hm : Int.tmod (i : Int) 2 = 0 := by rw [Int.tmod_eq_emod_of_nonneg (by omega)]; omega
      have w1 : IntKind.i64.wrap (l.getD i 0 * 256) = l.getD i 0 * 256 := w64 (by omega) (by omega)
      have w2 : IntKind.i64.wrap (s + l.getD i 0 * 256) = s + l.getD i 0 * 256 := w64 (by omega) (by omega)
      have w3 : IntKind.i64.wrap ((i : Int) + 1) = ((i + 1 : Nat) : Int) := by rw [w64 (by omega) (by omega)]; omega
      have e1 : f151.l3 k (j + 1) l s i = f151.l3 k j l (s + l.getD i 0 * 256) ((i + 1 : Nat) : Int) := by
        simp only [f151.l3, f151.l3.step, Int.toNat_natCast, wbyte hb, w1, w2, w3]
        rw [if_pos (tb (by omega)), if_pos (tb hm), if_pos (by omega), if_pos (by omega)]
      rw [e1]
      obtain ⟨j, rfl⟩ : ∃ j', j = j' + 1 := ⟨j - 1, by omega⟩
      by_cases c2 : i + 1 < l.length
      · have b2 := getD_byte hb (i + 1)
        have hm2 : ¬ Int.tmod ((i + 1 : Nat) : Int) 2 = 0 := by rw [Int.tmod_eq_emod_of_nonneg (by omega)]; omega
        have w4 : IntKind.i64.wrap (s + l.getD i 0 * 256 + l.getD (i + 1) 0) = s + l.getD i 0 * 256 + l.getD (i + 1) 0 := w64 (by omega) (by omega)
        have w5 : IntKind.i64.wrap (((i + 1 : Nat) : Int) + 1) = ((i + 2 : Nat) : Int) := by rw [w64 (by omega) (by omega)]; omega
        simp only [f151.l3, f151.l3.step, Int.toNat_natCast, wbyte hb, w4, w5]
        rw [if_pos (tb (by omega)), if_neg (fb hm2), if_pos (by omega), if_pos (by omega)]
        refine (ih (d - 2) (by omega) j (i + 2) _ (by omega) (by omega) (by omega) (by omega) (by omega)).trans ?_
        rw [isum_drop2 l i c2, Int.add_assoc, Int.add_assoc, Int.add_assoc]
      · simp only [f151.l3, f151.l3.step]
        rw [if_neg (fb (by omega)), isum_drop1 l i (by omega)]
    · simp only [f151.l3, f151.l3.step]
      rw [if_neg (fb (by omega)), isum_drop0 l i (by omega), Int.add_zero]
theorem implSum_loop (k : Nat) (l : List Int) (hb : Bytes l) (hl : l.length ≤ 1000000) : ∀ (d j i : Nat) (s : Int), l.length ≤ i + d → i % 2 = 0 → d < j → 0 ≤ s → s ≤ 65535 * i → f152.l3 k j l s i = some (s + isum (l.drop i)) := by
  intro d
  induction d using Nat.strongRecOn with
  | _ d ih =>
    intro j i s hd h2 hj h0 h1
    obtain ⟨j, rfl⟩ : ∃ j', j = j' + 1 := ⟨j - 1, by omega⟩
    have q : (2 ^ (min (Int.toNat 8) IntKind.i64.bits) : Int) = 256 := by decide
    by_cases c : i < l.length
    · have b1 := getD_byte hb i
      have w1 : IntKind.i64.wrap (l.getD i 0 * 256) = l.getD i 0 * 256 := w64 (by omega) (by omega)
      have w2 : IntKind.i64.wrap (s + l.getD i 0 * 256) = s + l.getD i 0 * 256 := w64 (by omega) (by omega)
      have w3 : IntKind.i64.wrap ((i : Int) + 1) = ((i + 1 : Nat) : Int) := by rw [w64 (by omega) (by omega)]; omega
      have w5 : IntKind.i64.wrap ((i : Int) + 2) = ((i + 2 : Nat) : Int) := by rw [w64 (by omega) (by omega)]; omega
      by_cases c2 : i + 1 < l.length
      · have b2 := getD_byte hb (i + 1)
        have w4 : IntKind.i64.wrap (s + l.getD i 0 * 256 + l.getD (i + 1) 0) = s + l.getD i 0 * 256 + l.getD (i + 1) 0 := w64 (by omega) (by omega)
        simp only [f152.l3, f152.l3.step, q, w3, w5, Int.toNat_natCast, wbyte hb, w1, w2, w4]
        rw [if_pos (tb (by omega)), if_pos (by omega), if_pos (by omega), if_pos (tb (by omega)), if_pos (by omega), if_pos (by omega)]
        refine (ih (d - 2) (by omega) j (i + 2) _ (by omega) (by omega) (by omega) (by omega) (by omega)).trans ?_
        rw [isum_drop2 l i c2, Int.add_assoc, Int.add_assoc, Int.add_assoc]
      · simp only [f152.l3, f152.l3.step, q, w3, w5, Int.toNat_natCast, wbyte hb, w1, w2]
        rw [if_pos (tb (by omega)), if_pos (by omega), if_pos (by omega), if_neg (fb (by omega))]
        refine (ih (d - 1) (by omega) j (i + 2) _ (by omega) (by omega) (by omega) (by omega) (by omega)).trans ?_
        rw [isum_drop1 l i (by omega), isum_drop0 l (i + 2) (by omega), Int.add_zero]
    · simp only [f152.l3, f152.l3.step]
      rw [if_neg (fb (by omega)), isum_drop0 l i (by omega), Int.add_zero]
theorem specSum {k : Nat} (hK : 2097152 ≤ k) {l : List Int} (hb : Bytes l) (hl : l.length ≤ 60) : f151 k l = some (csum l) := by
  have hr := isum_range l hb
  have e1 : f151.l3 k k l 0 0 = some (isum l) := by have := specSum_loop k l hb (by omega) l.length k 0 0 (by omega) rfl (by omega) (by omega) (by omega); simpa using this
  have e2 := specFold k 2031585 k (isum l) hr.1 (by omega) (by omega) (by omega)
  have hf := fold_range hr.1
  simp only [f151, f151.step, e1, e2, Option.bind_some, csum]
  rw [w64 (by omega) (by omega)]
theorem implSum {k : Nat} (hK : 2097152 ≤ k) {l : List Int} (hb : Bytes l) (hl : l.length ≤ 60) : f94 k l = some (csum l) := by
  have hr := isum_range l hb
  have e1 : f152.l3 k k l 0 0 = some (isum l) := by have := implSum_loop k l hb (by omega) l.length k 0 0 (by omega) rfl (by omega) (by omega) (by omega); simpa using this
  have e2 := implFold k 2031585 k (isum l) hr.1 (by omega) (by omega) (by omega)
  have hf := fold_range hr.1
  simp only [f94, f94.step, f152, f152.step, e1, e2, Option.bind_some, csum]
  rw [w64 (by omega) (by omega)]
/-! ### words of two bytes -/
def at16 (l : List Int) (i : Nat) : Int := l.getD i 0 * 256 + l.getD (i + 1) 0
theorem at16_range {l : List Int} (hb : Bytes l) (i : Nat) : 0 ≤ at16 l i ∧ at16 l i ≤ 65535 := by
  have b1 := getD_byte hb i
  have b2 := getD_byte hb (i + 1)
  unfold at16
  omega
theorem specAt (k : Nat) {l : List Int} (hb : Bytes l) (hl : l.length ≤ 1048576) (i : Nat) (h : i + 1 < l.length) : f150 k l i = some (at16 l i) := by
  have b1 := getD_byte hb i
  have b2 := getD_byte hb (i + 1)
  have w3 : IntKind.i64.wrap ((i : Int) + 1) = ((i + 1 : Nat) : Int) := by rw [w64 (by omega) (by omega)]; omega
  simp only [f150, f150.step, w3, Int.toNat_natCast, wbyte hb]
  rw [if_pos (by omega), if_pos (by omega), if_pos (by omega), if_pos (by omega), w64 (n := l.getD i 0 * 256) (by omega) (by omega), w64 (by omega) (by omega)]
  rfl
theorem implAt (k : Nat) {l : List Int} (hb : Bytes l) (hl : l.length ≤ 1048576) (i : Nat) (h : i + 1 < l.length) : f93 k l i = some (at16 l i) := by
  have b1 := getD_byte hb i
  have b2 := getD_byte hb (i + 1)
  have w3 : IntKind.i64.wrap ((i : Int) + 1) = ((i + 1 : Nat) : Int) := by rw [w64 (by omega) (by omega)]; omega
  have q : (2 ^ (min (Int.toNat 8) IntKind.i64.bits) : Int) = 256 := by decide
  simp only [f93, f93.step, w3, Int.toNat_natCast, wbyte hb, q]
  rw [if_pos (by omega), if_pos (by omega), if_pos (by omega), if_pos (by omega), w64 (n := l.getD i 0 * 256) (by omega) (by omega), or_byte b1 b2]
  rfl
/-! ### right packets -/
theorem in_spec (k : Nat) (a b c : Int) : f86 k a b c = some (decide (b ≤ a ∧ a ≤ c)) := by
  simp only [f86, f86.step]
  split <;> simp at * <;> omega
theorem in_impl (k : Nat) (a b c : Int) : f83 k a b c = some (decide (b ≤ a ∧ a ≤ c)) := by
  simp only [f83, f83.step]
  split <;> simp at * <;> omega
/-- A right packet; n: how long its data are. -/
def PkOK (v : Int) (from_ to : ByteArray) (hop proto id off : Int) (more keep : Bool) (n : Nat) : Prop :=
  (0 ≤ hop ∧ hop ≤ 255) ∧ (0 ≤ proto ∧ proto ≤ 255) ∧ n ≤ 1500 ∧
    ((v = 4 ∧ from_.size = 4 ∧ to.size = 4 ∧ (0 ≤ id ∧ id ≤ 65535) ∧ (0 ≤ off ∧ off ≤ 8191) ∧ (keep = true → more = false ∧ off = 0) ∧ (more = true → n % 8 = 0 ∧ 0 < n) ∧ 8 * off + n ≤ 65515) ∨
     (v = 6 ∧ from_.size = 16 ∧ to.size = 16 ∧ id = 0 ∧ off = 0 ∧ more = false ∧ keep = false))
instance (v : Int) (from_ to : ByteArray) (hop proto id off : Int) (more keep : Bool) (n : Nat) : Decidable (PkOK v from_ to hop proto id off more keep n) := by unfold PkOK; infer_instance
theorem tm8 (n : Nat) : Int.tmod (n : Int) 8 = ((n % 8 : Nat) : Int) := by rw [Int.tmod_eq_emod_of_nonneg (by omega)]; rfl
theorem wsum {off : Int} {n : Nat} (h : 0 ≤ off ∧ off ≤ 8191) (hn : n ≤ 1500) : IntKind.i64.wrap (IntKind.i64.wrap (8 * off) + (n : Int)) = 8 * off + n := by rw [w64 (n := 8 * off) (by omega) (by omega), w64 (by omega) (by omega)]
theorem pk_impl (k : Nat) (v : Int) (from_ to : ByteArray) (hop proto id off : Int) (more keep : Bool) (xs : List Int) : f20 k v from_ to hop proto id off more keep xs = some (decide (PkOK v from_ to hop proto id off more keep xs.length)) := by
  simp only [f20, f20.step, in_impl, Option.bind_some, tm8, PkOK]
  by_cases h1 : 0 ≤ hop ∧ hop ≤ 255
  case neg => simp [h1]
  by_cases h2 : 0 ≤ proto ∧ proto ≤ 255
  case neg => simp [h1, h2]
  by_cases h3 : xs.length ≤ 1500
  case neg =>
    have : ((xs.length : Int) > 1500) := by omega
    simp [h1, h2, h3, this]
  have h3' : ¬ ((xs.length : Int) > 1500) := by omega
  by_cases h4 : v = 4
  · subst h4
    by_cases h5 : from_.size = 4
    case neg =>
      have : ¬ ((from_.size : Int) = 4) := by omega
      simp [h1, h2, h3, h3', h5, this]
    by_cases h6 : to.size = 4
    case neg =>
      have : ¬ ((to.size : Int) = 4) := by omega
      simp [h1, h2, h3, h3', h5, h6, this]
    by_cases h7 : 0 ≤ id ∧ id ≤ 65535
    case neg => simp [h1, h2, h3, h3', h5, h6, h7]
    by_cases h8 : 0 ≤ off ∧ off ≤ 8191
    case neg => simp [h1, h2, h3, h3', h5, h6, h7, h8]
    simp only [wsum h8 h3]
    simp [-List.length_eq_zero_iff, h1, h2, h3, h3', h5, h6, h7, h8]
    cases keep <;> cases more <;> simp [-List.length_eq_zero_iff]
    · rcases Nat.eq_zero_or_pos xs.length with q1 | q1
      · simp [-List.length_eq_zero_iff, q1]
      · by_cases q2 : xs.length % 8 = 0 <;> simp [-List.length_eq_zero_iff, Nat.ne_of_gt q1, q1, q2] <;> omega
    · by_cases q0 : off = 0
      · subst q0; simp
      · have : ¬ off ≤ 0 := by omega
        simp [q0, this]
  · simp [h1, h2, h3, h3', h4]
    by_cases g1 : v = 6
    case neg => simp [g1]
    by_cases g2 : from_.size = 16
    case neg =>
      have : ¬ ((from_.size : Int) = 16) := by omega
      simp [g2, this]
    by_cases g3 : to.size = 16
    case neg =>
      have : ¬ ((to.size : Int) = 16) := by omega
      simp [g3, this]
    by_cases g4 : id = 0 <;> by_cases g5 : off = 0 <;> cases more <;> cases keep <;> simp [g1, g2, g3, g4, g5]
theorem pk_spec (k : Nat) (v : Int) (from_ to : ByteArray) (hop proto id off : Int) (more keep : Bool) (xs : List Int) : f85 k v from_ to hop proto id off more keep xs = some (decide (PkOK v from_ to hop proto id off more keep xs.length)) := by
  simp only [f85, f85.step, in_spec, Option.bind_some, tm8, PkOK]
  by_cases h1 : 0 ≤ hop ∧ hop ≤ 255
  case neg => simp [h1]
  by_cases h2 : 0 ≤ proto ∧ proto ≤ 255
  case neg => simp [h1, h2]
  by_cases h3 : xs.length ≤ 1500
  case neg =>
    have : ((xs.length : Int) > 1500) := by omega
    simp [h1, h2, h3, this]
  have h3' : ¬ ((xs.length : Int) > 1500) := by omega
  by_cases h4 : v = 4
  · subst h4
    by_cases h5 : from_.size = 4
    case neg =>
      have : ¬ ((from_.size : Int) = 4) := by omega
      simp [h1, h2, h3, h3', h5, this]
    by_cases h6 : to.size = 4
    case neg =>
      have : ¬ ((to.size : Int) = 4) := by omega
      simp [h1, h2, h3, h3', h5, h6, this]
    by_cases h7 : 0 ≤ id ∧ id ≤ 65535
    case neg => simp [h1, h2, h3, h3', h5, h6, h7]
    by_cases h8 : 0 ≤ off ∧ off ≤ 8191
    case neg => simp [h1, h2, h3, h3', h5, h6, h7, h8]
    simp only [wsum h8 h3]
    simp [-List.length_eq_zero_iff, h1, h2, h3, h3', h5, h6, h7, h8]
    cases keep <;> cases more <;> simp [-List.length_eq_zero_iff]
    · rcases Nat.eq_zero_or_pos xs.length with q1 | q1
      · simp [-List.length_eq_zero_iff, q1]
      · by_cases q2 : xs.length % 8 = 0 <;> simp [-List.length_eq_zero_iff, Nat.ne_of_gt q1, q1, q2] <;> omega
    · by_cases q0 : off = 0
      · subst q0; simp
      · have : ¬ off ≤ 0 := by omega
        simp [q0, this]
  · simp [h1, h2, h3, h3', h4]
    by_cases g1 : v = 6
    case neg => simp [g1]
    by_cases g2 : from_.size = 16
    case neg =>
      have : ¬ ((from_.size : Int) = 16) := by omega
      simp [g2, this]
    by_cases g3 : to.size = 16
    case neg =>
      have : ¬ ((to.size : Int) = 16) := by omega
      simp [g3, this]
    by_cases g4 : id = 0 <;> by_cases g5 : off = 0 <;> cases more <;> cases keep <;> simp [g1, g2, g3, g4, g5]
/-! ### a packet that is read -/
abbrev RP := (Int × ByteArray × ByteArray × Int × Int × Int × Int × Bool × Bool × Int) ⊕ (Int × ByteArray × ByteArray × Int × Int × Int × Int × Bool × Bool × List Int × Int)
def noP (c : Int) : RP := .inl (0, ByteArray.empty, ByteArray.empty, 0, 0, 0, 0, false, false, c)
/-- What is read of bytes that begin as one of version 6; of others. -/
def rd6 (l : List Int) : RP :=
  if l.length < 40 then noP 3 else if at16 l 4 ≠ (l.length : Int) - 40 then noP 3 else
  if PkOK 6 (strOf (List.drop 8 (List.take 24 l))) (strOf (List.drop 24 (List.take 40 l))) (l.getD 7 0) (l.getD 6 0) 0 0 false false (List.drop 40 l).length then
    .inr (6, strOf (List.drop 8 (List.take 24 l)), strOf (List.drop 24 (List.take 40 l)), l.getD 7 0, l.getD 6 0, 0, 0, false, false, List.drop 40 l, 0)
  else noP 1
def rd4 (l : List Int) : RP :=
  if l.length < 20 then noP 3 else if l.getD 0 0 ≠ 69 then noP 3 else if at16 l 2 ≠ (l.length : Int) then noP 3 else
  if csum (List.take 20 l) ≠ 0 then noP 8 else if at16 l 6 ≥ 32768 then noP 1 else
  if PkOK 4 (strOf (List.drop 12 (List.take 16 l))) (strOf (List.drop 16 (List.take 20 l))) (l.getD 8 0) (l.getD 9 0) (at16 l 4) (at16 l 6 % 8192) (decide (at16 l 6 / 8192 % 2 = 1)) (decide (at16 l 6 / 16384 % 2 = 1)) (List.drop 20 l).length then
    .inr (4, strOf (List.drop 12 (List.take 16 l)), strOf (List.drop 16 (List.take 20 l)), l.getD 8 0, l.getD 9 0, at16 l 4, at16 l 6 % 8192, decide (at16 l 6 / 8192 % 2 = 1), decide (at16 l 6 / 16384 % 2 = 1), List.drop 20 l, 0)
  else noP 1
def rdP (l : List Int) : RP := if l.length > 65536 then noP 2 else if l.length = 0 then noP 3 else if l.getD 0 0 / 16 = 6 then rd6 l else rd4 l
theorem elim_id (r : RP) : (some r).bind (Sum.elim (fun t2 => some (.inl (t2.1, t2.2.1, t2.2.2.1, t2.2.2.2.1, t2.2.2.2.2.1, t2.2.2.2.2.2.1, t2.2.2.2.2.2.2.1, t2.2.2.2.2.2.2.2.1, t2.2.2.2.2.2.2.2.2.1, t2.2.2.2.2.2.2.2.2.2))) (fun t3 => some (.inr (t3.1, t3.2.1, t3.2.2.1, t3.2.2.2.1, t3.2.2.2.2.1, t3.2.2.2.2.2.1, t3.2.2.2.2.2.2.1, t3.2.2.2.2.2.2.2.1, t3.2.2.2.2.2.2.2.2.1, t3.2.2.2.2.2.2.2.2.2.1, t3.2.2.2.2.2.2.2.2.2.2)))) = some r := by
  rcases r with r | r <;> rfl
theorem dn {a b : Int} (h : a = b) : ¬ decide (a ≠ b) = true := by simp [h]
theorem dp {a b : Int} (h : a ≠ b) : decide (a ≠ b) = true := by simp [h]
theorem impl6 (k : Nat) {l : List Int} (hb : Bytes l) (hl : l.length ≤ 1048576) : f92 k l = some (rd6 l) := by
  simp only [f92, f92.step]
  by_cases c4 : l.length < 40
  · rw [if_neg (show ¬ decide ((l.length : Int) < 40) = false by rw [tb (show (l.length : Int) < 40 by omega)]; simp)]
    simp only [rd6, if_pos c4]
    rfl
  have a1 : f93 k l 4 = some (at16 l 4) := implAt k hb hl 4 (by omega)
  have ar := at16_range hb 4
  have e2 : IntKind.i64.wrap ((l.length : Int) - 40) = (l.length : Int) - 40 := w64 (by omega) (by omega)
  have e3 : IntKind.i64.wrap (40 + at16 l 4) = 40 + at16 l 4 := w64 (by omega) (by omega)
  rw [if_pos (ff (show ¬ (l.length : Int) < 40 by omega)), a1]
  simp only [Option.bind_some, e2, e3]
  by_cases c5 : at16 l 4 = (l.length : Int) - 40
  case neg =>
    rw [if_pos (dp (by omega))]
    simp only [rd6, if_neg c4, if_pos (show at16 l 4 ≠ (l.length : Int) - 40 from c5)]
    rfl
  rw [if_neg (dn (by omega))]
  have u1 : (24 : Int) ≤ (l.length : Int) := by omega
  have u2 : (40 : Int) ≤ (l.length : Int) := by omega
  have u3 : (7 : Int) < (l.length : Int) := by omega
  have u4 : (6 : Int) < (l.length : Int) := by omega
  have u5 : (l.length : Int) ≤ (l.length : Int) := by omega
  have u6 : (([] : List Int).length + (List.drop 40 (List.take (Int.toNat (l.length : Int)) l)).length) * 1 ≤ maxN := by simp [maxN]; omega
  have tk : List.drop 40 (List.take (Int.toNat (l.length : Int)) l) = List.drop 40 l := by simp
  have y7 : IntKind.i64.wrap (l.getD 7 0) = l.getD 7 0 := wbyte hb 7
  have y6 : IntKind.i64.wrap (l.getD 6 0) = l.getD 6 0 := wbyte hb 6
  simp only [if_pos u1, if_pos u2, if_pos u3, if_pos u4]
  rw [if_pos u5, if_pos u6, tk, y7, y6, List.nil_append, pk_impl]
  simp only [Option.bind_some, rd6, if_neg c4, if_neg (show ¬ at16 l 4 ≠ (l.length : Int) - 40 by simpa using c5)]
  by_cases c6 : PkOK 6 (strOf (List.drop 8 (List.take 24 l))) (strOf (List.drop 24 (List.take 40 l))) (l.getD 7 0) (l.getD 6 0) 0 0 false false (List.drop 40 l).length
  · rw [if_pos c6, tb c6]; rfl
  · rw [if_neg c6, ff c6]; rfl
theorem impl_read {k : Nat} (hK : 2097152 ≤ k) {l : List Int} (hb : Bytes l) (hl : l.length ≤ 1048576) : f31 k l = some (rdP l) := by
  have b0 := getD_byte hb 0
  simp only [f31, f31.step, rdP]
  by_cases c1 : l.length > 65536
  · rw [if_pos (tb (show (l.length : Int) > 65536 by omega)), if_pos c1]; rfl
  rw [if_neg (fb (show ¬ (l.length : Int) > 65536 by omega)), if_neg c1]
  by_cases c2 : l.length = 0
  · rw [if_neg (fb (show ¬ (l.length : Int) > 0 by omega)), if_pos c2, if_neg (show ¬ decide ((l.length : Int) < 20) = false by rw [tb (show (l.length : Int) < 20 by omega)]; simp)]; rfl
  have q4 : (2 ^ (min (Int.toNat 4) IntKind.u8.bits) : Int) = 16 := by decide
  have e0 : Int.fdiv (l.getD 0 0) 16 = l.getD 0 0 / 16 := Int.fdiv_eq_ediv_of_nonneg _ (by omega)
  have h0 : (0 : Int) < (l.length : Int) := by omega
  rw [if_pos (tb (show (l.length : Int) > 0 by omega)), if_neg c2, if_pos h0, q4, e0]
  by_cases c3 : l.getD 0 0 / 16 = 6
  · rw [if_pos (tb c3), if_pos c3, impl6 k hb hl]
    exact elim_id _
  rw [if_neg (fb c3), if_neg c3]
  by_cases c4 : l.length < 20
  · rw [if_neg (show ¬ decide ((l.length : Int) < 20) = false by rw [tb (show (l.length : Int) < 20 by omega)]; simp)]
    simp only [rd4, if_pos c4]
    rfl
  rw [if_pos (ff (show ¬ (l.length : Int) < 20 by omega)), if_pos h0]
  by_cases c5 : l.getD 0 0 ≠ 69
  · rw [if_neg (show ¬ decide (l.getD 0 0 ≠ 69) = false by rw [tb c5]; simp)]
    simp only [rd4, if_neg c4, if_pos c5]
    rfl
  rw [if_pos (ff c5)]
  have r6 := at16_range hb 6
  have i2 : f93 k l 2 = some (at16 l 2) := implAt k hb hl 2 (by omega)
  have i4 : f93 k l 4 = some (at16 l 4) := implAt k hb hl 4 (by omega)
  have i6 : f93 k l 6 = some (at16 l 6) := implAt k hb hl 6 (by omega)
  rw [i2, Option.bind_some]
  by_cases c6 : at16 l 2 = (l.length : Int)
  case neg =>
    rw [if_pos (dp c6)]
    simp only [rd4, if_neg c4, if_neg (show ¬ l.getD 0 0 ≠ 69 by simpa using c5), if_pos (show at16 l 2 ≠ (l.length : Int) from c6)]
    rfl
  have tk0 : List.drop 0 (List.take 20 l) = List.take 20 l := List.drop_zero
  have hl20 : (List.take 20 l).length ≤ 60 := by simp; omega
  rw [if_neg (dn c6), if_pos (show (20 : Int) ≤ (l.length : Int) by omega), tk0, implSum hK (hb.take 20) hl20, Option.bind_some]
  by_cases c7 : csum (List.take 20 l) ≠ 0
  · rw [if_pos (tb c7)]
    simp only [rd4, if_neg c4, if_neg (show ¬ l.getD 0 0 ≠ 69 by simpa using c5), if_neg (show ¬ at16 l 2 ≠ (l.length : Int) by simpa using c6), if_pos c7]
    rfl
  rw [if_neg (fb c7), i6, Option.bind_some]
  have u1 : (16 : Int) ≤ (l.length : Int) := by omega
  have u2 : (20 : Int) ≤ (l.length : Int) := by omega
  have u3 : (8 : Int) < (l.length : Int) := by omega
  have u4 : (9 : Int) < (l.length : Int) := by omega
  have u5 : (l.length : Int) ≤ (l.length : Int) := by omega
  have u6 : (([] : List Int).length + (List.drop 20 (List.take (Int.toNat (l.length : Int)) l)).length) * 1 ≤ maxN := by simp [maxN]; omega
  have tk : List.drop 20 (List.take (Int.toNat (l.length : Int)) l) = List.drop 20 l := by simp
  have y8 : IntKind.i64.wrap (l.getD 8 0) = l.getD 8 0 := wbyte hb 8
  have y9 : IntKind.i64.wrap (l.getD 9 0) = l.getD 9 0 := wbyte hb 9
  have m1 : bitsV .and .i64 (at16 l 6) 8191 = at16 l 6 % 8192 := and_mask r6.1 (by omega) 13 (by omega)
  have m2 : bitsV .and .i64 (at16 l 6) 8192 = at16 l 6 / 8192 % 2 * 8192 := and_bit r6.1 (by omega) 13 (by omega)
  have m3 : bitsV .and .i64 (at16 l 6) 16384 = at16 l 6 / 16384 % 2 * 16384 := and_bit r6.1 (by omega) 14 (by omega)
  have m4 : bitsV .and .i64 (at16 l 6) 32768 = at16 l 6 / 32768 % 2 * 32768 := and_bit r6.1 (by omega) 15 (by omega)
  have d2 : decide (at16 l 6 / 8192 % 2 * 8192 ≠ 0) = decide (at16 l 6 / 8192 % 2 = 1) := decide_eq_decide.mpr (by omega)
  have d3 : decide (at16 l 6 / 16384 % 2 * 16384 ≠ 0) = decide (at16 l 6 / 16384 % 2 = 1) := decide_eq_decide.mpr (by omega)
  have d4 : decide (at16 l 6 / 32768 % 2 * 32768 ≠ 0) = decide (at16 l 6 ≥ 32768) := decide_eq_decide.mpr (by omega)
  simp only [i4, Option.bind_some, if_pos u1, if_pos u2, if_pos u3, if_pos u4]
  rw [if_pos u5, if_pos u6, tk, y8, y9, List.nil_append, m1, m2, m3, m4, d2, d3, d4]
  simp only [rd4, if_neg c4, if_neg (show ¬ l.getD 0 0 ≠ 69 by simpa using c5), if_neg (show ¬ at16 l 2 ≠ (l.length : Int) by simpa using c6), if_neg c7]
  by_cases c8 : at16 l 6 ≥ 32768
  · rw [if_pos c8, if_neg (show ¬ decide (at16 l 6 ≥ 32768) = false by rw [tb c8]; simp)]
    rfl
  rw [if_neg c8, if_pos (ff c8), pk_impl]
  simp only [Option.bind_some]
  by_cases c9 : PkOK 4 (strOf (List.drop 12 (List.take 16 l))) (strOf (List.drop 16 (List.take 20 l))) (l.getD 8 0) (l.getD 9 0) (at16 l 4) (at16 l 6 % 8192) (decide (at16 l 6 / 8192 % 2 = 1)) (decide (at16 l 6 / 16384 % 2 = 1)) (List.drop 20 l).length
  · rw [if_pos c9, tb c9]; rfl
  · rw [if_neg c9, ff c9]; rfl
theorem spec_readP {k : Nat} (hK : 2097152 ≤ k) {l : List Int} (hb : Bytes l) (hl : l.length ≤ 65536) : f91 k l = some (if l.length = 0 then noP 3 else if l.getD 0 0 / 16 = 6 then rd6 l else rd4 l) := by
  have b0 := getD_byte hb 0
  simp only [f91, f91.step]
  by_cases c2 : l.length = 0
  · rw [if_pos (tb (show (l.length : Int) = 0 by omega)), if_pos c2]; rfl
  have e1 : IntKind.u8.wrap (Int.tdiv (l.getD 0 0) 16) = l.getD 0 0 / 16 := by
    rw [Int.tdiv_eq_ediv_of_nonneg (by omega), IntKind.wrap_u8]; omega
  have h0 : (0 : Int) < (l.length : Int) := by omega
  rw [if_neg (fb (show ¬ (l.length : Int) = 0 by omega)), if_neg c2, if_pos h0, e1]
  have hl : l.length ≤ 1048576 := by omega
  by_cases c3 : l.getD 0 0 / 16 = 6
  · rw [if_pos (tb c3), if_pos c3]
    by_cases c4 : l.length < 40
    · rw [if_neg (show ¬ decide ((l.length : Int) < 40) = false by rw [tb (show (l.length : Int) < 40 by omega)]; simp)]
      simp only [rd6, if_pos c4]
      rfl
    have a1 : f150 k l 4 = some (at16 l 4) := specAt k hb hl 4 (by omega)
    have ar := at16_range hb 4
    have e2 : IntKind.i64.wrap ((l.length : Int) - 40) = (l.length : Int) - 40 := w64 (by omega) (by omega)
    have e3 : IntKind.i64.wrap (40 + at16 l 4) = 40 + at16 l 4 := w64 (by omega) (by omega)
    rw [if_pos (ff (show ¬ (l.length : Int) < 40 by omega)), a1]
    simp only [Option.bind_some, e2, e3]
    by_cases c5 : at16 l 4 = (l.length : Int) - 40
    case neg =>
      rw [if_pos (dp (by omega))]
      simp only [rd6, if_neg c4, if_pos (show at16 l 4 ≠ (l.length : Int) - 40 from c5)]
      rfl
    rw [if_neg (dn (by omega))]
    have u1 : (24 : Int) ≤ (l.length : Int) := by omega
    have u2 : (40 : Int) ≤ (l.length : Int) := by omega
    have u3 : (7 : Int) < (l.length : Int) := by omega
    have u4 : (6 : Int) < (l.length : Int) := by omega
    have u5 : (l.length : Int) ≤ (l.length : Int) := by omega
    have u6 : (([] : List Int).length + (List.drop 40 (List.take (Int.toNat (l.length : Int)) l)).length) * 1 ≤ maxN := by simp [maxN]; omega
    have tk : List.drop 40 (List.take (Int.toNat (l.length : Int)) l) = List.drop 40 l := by simp
    have y7 : IntKind.i64.wrap (l.getD 7 0) = l.getD 7 0 := wbyte hb 7
    have y6 : IntKind.i64.wrap (l.getD 6 0) = l.getD 6 0 := wbyte hb 6
    simp only [if_pos u1, if_pos u2, if_pos u3, if_pos u4]
    rw [if_pos u5, if_pos u6, tk, y7, y6, List.nil_append, pk_spec]
    simp only [Option.bind_some, rd6, if_neg c4, if_neg (show ¬ at16 l 4 ≠ (l.length : Int) - 40 by simpa using c5)]
    by_cases c6 : PkOK 6 (strOf (List.drop 8 (List.take 24 l))) (strOf (List.drop 24 (List.take 40 l))) (l.getD 7 0) (l.getD 6 0) 0 0 false false (List.drop 40 l).length
    · rw [if_pos c6, tb c6]; rfl
    · rw [if_neg c6, ff c6]; rfl
  rw [if_neg (fb c3), if_neg c3, if_pos h0]
  by_cases c5 : l.getD 0 0 ≠ 69
  · rw [if_neg (show ¬ decide (l.getD 0 0 ≠ 69) = false by rw [tb c5]; simp)]
    by_cases c4 : l.length < 20
    · simp only [rd4, if_pos c4]; rfl
    · simp only [rd4, if_neg c4, if_pos c5]; rfl
  rw [if_pos (ff c5)]
  by_cases c4 : l.length < 20
  · rw [if_neg (show ¬ decide ((l.length : Int) < 20) = false by rw [tb (show (l.length : Int) < 20 by omega)]; simp)]
    simp only [rd4, if_pos c4]
    rfl
  rw [if_pos (ff (show ¬ (l.length : Int) < 20 by omega))]
  have r6 := at16_range hb 6
  have i2 : f150 k l 2 = some (at16 l 2) := specAt k hb hl 2 (by omega)
  have i4 : f150 k l 4 = some (at16 l 4) := specAt k hb hl 4 (by omega)
  have i6 : f150 k l 6 = some (at16 l 6) := specAt k hb hl 6 (by omega)
  rw [i2, Option.bind_some]
  by_cases c6 : at16 l 2 = (l.length : Int)
  case neg =>
    rw [if_pos (dp (fun h => c6 h.symm))]
    simp only [rd4, if_neg c4, if_neg (show ¬ l.getD 0 0 ≠ 69 by simpa using c5), if_pos (show at16 l 2 ≠ (l.length : Int) from c6)]
    rfl
  have tk0 : List.drop 0 (List.take 20 l) = List.take 20 l := List.drop_zero
  have hl20 : (List.take 20 l).length ≤ 60 := by simp; omega
  rw [if_neg (dn c6.symm), if_pos (show (20 : Int) ≤ (l.length : Int) by omega), tk0, specSum hK (hb.take 20) hl20, Option.bind_some]
  by_cases c7 : csum (List.take 20 l) ≠ 0
  · rw [if_pos (tb c7)]
    simp only [rd4, if_neg c4, if_neg (show ¬ l.getD 0 0 ≠ 69 by simpa using c5), if_neg (show ¬ at16 l 2 ≠ (l.length : Int) by simpa using c6), if_pos c7]
    rfl
  rw [if_neg (fb c7), i6, Option.bind_some]
  have u1 : (16 : Int) ≤ (l.length : Int) := by omega
  have u2 : (20 : Int) ≤ (l.length : Int) := by omega
  have u3 : (8 : Int) < (l.length : Int) := by omega
  have u4 : (9 : Int) < (l.length : Int) := by omega
  have u5 : (l.length : Int) ≤ (l.length : Int) := by omega
  have u6 : (([] : List Int).length + (List.drop 20 (List.take (Int.toNat (l.length : Int)) l)).length) * 1 ≤ maxN := by simp [maxN]; omega
  have tk : List.drop 20 (List.take (Int.toNat (l.length : Int)) l) = List.drop 20 l := by simp
  have y8 : IntKind.i64.wrap (l.getD 8 0) = l.getD 8 0 := wbyte hb 8
  have y9 : IntKind.i64.wrap (l.getD 9 0) = l.getD 9 0 := wbyte hb 9
  have t1 : Int.tmod (at16 l 6) 8192 = at16 l 6 % 8192 := Int.tmod_eq_emod_of_nonneg r6.1
  have t2 : Int.tmod (IntKind.i64.wrap (Int.tdiv (at16 l 6) 8192)) 2 = at16 l 6 / 8192 % 2 := by rw [Int.tdiv_eq_ediv_of_nonneg r6.1, w64 (by omega) (by omega), Int.tmod_eq_emod_of_nonneg (by omega)]
  have t3 : Int.tmod (IntKind.i64.wrap (Int.tdiv (at16 l 6) 16384)) 2 = at16 l 6 / 16384 % 2 := by rw [Int.tdiv_eq_ediv_of_nonneg r6.1, w64 (by omega) (by omega), Int.tmod_eq_emod_of_nonneg (by omega)]
  simp only [i4, Option.bind_some, if_pos u1, if_pos u2, if_pos u3, if_pos u4]
  rw [if_pos u5, if_pos u6, tk, y8, y9, List.nil_append, t1, t2, t3]
  simp only [rd4, if_neg c4, if_neg (show ¬ l.getD 0 0 ≠ 69 by simpa using c5), if_neg (show ¬ at16 l 2 ≠ (l.length : Int) by simpa using c6), if_neg c7]
  by_cases c8 : at16 l 6 ≥ 32768
  · rw [if_pos c8, if_neg (show ¬ decide (at16 l 6 ≥ 32768) = false by rw [tb c8]; simp)]
    rfl
  rw [if_neg c8, if_pos (ff c8), pk_spec]
  simp only [Option.bind_some]
  by_cases c9 : PkOK 4 (strOf (List.drop 12 (List.take 16 l))) (strOf (List.drop 16 (List.take 20 l))) (l.getD 8 0) (l.getD 9 0) (at16 l 4) (at16 l 6 % 8192) (decide (at16 l 6 / 8192 % 2 = 1)) (decide (at16 l 6 / 16384 % 2 = 1)) (List.drop 20 l).length
  · rw [if_pos c9, tb c9]; rfl
  · rw [if_neg c9, ff c9]; rfl
theorem spec_read {k : Nat} (hK : 2097152 ≤ k) {l : List Int} (hb : Bytes l) : f29 k l = some (rdP l) := by
  simp only [f29, f29.step, rdP]
  by_cases c1 : l.length > 65536
  · rw [if_pos (tb (show (l.length : Int) > 65536 by omega)), if_pos c1]; rfl
  rw [if_neg (fb (show ¬ (l.length : Int) > 65536 by omega)), if_neg c1, spec_readP hK hb (by omega)]
  exact elim_id _
/-- What both functions answer: a code and nothing; or a packet. -/
def Good (l : List Int) (r : RP) : Prop := (∃ c, r = noP c ∧ c ≠ 0) ∨ ∃ v A B hop proto id off more keep d, r = .inr (v, A, B, hop, proto, id, off, more, keep, d, 0) ∧ PkOK v A B hop proto id off more keep d.length ∧ Bytes d ∧ d.length ≤ l.length
theorem rdP_good {l : List Int} (hb : Bytes l) : Good l (rdP l) := by
  unfold rdP rd6 rd4
  repeat' split
  all_goals first
    | exact .inl ⟨_, rfl, by decide⟩
    | exact .inr ⟨_, _, _, _, _, _, _, _, _, _, rfl, by assumption, hb.drop _, by simp⟩
theorem rdP_cases {l : List Int} (hb : Bytes l) : (∃ c, rdP l = noP c ∧ c ≠ 0) ∨ ∃ v A B hop proto id off more keep d, rdP l = .inr (v, A, B, hop, proto, id, off, more, keep, d, 0) ∧ PkOK v A B hop proto id off more keep d.length ∧ Bytes d ∧ d.length ≤ l.length := rdP_good hb
theorem read_ok {k : Nat} (hK : 2097152 ≤ k) {l : List Int} (hb : Bytes l) (hl : l.length ≤ 1048576) :
    (∃ c, f31 k l = some (.inl (0, ByteArray.empty, ByteArray.empty, 0, 0, 0, 0, false, false, c)) ∧ f29 k l = some (.inl (0, ByteArray.empty, ByteArray.empty, 0, 0, 0, 0, false, false, c))) ∨
    ∃ v A B hop proto id off more keep d, f31 k l = some (.inr (v, A, B, hop, proto, id, off, more, keep, d, 0)) ∧ f29 k l = some (.inr (v, A, B, hop, proto, id, off, more, keep, d, 0)) ∧ PkOK v A B hop proto id off more keep d.length ∧ Bytes d ∧ d.length ≤ l.length := by
  rw [impl_read hK hb hl, spec_read hK hb]
  rcases rdP_cases hb with ⟨c, e, _⟩ | ⟨v, A, B, hop, proto, id, off, more, keep, d, e, h⟩
  · exact .inl ⟨c, by rw [e]; rfl, by rw [e]; rfl⟩
  · exact .inr ⟨v, A, B, hop, proto, id, off, more, keep, d, by rw [e], by rw [e], h⟩
/-! ### texts as bytes -/
theorem strOf_size (xs : List Int) : (strOf xs).size = xs.length := by simp [strOf, ByteArray.size]
theorem strOf_bytesOf (s : ByteArray) : strOf (bytesOf s) = s := by
  rcases s with ⟨⟨l⟩⟩
  show ByteArray.mk (List.map (fun n : Int => UInt8.ofNat n.toNat) (List.map (fun b : UInt8 => (b.toNat : Int)) l)).toArray = _
  rw [List.map_map, show ((fun n : Int => UInt8.ofNat n.toNat) ∘ fun b : UInt8 => (b.toNat : Int)) = id from funext fun b => by simp, List.map_id]
theorem bytesOf_length (s : ByteArray) : (bytesOf s).length = s.size := by simp [bytesOf]
theorem bytesOf_bytes (s : ByteArray) : Bytes (bytesOf s) := fun x hx => by
  obtain ⟨b, _, rfl⟩ := List.mem_map.mp hx
  have := b.toNat_lt; omega
theorem bytesOf_strOf {xs : List Int} (h : Bytes xs) : bytesOf (strOf xs) = xs := by
  simp only [bytesOf, strOf, List.map_map]
  rw [List.map_congr_left (g := id) fun x hx => ?_, List.map_id]
  have := h x hx
  simp [UInt8.toNat_ofNat]; omega
theorem wu8 (x : Int) : 0 ≤ IntKind.u8.wrap x ∧ IntKind.u8.wrap x ≤ 255 := by rw [IntKind.wrap_u8]; omega
theorem wu8_eq {x : Int} (h : 0 ≤ x ∧ x ≤ 255) : IntKind.u8.wrap x = x := by rw [IntKind.wrap_u8]; omega
theorem Bytes.append {a b : List Int} (ha : Bytes a) (hb : Bytes b) : Bytes (a ++ b) := fun x hx => (List.mem_append.mp hx).elim (ha x) (hb x)
theorem Bytes.snoc {a : List Int} (ha : Bytes a) {x : Int} (hx : 0 ≤ x ∧ x ≤ 255) : Bytes (a ++ [x]) := ha.append fun y hy => by simp at hy; omega
theorem Bytes.cons {a : List Int} (ha : Bytes a) {x : Int} (hx : 0 ≤ x ∧ x ≤ 255) : Bytes (x :: a) := fun y hy => by
  rcases List.mem_cons.mp hy with rfl | h
  · exact hx
  · exact ha y h
theorem Bytes.set {a : List Int} (ha : Bytes a) (i : Nat) {x : Int} (hx : 0 ≤ x ∧ x ≤ 255) : Bytes (a.set i x) := fun y hy => by
  rcases List.mem_or_eq_of_mem_set hy with h | rfl
  · exact ha y h
  · exact hx
/-! ### what is drawn -/
/-- A source's state: it has been asked at most n times. -/
structure GS (xs : List Int) (a s : Int) (n : Nat) : Prop where
  len : xs.length ≤ 1048576
  b : Bytes xs
  a0 : 0 ≤ a
  a1 : a ≤ n
  s0 : 0 ≤ s
  s1 : s < 2147483648
theorem GS.to {xs : List Int} {a s : Int} {n n' : Nat} (h : GS xs a s n) (hn : n ≤ n') : GS xs a s n' := ⟨h.len, h.b, h.a0, by have := h.a1; omega, h.s0, h.s1⟩
theorem byte_ok (k : Nat) {xs : List Int} {a s : Int} {n : Nat} (h : GS xs a s n) (hn : n ≤ 100000) : ∃ v a' s', f182 k xs a s = some (v, xs, a', s') ∧ (0 ≤ v ∧ v ≤ 255) ∧ GS xs a' s' (n + 1) := by
  obtain ⟨h0, h1, h2, h3, h4, h5⟩ := h
  have e1 : IntKind.i64.wrap (a + 1) = a + 1 := w64 (by omega) (by omega)
  simp only [f182, f182.step, e1]
  by_cases c : a + 1 ≤ (xs.length : Int)
  · have e2 : IntKind.i64.wrap (a + 1 - 1) = a := by rw [w64 (by omega) (by omega)]; omega
    have hb := getD_byte h1 a.toNat
    rw [if_pos (tb c), e2, if_pos (by omega), if_pos (by omega), if_pos (by omega), if_pos (by omega)]
    refine ⟨_, _, _, rfl, ?_, h0, h1, by omega, by omega, ?_, ?_⟩
    · rw [w64 (by omega) (by omega)]; exact hb
    · rw [w64 (n := xs.getD a.toNat 0) (by omega) (by omega), w64 (n := s * 31) (by omega) (by omega), w64 (n := s * 31 + _) (by omega) (by omega), w64 (by omega) (by omega), Int.tmod_eq_emod_of_nonneg (by omega)]
      omega
    · rw [w64 (n := xs.getD a.toNat 0) (by omega) (by omega), w64 (n := s * 31) (by omega) (by omega), w64 (n := s * 31 + _) (by omega) (by omega), w64 (by omega) (by omega), Int.tmod_eq_emod_of_nonneg (by omega)]
      omega
  · rw [if_neg (fb c)]
    by_cases c2 : a + 1 > 3000
    · rw [if_pos (tb c2)]
      exact ⟨_, _, _, rfl, by omega, h0, h1, by omega, by omega, h4, h5⟩
    · rw [if_neg (fb c2)]
      have e3 : IntKind.i64.wrap (s * 1103515245) = s * 1103515245 := w64 (by omega) (by omega)
      have e4 : IntKind.i64.wrap (s * 1103515245 + 12345) = s * 1103515245 + 12345 := w64 (by omega) (by omega)
      have e5 : Int.tmod (s * 1103515245 + 12345) 2147483648 = (s * 1103515245 + 12345) % 2147483648 := Int.tmod_eq_emod_of_nonneg (by omega)
      rw [e3, e4, e5]
      have h6 : 0 ≤ (s * 1103515245 + 12345) % 2147483648 ∧ (s * 1103515245 + 12345) % 2147483648 < 2147483648 := by omega
      generalize (s * 1103515245 + 12345) % 2147483648 = z at h6
      have e6 : Int.tdiv z 65536 = z / 65536 := Int.tdiv_eq_ediv_of_nonneg h6.1
      rw [e6, w64 (by omega) (by omega), Int.tmod_eq_emod_of_nonneg (by omega)]
      exact ⟨_, _, _, rfl, by omega, h0, h1, by omega, by omega, h6.1, h6.2⟩
theorem next_ok (k : Nat) {xs : List Int} {a s : Int} {n : Nat} (h : GS xs a s n) (hn : n ≤ 90000) {N : Int} (h1 : 1 ≤ N) (h2 : N ≤ 65536) : ∃ v a' s', f145 k xs a s N = some (v, xs, a', s') ∧ (0 ≤ v ∧ v < N) ∧ GS xs a' s' (n + 3) := by
  simp only [f145, f145.step]
  by_cases c : N ≤ 1
  · rw [if_pos (tb c)]
    exact ⟨_, _, _, rfl, by omega, h.to (by omega)⟩
  · rw [if_neg (fb c)]
    by_cases c2 : N ≤ 256
    · obtain ⟨v, a', s', e, hv, g⟩ := byte_ok k h (by omega)
      rw [if_pos (tb c2), e]
      simp only [Option.bind_some]
      rw [if_pos (by omega), Int.tmod_eq_emod_of_nonneg hv.1]
      exact ⟨_, _, _, rfl, ⟨Int.emod_nonneg _ (by omega), Int.emod_lt_of_pos _ (by omega)⟩, g.to (by omega)⟩
    · obtain ⟨v1, a1, s1, e1, hv1, g1⟩ := byte_ok k h (by omega)
      obtain ⟨v2, a2, s2, e2, hv2, g2⟩ := byte_ok k g1 (by omega)
      obtain ⟨v3, a3, s3, e3, hv3, g3⟩ := byte_ok k g2 (by omega)
      rw [if_neg (fb c2), e1]
      simp only [Option.bind_some, e2, e3]
      rw [if_pos (by omega), w64 (n := v1 * 65536) (by omega) (by omega), w64 (n := v2 * 256) (by omega) (by omega), w64 (n := v1 * 65536 + v2 * 256) (by omega) (by omega), w64 (by omega) (by omega), Int.tmod_eq_emod_of_nonneg (by omega)]
      exact ⟨_, _, _, rfl, ⟨Int.emod_nonneg _ (by omega), Int.emod_lt_of_pos _ (by omega)⟩, g3⟩
theorem six_loop (k : Nat) : ∀ (d j n : Nat) (i : Int) (xs : List Int) (a s : Int) (out : List Int), i ≤ d → 0 ≤ i → d < j → GS xs a s n → n + 6 * d ≤ 80000 → out.length = 16 → ∃ a' s' out', f164.l5 k j i xs a s out = some (xs, a', s', out') ∧ GS xs a' s' (n + 6 * d) ∧ out'.length = 16 := by
  intro d
  induction d with
  | zero =>
    intro j n i xs a s out hi h0 hj g hn ho
    obtain ⟨j, rfl⟩ : ∃ j', j = j' + 1 := ⟨j - 1, by omega⟩
    simp only [f164.l5, f164.l5.step]
    rw [if_neg (fb (by omega))]
    exact ⟨_, _, _, rfl, g.to (by omega), ho⟩
  | succ d ih =>
    intro j n i xs a s out hi h0 hj g hn ho
    obtain ⟨j, rfl⟩ : ∃ j', j = j' + 1 := ⟨j - 1, by omega⟩
    simp only [f164.l5, f164.l5.step]
    by_cases c : i > 0
    · obtain ⟨v1, a1, s1, e1, hv1, g1⟩ := next_ok k g (by omega) (N := 16) (by omega) (by omega)
      obtain ⟨v2, a2, s2, e2, hv2, g2⟩ := next_ok k g1 (by omega) (N := 256) (by omega) (by omega)
      rw [if_pos (tb c), e1]
      simp only [Option.bind_some, e2]
      rw [if_pos (by omega), if_pos (by omega), w64 (by omega) (by omega)]
      obtain ⟨a', s', out', e, g', ho'⟩ := ih j (n + 6) (i - 1) xs a2 s2 (out.set v1.toNat (IntKind.u8.wrap v2)) (by omega) (by omega) (by omega) (g2.to (by omega)) (by omega) (by simpa using ho)
      exact ⟨a', s', out', e, g'.to (by omega), ho'⟩
    · rw [if_neg (fb c)]
      exact ⟨_, _, _, rfl, g.to (by omega), ho⟩
theorem addr6_ok {k : Nat} (hK : 2097152 ≤ k) {xs : List Int} {a s : Int} {n : Nat} (g : GS xs a s n) (hn : n ≤ 70000) : ∃ t a' s', f164 k xs a s = some (t, xs, a', s') ∧ GS xs a' s' (n + 30) ∧ t.size = 16 := by
  obtain ⟨v1, a1, s1, e1, hv1, g1⟩ := next_ok k g (by omega) (N := 2) (by omega) (by omega)
  obtain ⟨v2, a2, s2, e2, hv2, g2⟩ := next_ok k g1 (by omega) (N := 4) (by omega) (by omega)
  obtain ⟨a', s', out', e, g', ho⟩ := six_loop k 4 k (n + 6) v2 xs a2 s2 (List.set (List.set (List.replicate 16 0) 0 32) 1 (IntKind.u8.wrap v1)) (by omega) hv2.1 (by omega) g2 (by omega) (by simp)
  simp only [f164, f164.step, e1, Option.bind_some, e2]
  rw [if_pos (by decide), if_pos (by decide), e]
  exact ⟨_, _, _, rfl, g'.to (by omega), by rw [strOf_size, ho]⟩
theorem bytes_loop (k : Nat) : ∀ (d j n : Nat) (i : Int) (xs : List Int) (a s : Int) (out : List Int), i ≤ d → 0 ≤ i → d < j → GS xs a s n → n + 3 * d ≤ 80000 → out.length + d ≤ 1000 → Bytes out → ∃ a' s' out', f165.l3 k j i xs a s out = some (xs, a', s', out') ∧ GS xs a' s' (n + 3 * d) ∧ out'.length ≤ out.length + d ∧ Bytes out' := by
  intro d
  induction d with
  | zero =>
    intro j n i xs a s out hi h0 hj g hn ho hB
    obtain ⟨j, rfl⟩ : ∃ j', j = j' + 1 := ⟨j - 1, by omega⟩
    simp only [f165.l3, f165.l3.step]
    rw [if_neg (fb (by omega))]
    exact ⟨_, _, _, rfl, g.to (by omega), by omega, hB⟩
  | succ d ih =>
    intro j n i xs a s out hi h0 hj g hn ho hB
    obtain ⟨j, rfl⟩ : ∃ j', j = j' + 1 := ⟨j - 1, by omega⟩
    simp only [f165.l3, f165.l3.step]
    by_cases c : i > 0
    · obtain ⟨v1, a1, s1, e1, hv1, g1⟩ := next_ok k g (by omega) (N := 256) (by omega) (by omega)
      rw [if_pos (tb c), e1]
      simp only [Option.bind_some]
      rw [if_pos (by simp [maxN]; omega), w64 (by omega) (by omega)]
      obtain ⟨a', s', out', e, g', hl, hB'⟩ := ih j (n + 3) (i - 1) xs a1 s1 (out ++ [IntKind.u8.wrap v1]) (by omega) (by omega) (by omega) g1 (by omega) (by simp; omega) (hB.snoc (wu8 _))
      exact ⟨a', s', out', e, g'.to (by omega), by simp at hl; omega, hB'⟩
    · rw [if_neg (fb c)]
      exact ⟨_, _, _, rfl, g.to (by omega), by omega, hB⟩
theorem bytes_ok {k : Nat} (hK : 2097152 ≤ k) {xs : List Int} {a s : Int} {n : Nat} (g : GS xs a s n) (hn : n ≤ 70000) : ∃ t a' s', f165 k xs a s 40 = some (t, xs, a', s') ∧ GS xs a' s' (n + 130) ∧ t.length ≤ 40 ∧ Bytes t := by
  have hw : IntKind.i64.wrap (40 + 1) = 41 := w64 (by omega) (by omega)
  obtain ⟨v1, a1, s1, e1, hv1, g1⟩ := next_ok k g (by omega) (N := 41) (by omega) (by omega)
  obtain ⟨a', s', out', e, g', hl, hB⟩ := bytes_loop k 40 k (n + 3) v1 xs a1 s1 [] (by omega) hv1.1 (by omega) g1 (by omega) (by simp) (by intro x hx; cases hx)
  simp only [f165, f165.step, hw, e1, Option.bind_some, e]
  exact ⟨_, _, _, rfl, g'.to (by omega), by simpa using hl, hB⟩
theorem chance_ok (k : Nat) {xs : List Int} {a s : Int} {n : Nat} (g : GS xs a s n) (hn : n ≤ 70000) {N : Int} (h1 : 1 ≤ N) (h2 : N ≤ 65536) : ∃ t a' s', f166 k xs a s N = some (t, xs, a', s') ∧ GS xs a' s' (n + 3) := by
  obtain ⟨v1, a1, s1, e1, hv1, g1⟩ := next_ok k g (by omega) h1 h2
  simp only [f166, f166.step, e1, Option.bind_some]
  exact ⟨_, _, _, rfl, g1⟩
theorem addr4_ok (k : Nat) {xs : List Int} {a s : Int} {n : Nat} (g : GS xs a s n) (hn : n ≤ 70000) : ∃ t a' s', f167 k xs a s = some (t, xs, a', s') ∧ GS xs a' s' (n + 9) ∧ t.size = 4 := by
  obtain ⟨v1, a1, s1, e1, hv1, g1⟩ := next_ok k g (by omega) (N := 3) (by omega) (by omega)
  obtain ⟨v2, a2, s2, e2, hv2, g2⟩ := next_ok k g1 (by omega) (N := 2) (by omega) (by omega)
  obtain ⟨v3, a3, s3, e3, hv3, g3⟩ := next_ok k g2 (by omega) (N := 4) (by omega) (by omega)
  simp only [f167, f167.step, e1, Option.bind_some, e2, e3]
  exact ⟨_, _, _, rfl, g3, rfl⟩
/-- A drawn packet: what is known of it. -/
def PK (xs : List Int) (n : Nat) (t : Int × ByteArray × ByteArray × Int × Int × Int × Int × Bool × Bool × List Int × List Int × Int × Int) : Prop :=
  PkOK t.1 t.2.1 t.2.2.1 t.2.2.2.1 t.2.2.2.2.1 t.2.2.2.2.2.1 t.2.2.2.2.2.2.1 t.2.2.2.2.2.2.2.1 t.2.2.2.2.2.2.2.2.1 t.2.2.2.2.2.2.2.2.2.1.length ∧ Bytes t.2.2.2.2.2.2.2.2.2.1 ∧ t.2.2.2.2.2.2.2.2.2.1.length ≤ 1440 ∧ t.2.2.2.2.2.2.2.2.2.2.1 = xs ∧ GS xs t.2.2.2.2.2.2.2.2.2.2.2.1 t.2.2.2.2.2.2.2.2.2.2.2.2 n
theorem packet_ok {k : Nat} (hK : 2097152 ≤ k) {xs : List Int} {a s : Int} {n : Nat} (g : GS xs a s n) (hn : n ≤ 60000) : ∃ t, f123 k xs a s = some t ∧ PK xs (n + 300) t := by
  obtain ⟨u1, a1, s1, e1, g1, z1⟩ := addr6_ok hK g (by omega)
  obtain ⟨u2, a2, s2, e2, g2, z2⟩ := addr6_ok hK g1 (by omega)
  obtain ⟨v3, a3, s3, e3, hv3, g3⟩ := next_ok k g2 (by omega) (N := 4) (by omega) (by omega)
  obtain ⟨v4, a4, s4, e4, hv4, g4⟩ := next_ok k g3 (by omega) (N := 256) (by omega) (by omega)
  obtain ⟨d, a5, s5, e5, g5, hd, hdB⟩ := bytes_ok hK g4 (by omega)
  obtain ⟨b6, a6, s6, e6, g6⟩ := chance_ok k g5 (by omega) (N := 3) (by omega) (by omega)
  have hhop : 0 ≤ List.getD ([64, 1, 0, 255] : List Int) v3.toNat 0 ∧ List.getD ([64, 1, 0, 255] : List Int) v3.toNat 0 ≤ 255 := getD_byte (by intro x hx; simp at hx; omega) _
  simp only [f123, f123.step, e1, Option.bind_some, e2, e3, e4, e5, e6]
  rw [if_pos hv3.1, if_pos (by simpa using hv3.2)]
  -- the rest, once the data are known
  have rest : ∀ (d : List Int) (a7 s7 : Int), d.length ≤ 1440 → Bytes d → GS xs a7 s7 (n + 240) → ∃ t, ((f166 k xs a7 s7 2).bind fun t17 => if t17.1 = true then
      (f167 k t17.2.1 t17.2.2.1 t17.2.2.2).bind fun t18 => (f167 k t18.2.1 t18.2.2.1 t18.2.2.2).bind fun t19 => (f145 k t19.2.1 t19.2.2.1 t19.2.2.2 65536).bind fun t20 => (f145 k t20.2.1 t20.2.2.1 t20.2.2.2 4).bind fun t21 => if decide (t21.1 = 0) = true then
        some ((4 : Int), t18.1, t19.1, (List.getD ([64, 1, 0, 255] : List Int) v3.toNat 0), v4, t20.1, (0 : Int), false, true, d, t21.2.1, t21.2.2.1, t21.2.2.2)
      else if decide (t21.1 = 1) = true then
        (f145 k t21.2.1 t21.2.2.1 t21.2.2.2 20).bind fun t22 => if decide ((Int.tmod (d.length : Int) 8) = 0) = true then
          some ((4 : Int), t18.1, t19.1, (List.getD ([64, 1, 0, 255] : List Int) v3.toNat 0), v4, t20.1, t22.1, decide ((d.length : Int) > 0), false, d, t22.2.1, t22.2.2.1, t22.2.2.2)
        else some ((4 : Int), t18.1, t19.1, (List.getD ([64, 1, 0, 255] : List Int) v3.toNat 0), v4, t20.1, t22.1, false, false, d, t22.2.1, t22.2.2.1, t22.2.2.2)
      else some ((4 : Int), t18.1, t19.1, (List.getD ([64, 1, 0, 255] : List Int) v3.toNat 0), v4, t20.1, (0 : Int), false, false, d, t21.2.1, t21.2.2.1, t21.2.2.2)
    else some ((6 : Int), u1, u2, (List.getD ([64, 1, 0, 255] : List Int) v3.toNat 0), v4, (0 : Int), (0 : Int), false, false, d, t17.2.1, t17.2.2.1, t17.2.2.2)) = some t ∧ PK xs (n + 300) t := fun d a7 s7 hd hdB g7 => by
    have hv4' : 0 ≤ v4 ∧ v4 ≤ 255 := by omega
    have h8 : decide (Int.tmod (d.length : Int) 8 = 0) = true → d.length % 8 = 0 := fun h => by rw [tm8] at h; have := of_decide_eq_true h; omega
    obtain ⟨b8, a8, s8, e8, g8⟩ := chance_ok k g7 (by omega) (N := 2) (by omega) (by omega)
    obtain ⟨u9, a9, s9, e9, g9, z9⟩ := addr4_ok k g8 (by omega)
    obtain ⟨u10, a10, s10, e10, g10, z10⟩ := addr4_ok k g9 (by omega)
    obtain ⟨v11, a11, s11, e11, hv11, g11⟩ := next_ok k g10 (by omega) (N := 65536) (by omega) (by omega)
    obtain ⟨v12, a12, s12, e12, hv12, g12⟩ := next_ok k g11 (by omega) (N := 4) (by omega) (by omega)
    obtain ⟨v13, a13, s13, e13, hv13, g13⟩ := next_ok k g12 (by omega) (N := 20) (by omega) (by omega)
    simp only [e8, Option.bind_some, e9, e10, e11, e12, e13]
    split
    · split
      · exact ⟨_, rfl, (show PkOK 4 u9 u10 (List.getD ([64, 1, 0, 255] : List Int) v3.toNat 0) v4 v11 0 false true d.length from ⟨hhop, hv4', by omega, .inl ⟨rfl, z9, z10, by omega, by omega, fun _ => ⟨rfl, rfl⟩, fun h => by simp at h, by omega⟩⟩), hdB, hd, rfl, g12.to (by omega)⟩
      · split
        · split
          · exact ⟨_, rfl, (show PkOK 4 u9 u10 (List.getD ([64, 1, 0, 255] : List Int) v3.toNat 0) v4 v11 v13 (decide ((d.length : Int) > 0)) false d.length from ⟨hhop, hv4', by omega, .inl ⟨rfl, z9, z10, by omega, by omega, fun h => by simp at h, fun h => ⟨h8 (by assumption), by simpa using h⟩, by omega⟩⟩), hdB, hd, rfl, g13.to (by omega)⟩
          · exact ⟨_, rfl, (show PkOK 4 u9 u10 (List.getD ([64, 1, 0, 255] : List Int) v3.toNat 0) v4 v11 v13 false false d.length from ⟨hhop, hv4', by omega, .inl ⟨rfl, z9, z10, by omega, by omega, fun h => by simp at h, fun h => by simp at h, by omega⟩⟩), hdB, hd, rfl, g13.to (by omega)⟩
        · exact ⟨_, rfl, (show PkOK 4 u9 u10 (List.getD ([64, 1, 0, 255] : List Int) v3.toNat 0) v4 v11 0 false false d.length from ⟨hhop, hv4', by omega, .inl ⟨rfl, z9, z10, by omega, by omega, fun h => by simp at h, fun h => by simp at h, by omega⟩⟩), hdB, hd, rfl, g12.to (by omega)⟩
    · exact ⟨_, rfl, (show PkOK 6 u1 u2 (List.getD ([64, 1, 0, 255] : List Int) v3.toNat 0) v4 0 0 false false d.length from ⟨hhop, hv4', by omega, .inr ⟨rfl, z1, z2, rfl, rfl, rfl, rfl⟩⟩), hdB, hd, rfl, g8.to (by omega)⟩
  split
  · obtain ⟨v7, a7, s7, e7, hv7, g7⟩ := next_ok k g6 (by omega) (N := 1400) (by omega) (by omega)
    simp only [e7, Option.bind_some]
    rw [if_pos hv7.1, if_pos (by simp [maxN]; omega)]
    exact rest _ _ _ (by simp; omega) (hdB.append (fun x hx => by have := List.eq_of_mem_replicate hx; omega)) (g7.to (by omega))
  · exact rest _ _ _ (by omega) hdB (g6.to (by omega))
/-! ### a packet's bytes -/
def flg (off : Int) (more keep : Bool) : Int := off + (if more = true then 8192 else 0) + (if keep = true then 16384 else 0)
def h4 (n : Nat) (id fl hop proto c0 c1 : Int) (r : List Int) : List Int := 69 :: 0 :: (20 + (n : Int)) / 256 :: (20 + (n : Int)) % 256 :: id / 256 :: id % 256 :: fl / 256 :: fl % 256 :: hop :: proto :: c0 :: c1 :: r
def pb4 (A B : ByteArray) (hop proto id fl : Int) (d : List Int) : List Int :=
  h4 d.length id fl hop proto (csum (h4 d.length id fl hop proto 0 0 (bytesOf A ++ bytesOf B)) / 256) (csum (h4 d.length id fl hop proto 0 0 (bytesOf A ++ bytesOf B)) % 256) (bytesOf A ++ (bytesOf B ++ d))
def pb6 (A B : ByteArray) (hop proto : Int) (d : List Int) : List Int := 96 :: 0 :: 0 :: 0 :: (d.length : Int) / 256 :: (d.length : Int) % 256 :: proto :: hop :: (bytesOf A ++ (bytesOf B ++ d))
def pb (v : Int) (A B : ByteArray) (hop proto id off : Int) (more keep : Bool) (d : List Int) : List Int := if v = 6 then pb6 A B hop proto d else pb4 A B hop proto id (flg off more keep) d
theorem hi8 {a : Int} (h : 0 ≤ a ∧ a ≤ 65535) : IntKind.u8.wrap (Int.fdiv a (2 ^ (min (Int.toNat 8) IntKind.i64.bits))) = a / 256 := by
  have q : (2 ^ (min (Int.toNat 8) IntKind.i64.bits) : Int) = 256 := by decide
  rw [q, Int.fdiv_eq_ediv_of_nonneg _ (by omega), IntKind.wrap_u8]; omega
theorem lo8 (a : Int) : IntKind.u8.wrap a = a % 256 := by rw [IntKind.wrap_u8]
theorem hi8s {a : Int} (h : 0 ≤ a ∧ a ≤ 65535) : IntKind.u8.wrap (IntKind.i64.wrap (Int.tdiv a 256)) = a / 256 := by
  rw [Int.tdiv_eq_ediv_of_nonneg h.1, w64 (by omega) (by omega), IntKind.wrap_u8]; omega
theorem lo8s {a : Int} (h : 0 ≤ a ∧ a ≤ 65535) : IntKind.u8.wrap (Int.tmod a 256) = a % 256 := by
  rw [Int.tmod_eq_emod_of_nonneg h.1, IntKind.wrap_u8]; omega
theorem h4_bytes {n : Nat} {id fl hop proto c0 c1 : Int} {r : List Int} (hn : n ≤ 1500) (h1 : 0 ≤ id ∧ id ≤ 65535) (h2 : 0 ≤ fl ∧ fl ≤ 65535) (h3 : 0 ≤ hop ∧ hop ≤ 255) (h4' : 0 ≤ proto ∧ proto ≤ 255) (h5 : 0 ≤ c0 ∧ c0 ≤ 255) (h6 : 0 ≤ c1 ∧ c1 ≤ 255) (hr : Bytes r) : Bytes (h4 n id fl hop proto c0 c1 r) := by
  unfold h4
  exact ((((((((((((hr.cons h6).cons h5).cons h4').cons h3).cons (by omega)).cons (by omega)).cons (by omega)).cons (by omega)).cons (by omega)).cons (by omega)).cons (by omega)).cons (by omega))
theorem flg_range {off : Int} {more keep : Bool} (h : 0 ≤ off ∧ off ≤ 8191) : 0 ≤ flg off more keep ∧ flg off more keep ≤ 32767 := by
  cases more <;> cases keep <;> simp [flg] <;> omega
theorem impl_bytes {k : Nat} (hK : 2097152 ≤ k) {v : Int} {A B : ByteArray} {hop proto id off : Int} {more keep : Bool} {d : List Int} (h : PkOK v A B hop proto id off more keep d.length) :
    f124 k v A B hop proto id off more keep d = some (pb v A B hop proto id off more keep d) := by
  obtain ⟨hh, hp, hn, ⟨rfl, hA, hB, hid, hoff, _⟩ | ⟨rfl, hA, hB, _⟩⟩ := h
  · have hf := flg_range (more := more) (keep := keep) hoff
    have hbl : (bytesOf A).length = 4 := by rw [bytesOf_length, hA]
    have hbl2 : (bytesOf B).length = 4 := by rw [bytesOf_length, hB]
    have hs := implSum hK (h4_bytes hn hid (by omega) hh hp (c0 := 0) (c1 := 0) (fl := flg off more keep) (by omega) (by omega) ((bytesOf_bytes A).append (bytesOf_bytes B))) (by simp [h4, hbl, hbl2])
    have hc := csum_range (h4_bytes hn hid (by omega) hh hp (c0 := 0) (c1 := 0) (fl := flg off more keep) (by omega) (by omega) ((bytesOf_bytes A).append (bytesOf_bytes B)))
    simp only [pb, pb4, if_neg (show ¬ (4 : Int) = 6 by omega)]
    generalize csum (h4 d.length id (flg off more keep) hop proto 0 0 (bytesOf A ++ bytesOf B)) = c at hs hc
    have w0 : IntKind.i64.wrap (20 + (d.length : Int)) = 20 + (d.length : Int) := w64 (by omega) (by omega)
    have e1 : IntKind.u8.wrap hop = hop := wu8_eq hh
    have e2 : IntKind.u8.wrap proto = proto := wu8_eq hp
    have core : ∀ (f : Int), f = flg off more keep → ((f168 k (20 + (d.length : Int))).bind fun t12 => if (List.length ([69, 0] : List Int) + List.length t12) * 1 ≤ maxN then
            (f168 k id).bind fun t13 => if (List.length (([69, 0] : List Int) ++ t12) + List.length t13) * 1 ≤ maxN then
                (f168 k f).bind fun t14 => if (List.length ((([69, 0] : List Int) ++ t12) ++ t13) + List.length t14) * 1 ≤ maxN then
                    if (List.length (((([69, 0] : List Int) ++ t12) ++ t13) ++ t14) + List.length ([hop, proto, 0, 0] : List Int)) * 1 ≤ maxN then
                      if List.length ((((([69, 0] : List Int) ++ t12) ++ t13) ++ t14) ++ ([hop, proto, 0, 0] : List Int)) + List.length (bytesOf A) ≤ maxN then
                        if List.length (((((([69, 0] : List Int) ++ t12) ++ t13) ++ t14) ++ ([hop, proto, 0, 0] : List Int)) ++ (bytesOf A)) + List.length (bytesOf B) ≤ maxN then
                          if (10 : Int) ≤ ((List.length ((((((([69, 0] : List Int) ++ t12) ++ t13) ++ t14) ++ ([hop, proto, 0, 0] : List Int)) ++ (bytesOf A)) ++ (bytesOf B)) : Nat) : Int) then
                            if ((List.length ((((((([69, 0] : List Int) ++ t12) ++ t13) ++ t14) ++ ([hop, proto, 0, 0] : List Int)) ++ (bytesOf A)) ++ (bytesOf B)) : Nat) : Int) ≤ ((List.length ((((((([69, 0] : List Int) ++ t12) ++ t13) ++ t14) ++ ([hop, proto, 0, 0] : List Int)) ++ (bytesOf A)) ++ (bytesOf B)) : Nat) : Int) then
                              (f94 k ((((((([69, 0] : List Int) ++ t12) ++ t13) ++ t14) ++ ([hop, proto, 0, 0] : List Int)) ++ (bytesOf A)) ++ (bytesOf B))).bind fun t15 => (f168 k t15).bind fun t16 => if (List.length (copyL ((((((([69, 0] : List Int) ++ t12) ++ t13) ++ t14) ++ ([hop, proto, 0, 0] : List Int)) ++ (bytesOf A)) ++ (bytesOf B)) 10 ((Int.toNat ((List.length ((((((([69, 0] : List Int) ++ t12) ++ t13) ++ t14) ++ ([hop, proto, 0, 0] : List Int)) ++ (bytesOf A)) ++ (bytesOf B)) : Nat) : Int)) - 10) t16) + List.length d) * 1 ≤ maxN then
                                    some ((copyL ((((((([69, 0] : List Int) ++ t12) ++ t13) ++ t14) ++ ([hop, proto, 0, 0] : List Int)) ++ (bytesOf A)) ++ (bytesOf B)) 10 ((Int.toNat ((List.length ((((((([69, 0] : List Int) ++ t12) ++ t13) ++ t14) ++ ([hop, proto, 0, 0] : List Int)) ++ (bytesOf A)) ++ (bytesOf B)) : Nat) : Int)) - 10) t16) ++ d)
                                  else none
                            else none
                          else none
                        else none
                      else none
                    else none
                  else none
              else none
          else none) = some (h4 d.length id (flg off more keep) hop proto (c / 256) (c % 256) (bytesOf A ++ (bytesOf B ++ d))) := fun f hf' => by
      subst hf'
      have q1 : (20 + (d.length : Int)) ≤ 65535 := by omega
      simp only [h4] at hs
      simp only [f168, f168.step, Option.bind_some, hi8 (show 0 ≤ 20 + (d.length : Int) ∧ 20 + (d.length : Int) ≤ 65535 by omega), hi8 hid, hi8 (show 0 ≤ flg off more keep ∧ flg off more keep ≤ 65535 by omega), lo8, List.cons_append, List.nil_append, List.append_assoc, hs, hi8 hc]
      simp only [List.length_cons, List.length_nil, List.length_append, hbl, hbl2, copyL]
      rw [if_pos (by simp [maxN]), if_pos (by simp [maxN]), if_pos (by simp [maxN]), if_pos (by simp [maxN]), if_pos (by simp [maxN]), if_pos (by simp [maxN]), if_pos (by simp), if_pos (by simp), if_pos (by simp [maxN, hbl, hbl2]; omega)]
      simp [h4]
      have := hi8 hc
      rw [lo8] at this
      simpa using this
    cases keep <;> cases more
    · have := core off (by simp [flg])
      simp only [f124, f124.step, w0, e1, e2]
      exact this
    · have := core (off + 8192) (by simp [flg])
      have w1 : IntKind.i64.wrap (off + 8192) = off + 8192 := w64 (by omega) (by omega)
      simp only [f124, f124.step, w0, e1, e2, w1]
      exact this
    · have := core (off + 16384) (by simp [flg])
      have w1 : IntKind.i64.wrap (off + 16384) = off + 16384 := w64 (by omega) (by omega)
      simp only [f124, f124.step, w0, e1, e2, w1]
      exact this
    · have := core (off + 16384 + 8192) (by simp [flg]; omega)
      have w1 : IntKind.i64.wrap (off + 16384) = off + 16384 := w64 (by omega) (by omega)
      have w2 : IntKind.i64.wrap (off + 16384 + 8192) = off + 16384 + 8192 := w64 (by omega) (by omega)
      simp only [f124, f124.step, w0, e1, e2, w1, w2]
      exact this
  · have hbl : (bytesOf A).length = 16 := by rw [bytesOf_length, hA]
    have hbl2 : (bytesOf B).length = 16 := by rw [bytesOf_length, hB]
    simp only [pb, pb6, if_true]
    simp only [f124, f124.step, f168, f168.step, Option.bind_some, hi8 (show 0 ≤ (d.length : Int) ∧ (d.length : Int) ≤ 65535 by omega), lo8, List.cons_append, List.nil_append, List.append_assoc, decide_true, if_true]
    simp only [List.length_cons, List.length_nil, List.length_append, hbl, hbl2]
    rw [if_pos (by simp [maxN]), if_pos (by simp [maxN]), if_pos (by simp [maxN]), if_pos (by simp [maxN]), if_pos (by simp [maxN]; omega)]
    rw [show proto % 256 = proto by omega, show hop % 256 = hop by omega]
theorem set_set4 {n : Nat} {id fl hop proto c0 c1 x y : Int} {r : List Int} : List.set (List.set (h4 n id fl hop proto c0 c1 r) 10 x) 11 y = h4 n id fl hop proto x y r := rfl
theorem bit_spec (k : Nat) (b : Bool) (x : Int) : f99 k b x = some (if b = true then x else 0) := by
  cases b <;> simp [f99, f99.step]
theorem spec_bytes {k : Nat} (hK : 2097152 ≤ k) {v : Int} {A B : ByteArray} {hop proto id off : Int} {more keep : Bool} {d : List Int} (h : PkOK v A B hop proto id off more keep d.length) :
    f125 k v A B hop proto id off more keep d = some (pb v A B hop proto id off more keep d) := by
  obtain ⟨hh, hp, hn, ⟨rfl, hA, hB, hid, hoff, _⟩ | ⟨rfl, hA, hB, _⟩⟩ := h
  · have hf := flg_range (more := more) (keep := keep) hoff
    have hbl : (bytesOf A).length = 4 := by rw [bytesOf_length, hA]
    have hbl2 : (bytesOf B).length = 4 := by rw [bytesOf_length, hB]
    have hs := specSum hK (h4_bytes hn hid (by omega) hh hp (c0 := 0) (c1 := 0) (fl := flg off more keep) (by omega) (by omega) ((bytesOf_bytes A).append (bytesOf_bytes B))) (by simp [h4, hbl, hbl2])
    have hc := csum_range (h4_bytes hn hid (by omega) hh hp (c0 := 0) (c1 := 0) (fl := flg off more keep) (by omega) (by omega) ((bytesOf_bytes A).append (bytesOf_bytes B)))
    simp only [pb, pb4, if_neg (show ¬ (4 : Int) = 6 by omega)]
    generalize csum (h4 d.length id (flg off more keep) hop proto 0 0 (bytesOf A ++ bytesOf B)) = c at hs hc
    have w0 : IntKind.i64.wrap (20 + (d.length : Int)) = 20 + (d.length : Int) := w64 (by omega) (by omega)
    have e1 : IntKind.u8.wrap hop = hop := wu8_eq hh
    have e2 : IntKind.u8.wrap proto = proto := wu8_eq hp
    have e3 : IntKind.i64.wrap (IntKind.i64.wrap ((if keep = true then 16384 else 0) + (if more = true then 8192 else 0)) + off) = flg off more keep := by
      have ein : ∀ a b : Int, (0 ≤ a ∧ a ≤ 16384) → (0 ≤ b ∧ b ≤ 8192) → IntKind.i64.wrap (IntKind.i64.wrap (a + b) + off) = a + b + off := fun a b h1 h2 => by
        rw [w64 (n := a + b) (by omega) (by omega), w64 (by omega) (by omega)]
      rw [ein _ _ (by split <;> omega) (by split <;> omega)]
      simp only [flg]; omega
    have n6 : decide ((4 : Int) = 6) = false := by decide
    simp only [h4] at hs
    simp only [f125, f125.step, n6, w0, e1, e2, f169, f169.step, bit_spec, e3, Option.bind_some, hi8s (show 0 ≤ 20 + (d.length : Int) ∧ 20 + (d.length : Int) ≤ 65535 by omega), hi8s hid, hi8s (show 0 ≤ flg off more keep ∧ flg off more keep ≤ 65535 by omega), lo8s (show 0 ≤ 20 + (d.length : Int) ∧ 20 + (d.length : Int) ≤ 65535 by omega), lo8s hid, lo8s (show 0 ≤ flg off more keep ∧ flg off more keep ≤ 65535 by omega), List.cons_append, List.nil_append, List.append_assoc, hs, hi8s hc, lo8s hc, Bool.false_eq_true, if_false]
    simp only [List.length_set, List.length_cons, List.length_nil, List.length_append, hbl, hbl2]
    rw [if_pos (by simp [maxN]), if_pos (by simp [maxN]), if_pos (by simp [maxN]), if_pos (by simp [maxN]), if_pos (by simp [maxN]), if_pos (by simp [maxN]), if_pos (by simp), if_pos (by simp), if_pos (by simp [maxN]; omega)]
    simp [h4]
  · have hbl : (bytesOf A).length = 16 := by rw [bytesOf_length, hA]
    have hbl2 : (bytesOf B).length = 16 := by rw [bytesOf_length, hB]
    simp only [pb, pb6, if_true]
    simp only [f125, f125.step, f169, f169.step, Option.bind_some, hi8s (show 0 ≤ (d.length : Int) ∧ (d.length : Int) ≤ 65535 by omega), lo8s (show 0 ≤ (d.length : Int) ∧ (d.length : Int) ≤ 65535 by omega), wu8_eq hp, wu8_eq hh, List.cons_append, List.nil_append, List.append_assoc, decide_true, if_true]
    simp only [List.length_cons, List.length_nil, List.length_append, hbl, hbl2]
    rw [if_pos (by simp [maxN]), if_pos (by simp [maxN]), if_pos (by simp [maxN]), if_pos (by simp [maxN]), if_pos (by simp [maxN]; omega)]
theorem pb_bytes {v : Int} {A B : ByteArray} {hop proto id off : Int} {more keep : Bool} {d : List Int} (h : PkOK v A B hop proto id off more keep d.length) (hd : Bytes d) : Bytes (pb v A B hop proto id off more keep d) := by
  obtain ⟨hh, hp, hn, ⟨rfl, hA, hB, hid, hoff, _⟩ | ⟨rfl, hA, hB, _⟩⟩ := h
  · have hf := flg_range (more := more) (keep := keep) hoff
    have hc := csum_range (h4_bytes hn hid (by omega) hh hp (c0 := 0) (c1 := 0) (fl := flg off more keep) (by omega) (by omega) ((bytesOf_bytes A).append (bytesOf_bytes B)))
    simp only [pb, pb4, if_neg (show ¬ (4 : Int) = 6 by omega)]
    exact h4_bytes hn hid (by omega) hh hp (by omega) (by omega) ((bytesOf_bytes A).append ((bytesOf_bytes B).append hd))
  · simp only [pb, pb6, if_true]
    have hr := (bytesOf_bytes A).append ((bytesOf_bytes B).append hd)
    exact (((((((hr.cons hh).cons hp).cons (by omega)).cons (by omega)).cons (by omega)).cons (by omega)).cons (by omega)).cons (by omega)
theorem pb_length {v : Int} {A B : ByteArray} {hop proto id off : Int} {more keep : Bool} {d : List Int} (h : PkOK v A B hop proto id off more keep d.length) : 20 ≤ (pb v A B hop proto id off more keep d).length ∧ (pb v A B hop proto id off more keep d).length ≤ 1540 := by
  obtain ⟨hh, hp, hn, ⟨rfl, hA, hB, hid, hoff, _⟩ | ⟨rfl, hA, hB, _⟩⟩ := h
  · simp only [pb, pb4, h4, if_neg (show ¬ (4 : Int) = 6 by omega), List.length_cons, List.length_append, bytesOf_length, hA, hB]; omega
  · simp only [pb, pb6, if_true, List.length_cons, List.length_append, bytesOf_length, hA, hB]; omega
theorem fold_zero {s c : Int} (h0 : 0 < s) (hc : c = 65535 - fold s) : fold (s + c) = 65535 := by
  have e : fold s = (s - 1) % 65535 + 1 := by simp only [fold]; rw [if_neg (by omega)]
  rw [e] at hc
  simp only [fold]
  rw [if_neg (by omega)]
  omega
/-- A packet that is read again. -/
theorem read_pb {v : Int} {A B : ByteArray} {hop proto id off : Int} {more keep : Bool} {d : List Int} (h : PkOK v A B hop proto id off more keep d.length) (hd : Bytes d) :
    rdP (pb v A B hop proto id off more keep d) = .inr (v, A, B, hop, proto, id, off, more, keep, d, 0) := by
  have hl := pb_length h
  have h' := h
  simp only [rdP]
  rw [if_neg (by omega), if_neg (by omega)]
  obtain ⟨hh, hp, hn, ⟨rfl, hA, hB, hid, hoff, _⟩ | ⟨rfl, hA, hB, rfl, rfl, rfl, rfl⟩⟩ := h
  · have hf := flg_range (more := more) (keep := keep) hoff
    have hal : (bytesOf A).length = 4 := by rw [bytesOf_length, hA]
    have hbl : (bytesOf B).length = 4 := by rw [bytesOf_length, hB]
    have hBy := h4_bytes hn hid (by omega) hh hp (c0 := 0) (c1 := 0) (fl := flg off more keep) (by omega) (by omega) ((bytesOf_bytes A).append (bytesOf_bytes B))
    have hc := csum_range hBy
    have hi := (isum_range _ hBy).1
    simp only [pb, pb4, if_neg (show ¬ (4 : Int) = 6 by omega)] at hl ⊢
    have hz : ∀ c0 c1, isum (h4 d.length id (flg off more keep) hop proto c0 c1 (bytesOf A ++ bytesOf B)) = isum (h4 d.length id (flg off more keep) hop proto 0 0 (bytesOf A ++ bytesOf B)) + (c0 * 256 + c1) := fun c0 c1 => by
      simp only [h4, isum]; omega
    have hpos : 0 < isum (h4 d.length id (flg off more keep) hop proto 0 0 (bytesOf A ++ bytesOf B)) := by
      have := (isum_range _ ((bytesOf_bytes A).append (bytesOf_bytes B))).1
      simp only [h4, isum]; omega
    have hcz : csum (h4 d.length id (flg off more keep) hop proto (csum (h4 d.length id (flg off more keep) hop proto 0 0 (bytesOf A ++ bytesOf B)) / 256) (csum (h4 d.length id (flg off more keep) hop proto 0 0 (bytesOf A ++ bytesOf B)) % 256) (bytesOf A ++ bytesOf B)) = 0 := by
      generalize hcc : csum (h4 d.length id (flg off more keep) hop proto 0 0 (bytesOf A ++ bytesOf B)) = c at *
      rw [csum, hz, show c / 256 * 256 + c % 256 = c by omega, fold_zero hpos (by rw [← hcc]; rfl)]; omega
    generalize csum (h4 d.length id (flg off more keep) hop proto 0 0 (bytesOf A ++ bytesOf B)) = c at *
    have g0 : (h4 d.length id (flg off more keep) hop proto (c / 256) (c % 256) (bytesOf A ++ (bytesOf B ++ d))).getD 0 0 = 69 := rfl
    have t20 : List.take 20 (h4 d.length id (flg off more keep) hop proto (c / 256) (c % 256) (bytesOf A ++ (bytesOf B ++ d))) = h4 d.length id (flg off more keep) hop proto (c / 256) (c % 256) (bytesOf A ++ bytesOf B) := by
      simp [h4, List.take_append, hal, hbl, List.take_of_length_le]
    have d20 : List.drop 20 (h4 d.length id (flg off more keep) hop proto (c / 256) (c % 256) (bytesOf A ++ (bytesOf B ++ d))) = d := by
      simp [h4, List.drop_append, hal, hbl, List.drop_of_length_le]
    have d16 : List.drop 16 (List.take 20 (h4 d.length id (flg off more keep) hop proto (c / 256) (c % 256) (bytesOf A ++ (bytesOf B ++ d)))) = bytesOf B := by
      rw [t20]; simp [h4, List.drop_append, hal, hbl, List.drop_of_length_le]
    have d12 : List.drop 12 (List.take 16 (h4 d.length id (flg off more keep) hop proto (c / 256) (c % 256) (bytesOf A ++ (bytesOf B ++ d)))) = bytesOf A := by
      simp [h4, List.take_append, hal, hbl, List.take_of_length_le]
    have a2 : at16 (h4 d.length id (flg off more keep) hop proto (c / 256) (c % 256) (bytesOf A ++ (bytesOf B ++ d))) 2 = 20 + (d.length : Int) := by
      show (20 + (d.length : Int)) / 256 * 256 + (20 + (d.length : Int)) % 256 = _; omega
    have a4 : at16 (h4 d.length id (flg off more keep) hop proto (c / 256) (c % 256) (bytesOf A ++ (bytesOf B ++ d))) 4 = id := by
      show id / 256 * 256 + id % 256 = _; omega
    have a6 : at16 (h4 d.length id (flg off more keep) hop proto (c / 256) (c % 256) (bytesOf A ++ (bytesOf B ++ d))) 6 = flg off more keep := by
      show flg off more keep / 256 * 256 + flg off more keep % 256 = _; omega
    have g8 : (h4 d.length id (flg off more keep) hop proto (c / 256) (c % 256) (bytesOf A ++ (bytesOf B ++ d))).getD 8 0 = hop := rfl
    have g9 : (h4 d.length id (flg off more keep) hop proto (c / 256) (c % 256) (bytesOf A ++ (bytesOf B ++ d))).getD 9 0 = proto := rfl
    have ln : (h4 d.length id (flg off more keep) hop proto (c / 256) (c % 256) (bytesOf A ++ (bytesOf B ++ d))).length = 20 + d.length := by
      simp [h4, hal, hbl]; omega
    have f1 : flg off more keep % 8192 = off := by cases more <;> cases keep <;> simp [flg] <;> omega
    have f2 : decide (flg off more keep / 8192 % 2 = 1) = more := by cases more <;> cases keep <;> simp [flg] <;> omega
    have f3 : decide (flg off more keep / 16384 % 2 = 1) = keep := by cases more <;> cases keep <;> simp [flg] <;> omega
    rw [if_neg (by rw [g0]; omega)]
    simp only [rd4, g0, a2, a4, a6, g8, g9, t20, d12, d16, d20, ln, hcz, f1, f2, f3, strOf_bytesOf]
    rw [← t20, d16] 
    rw [if_neg (by omega), if_neg (by simp), if_neg (by simp), if_neg (by simp), if_neg (by omega), if_pos (by rw [strOf_bytesOf]; exact h'), strOf_bytesOf]
  · have hal : (bytesOf A).length = 16 := by rw [bytesOf_length, hA]
    have hbl : (bytesOf B).length = 16 := by rw [bytesOf_length, hB]
    simp only [pb, pb6, if_true] at hl ⊢
    have d24 : List.drop 24 (List.take 40 (96 :: 0 :: 0 :: 0 :: (d.length : Int) / 256 :: (d.length : Int) % 256 :: proto :: hop :: (bytesOf A ++ (bytesOf B ++ d)))) = bytesOf B := by
      simp [List.take_append, List.drop_append, hal, hbl, List.take_of_length_le, List.drop_of_length_le]
    have d8 : List.drop 8 (List.take 24 (96 :: 0 :: 0 :: 0 :: (d.length : Int) / 256 :: (d.length : Int) % 256 :: proto :: hop :: (bytesOf A ++ (bytesOf B ++ d)))) = bytesOf A := by
      simp [List.take_append, hal, hbl, List.take_of_length_le]
    have d40 : List.drop 40 (96 :: 0 :: 0 :: 0 :: (d.length : Int) / 256 :: (d.length : Int) % 256 :: proto :: hop :: (bytesOf A ++ (bytesOf B ++ d))) = d := by
      simp [List.drop_append, hal, hbl, List.drop_of_length_le]
    have a4 : at16 (96 :: 0 :: 0 :: 0 :: (d.length : Int) / 256 :: (d.length : Int) % 256 :: proto :: hop :: (bytesOf A ++ (bytesOf B ++ d))) 4 = (d.length : Int) := by
      show (d.length : Int) / 256 * 256 + (d.length : Int) % 256 = _; omega
    have ln : (96 :: 0 :: 0 :: 0 :: (d.length : Int) / 256 :: (d.length : Int) % 256 :: proto :: hop :: (bytesOf A ++ (bytesOf B ++ d))).length = 40 + d.length := by
      simp [hal, hbl]; omega
    rw [if_pos (by rfl)]
    simp only [rd6, a4, d8, d24, d40, ln, strOf_bytesOf]
    have g7 : (96 :: 0 :: 0 :: 0 :: (d.length : Int) / 256 :: (d.length : Int) % 256 :: proto :: hop :: (bytesOf A ++ (bytesOf B ++ d))).getD 7 0 = hop := rfl
    have g6 : (96 :: 0 :: 0 :: 0 :: (d.length : Int) / 256 :: (d.length : Int) % 256 :: proto :: hop :: (bytesOf A ++ (bytesOf B ++ d))).getD 6 0 = proto := rfl
    simp only [g7, g6]
    rw [if_neg (by omega), if_neg (by simp; omega), if_pos h']
/-- What is read goes back into the same bytes, but for a sum of nothing. -/
theorem drop_mid {α : Type} (l : List α) {i j : Nat} (h : i ≤ j) : List.drop i (List.take j l) ++ List.drop j l = List.drop i l := by
  rw [List.drop_take]
  have : List.drop j l = List.drop (j - i) (List.drop i l) := by rw [List.drop_drop]; congr 1; omega
  rw [this, List.take_append_drop]
theorem cons2 {l : List Int} (i : Nat) (h : i + 1 < l.length) : List.drop i l = l.getD i 0 :: l.getD (i + 1) 0 :: List.drop (i + 2) l := by
  rw [List.drop_eq_getElem_cons (by omega), List.drop_eq_getElem_cons h]
  simp [List.getD_eq_getElem?_getD, List.getElem?_eq_getElem, h, show i < l.length by omega]
theorem back_pb {l : List Int} (hb : Bytes l) {v : Int} {A B : ByteArray} {hop proto id off : Int} {more keep : Bool} {d : List Int} (e : rdP l = .inr (v, A, B, hop, proto, id, off, more, keep, d, 0)) :
    PkOK v A B hop proto id off more keep d.length ∧ (pb v A B hop proto id off more keep d).length = l.length ∧
    ((v = 6 ∧ List.drop 6 (pb v A B hop proto id off more keep d) = List.drop 6 l) ∨ (v = 4 ∧ List.take 1 (pb v A B hop proto id off more keep d) = List.take 1 l ∧ List.drop 2 (List.take 10 (pb v A B hop proto id off more keep d)) = List.drop 2 (List.take 10 l) ∧ List.drop 12 (pb v A B hop proto id off more keep d) = List.drop 12 l)) := by
  simp only [rdP] at e
  split at e
  · cases e
  split at e
  · cases e
  split at e
  · simp only [rd6] at e
    split at e
    · cases e
    rename_i h40
    split at e
    · cases e
    rename_i ha4
    split at e
    case isFalse => cases e
    rename_i hpk
    simp only [Sum.inr.injEq, Prod.mk.injEq] at e
    obtain ⟨rfl, rfl, rfl, rfl, rfl, rfl, rfl, rfl, rfl, rfl, _⟩ := e
    have ha4 : at16 l 4 = (l.length : Int) - 40 := by simpa using ha4
    have eA : bytesOf (strOf (List.drop 8 (List.take 24 l))) = List.drop 8 (List.take 24 l) := bytesOf_strOf ((hb.take 24).drop 8)
    have eB : bytesOf (strOf (List.drop 24 (List.take 40 l))) = List.drop 24 (List.take 40 l) := bytesOf_strOf ((hb.take 40).drop 24)
    refine ⟨hpk, ?_, .inl ⟨rfl, ?_⟩⟩
    · simp only [pb, pb6, if_true, eA, eB, List.length_cons, List.length_append, List.length_drop, List.length_take]; omega
    · simp only [pb, pb6, if_true, eA, eB, List.drop_succ_cons, List.drop_zero]
      rw [drop_mid l (by omega), drop_mid l (by omega)]
      exact (cons2 6 (by omega)).symm
  · simp only [rd4] at e
    split at e
    · cases e
    rename_i h20
    split at e
    · cases e
    rename_i h0
    split at e
    · cases e
    rename_i h2
    split at e
    · cases e
    split at e
    · cases e
    rename_i h6
    split at e
    case isFalse => cases e
    rename_i hpk
    simp only [Sum.inr.injEq, Prod.mk.injEq] at e
    obtain ⟨rfl, rfl, rfl, rfl, rfl, rfl, rfl, rfl, rfl, rfl, _⟩ := e
    have h0 : l.getD 0 0 = 69 := by simpa using h0
    have h2 : at16 l 2 = (l.length : Int) := by simpa using h2
    have eA : bytesOf (strOf (List.drop 12 (List.take 16 l))) = List.drop 12 (List.take 16 l) := bytesOf_strOf ((hb.take 16).drop 12)
    have eB : bytesOf (strOf (List.drop 16 (List.take 20 l))) = List.drop 16 (List.take 20 l) := bytesOf_strOf ((hb.take 20).drop 16)
    have r6 := at16_range hb 6
    have ef : flg (at16 l 6 % 8192) (decide (at16 l 6 / 8192 % 2 = 1)) (decide (at16 l 6 / 16384 % 2 = 1)) = at16 l 6 := by
      simp only [flg, decide_eq_true_eq]
      split <;> split <;> omega
    have b2 := getD_byte hb 2
    have b3 := getD_byte hb 3
    have b4 := getD_byte hb 4
    have b5 := getD_byte hb 5
    have b6 := getD_byte hb 6
    have b7 := getD_byte hb 7
    have dl : (List.drop 20 l).length = l.length - 20 := List.length_drop
    refine ⟨hpk, ?_, .inr ⟨rfl, ?_, ?_, ?_⟩⟩
    · simp only [pb, pb4, h4, if_neg (show ¬ (4 : Int) = 6 by omega), eA, eB, List.length_cons, List.length_append, List.length_drop, List.length_take]; omega
    · simp only [pb, pb4, h4, if_neg (show ¬ (4 : Int) = 6 by omega), List.take_succ_cons, List.take_zero]
      have := cons2 (l := l) 0 (by omega)
      rw [List.drop_zero] at this
      rw [this, h0]; rfl
    · simp only [pb, pb4, h4, if_neg (show ¬ (4 : Int) = 6 by omega), List.take_succ_cons, List.take_zero, List.drop_succ_cons, List.drop_zero, ef, dl]
      have c2 := cons2 (l := List.take 10 l) 2 (by simp; omega)
      have c4 := cons2 (l := List.take 10 l) 4 (by simp; omega)
      have c6 := cons2 (l := List.take 10 l) 6 (by simp; omega)
      have c8 := cons2 (l := List.take 10 l) 8 (by simp; omega)
      have c10 : List.drop 10 (List.take 10 l) = [] := List.drop_of_length_le (by simp; omega)
      have g : ∀ i, i < 10 → (List.take 10 l).getD i 0 = l.getD i 0 := fun i hi => by simp [List.getD_eq_getElem?_getD, List.getElem?_take, hi]
      rw [c2, c4, c6, c8, c10, g 2 (by omega), g (2 + 1) (by omega), g 4 (by omega), g (4 + 1) (by omega), g 6 (by omega), g (6 + 1) (by omega), g 8 (by omega), g (8 + 1) (by omega)]
      simp only [at16, Nat.reduceAdd] at h2 r6 ⊢
      have q1 : (20 + ((l.length - 20 : Nat) : Int)) / 256 = l.getD 2 0 := by omega
      have q2 : (20 + ((l.length - 20 : Nat) : Int)) % 256 = l.getD 3 0 := by omega
      have q3 : (l.getD 4 0 * 256 + l.getD 5 0) / 256 = l.getD 4 0 := by omega
      have q4 : (l.getD 4 0 * 256 + l.getD 5 0) % 256 = l.getD 5 0 := by omega
      have q5 : (l.getD 6 0 * 256 + l.getD 7 0) / 256 = l.getD 6 0 := by omega
      have q6 : (l.getD 6 0 * 256 + l.getD 7 0) % 256 = l.getD 7 0 := by omega
      rw [q1, q2, q3, q4, q5, q6]
    · simp only [pb, pb4, h4, if_neg (show ¬ (4 : Int) = 6 by omega), eA, eB, List.drop_succ_cons, List.drop_zero]
      rw [drop_mid l (by omega), drop_mid l (by omega)]
/-- The bytes that are drawn. -/
theorem any_ok {k : Nat} (hK : 2097152 ≤ k) {xs : List Int} (hb : Bytes xs) (hl : xs.length ≤ 1048576) : ∃ l, f126 k xs = some l ∧ Bytes l ∧ l.length ≤ 60000 := by
  have g : GS xs 0 (Int.tmod (xs.length : Int) 1000) 0 := by
    rw [Int.tmod_eq_emod_of_nonneg (by omega)]
    exact ⟨hl, hb, by omega, by omega, by omega, by omega⟩
  obtain ⟨⟨v, A, B, hop, proto, id, off, more, keep, d, xs', a, s⟩, e, hpk, hdB, hd, hxs, g1⟩ := packet_ok hK g (by omega)
  simp only at hpk hdB hd hxs g1
  subst hxs
  simp only [f126, f126.step, f81, f81.step, Option.bind_some, e, spec_bytes hK hpk]
  have pl := pb_length hpk
  have pB := pb_bytes hpk hdB
  generalize pb v A B hop proto id off more keep d = b at pl pB
  obtain ⟨v1, a1, s1, e1, hv1, g2⟩ := next_ok k g1 (by omega) (N := 5) (by omega) (by omega)
  simp only [e1, Option.bind_some]
  by_cases c0 : v1 = 0
  · obtain ⟨v2, a2, s2, e2, hv2, g3⟩ := next_ok k g2 (by omega) (N := if (44 : Int) < (b.length : Int) then 44 else (b.length : Int)) (by split <;> omega) (by split <;> omega)
    obtain ⟨v3, a3, s3, e3, hv3, g4⟩ := next_ok k g3 (by omega) (N := 256) (by omega) (by omega)
    have hv2' : v2 < (b.length : Int) := by have := hv2.2; split at this <;> omega
    rw [if_pos (tb c0), e2]
    simp only [Option.bind_some, e3]
    rw [if_pos hv2.1, if_pos hv2']
    exact ⟨_, rfl, pB.set _ (wu8 _), by simp; omega⟩
  rw [if_neg (fb c0)]
  by_cases c1 : v1 = 1
  · obtain ⟨v2, a2, s2, e2, hv2, g3⟩ := next_ok k g2 (by omega) (N := (b.length : Int)) (by omega) (by omega)
    rw [if_pos (tb c1), e2]
    simp only [Option.bind_some]
    rw [if_pos hv2.1, if_pos (by omega)]
    exact ⟨_, rfl, pB.take _, by simp; omega⟩
  rw [if_neg (fb c1)]
  by_cases c2 : v1 = 2
  · rw [if_pos (tb c2), if_pos (by simp [maxN]; omega)]
    exact ⟨_, rfl, pB.snoc (by omega), by simp; omega⟩
  rw [if_neg (fb c2)]
  by_cases c3 : v1 = 3
  · obtain ⟨v2, a2, s2, e2, hv2, g3⟩ := next_ok k g2 (by omega) (N := 20) (by omega) (by omega)
    obtain ⟨v3, a3, s3, e3, hv3, g4⟩ := next_ok k g3 (by omega) (N := 256) (by omega) (by omega)
    rw [if_pos (tb c3), e2]
    simp only [Option.bind_some, e3, List.length_set, Nat.sub_zero, List.drop_zero]
    rw [if_pos hv2.1, if_pos (by omega), if_pos (tb (by omega)), if_pos (by omega)]
    have pB1 := pB.set (Int.toNat v2) (wu8 v3)
    by_cases c4 : decide (IntKind.u8.wrap (Int.tdiv (List.getD (List.set b (Int.toNat v2) (IntKind.u8.wrap v3)) 0 0) 16) = 4) = true
    · rw [if_pos c4, if_pos (by omega), if_pos (by omega), if_pos (by omega), specSum hK (((pB1.set 10 (by omega)).set 11 (by omega)).take 20) (by simp; omega)]
      simp only [Option.bind_some]
      rw [if_pos (by omega), if_pos (by omega)]
      exact ⟨_, rfl, (((pB1.set 10 (by omega)).set 11 (by omega)).set 10 (wu8 _)).set 11 (wu8 _), by simp; omega⟩
    · rw [if_neg c4]
      exact ⟨_, rfl, pB1, by simp; omega⟩
  · rw [if_neg (fb c3)]
    exact ⟨_, rfl, pB, by omega⟩
theorem same_self (k : Nat) (a1 : Int) (s2 s3 : ByteArray) (a4 a5 a6 a7 : Int) (b8 b9 : Bool) (xs : List Int) : f19 k a1 s2 s3 a4 a5 a6 a7 b8 b9 xs a1 s2 s3 a4 a5 a6 a7 b8 b9 xs = some true := by
  simp [f19, f19.step]
theorem impl_pb {k : Nat} (hK : 2097152 ≤ k) {v : Int} {A B : ByteArray} {hop proto id off : Int} {more keep : Bool} {d : List Int} (h : PkOK v A B hop proto id off more keep d.length) :
    f56 k v A B hop proto id off more keep d = some (.inr (pb v A B hop proto id off more keep d, 0)) := by
  simp only [f56, f56.step, pk_impl, tb h, impl_bytes hK h, Option.bind_some, Bool.not_true, Bool.false_eq_true, if_false]
theorem spec_pb {k : Nat} (hK : 2097152 ≤ k) {v : Int} {A B : ByteArray} {hop proto id off : Int} {more keep : Bool} {d : List Int} (h : PkOK v A B hop proto id off more keep d.length) :
    f57 k v A B hop proto id off more keep d = some (pb v A B hop proto id off more keep d, 0) := by
  simp only [f57, f57.step, pk_spec, tb h, spec_bytes hK h, Option.bind_some, Bool.not_true, Bool.false_eq_true, if_false]
theorem strOf_toList_size (x : List Int) : (strOf x).size = x.length := strOf_size x
theorem FnPackets : Says := by
  intro xs ⟨_, hw⟩
  obtain ⟨k, hK⟩ : ∃ k : Nat, 2097152 ≤ k := ⟨_, Nat.le_refl _⟩
  refine ⟨k, ?_⟩
  have hb : Bytes xs := fun x hx => wf_u8 (hw x hx)
  simp only [f9, f9.step]
  by_cases c : (xs.length : Int) > 1048576
  · rw [if_pos (tb c)]
  rw [if_neg (fb c)]
  have hl : xs.length ≤ 1048576 := by omega
  have g : GS xs 0 (Int.tmod (xs.length : Int) 1000) 0 := by
    rw [Int.tmod_eq_emod_of_nonneg (by omega)]
    exact ⟨hl, hb, by omega, by omega, by omega, by omega⟩
  obtain ⟨⟨v, A, B, hop, proto, id, off, more, keep, d, xs', a, s⟩, e, hpk, hdB, hd, hxs, g1⟩ := packet_ok hK g (by omega)
  simp only at hpk hdB hd hxs g1
  have e55 : f55 k xs = some (v, A, B, hop, proto, id, off, more, keep, d) := by
    simp only [f55, f55.step, f81, f81.step, Option.bind_some, e]
  obtain ⟨l, el, lB, ll⟩ := any_ok hK hb hl
  have pl := pb_length hpk
  have r1 := impl_read hK (pb_bytes hpk hdB) (by omega)
  rw [read_pb hpk hdB] at r1
  have r2 := impl_read hK lB (by omega)
  have r3 := spec_read hK lB
  have e58 : f58 k xs = some l := by simp only [f58, f58.step, el, Option.bind_some]
  simp only [e55, Option.bind_some, impl_pb hK hpk, spec_pb hK hpk, Sum.elim_inr, r1, e58, r2, r3]
  rcases rdP_cases lB with ⟨q, eq, hq⟩ | ⟨v', A', B', hop', proto', id', off', more', keep', d', eq, hq⟩
  · simp only [eq, noP, Option.bind_some, Sum.elim_inl, same_self, pk_impl, tb hpk]
    simp [hq]
  · obtain ⟨hpk', hlen, hback⟩ := back_pb lB eq
    simp only [eq, Option.bind_some, Sum.elim_inr, same_self, pk_impl, tb hpk, impl_pb hK hpk', hlen]
    have hl2 := pb_length hpk'
    rw [hlen] at hl2
    have n0 : ∀ x : List Int, List.drop 0 x = x := fun x => rfl
    rcases hback with ⟨rfl, h6⟩ | ⟨rfl, h1, h2, h3⟩
    · rw [h6]
      simp [show (6 : Int) ≤ (l.length : Int) by omega]
    · have h2' : List.take 8 (List.drop 2 (pb 4 A' B' hop' proto' id' off' more' keep' d')) = List.take 8 (List.drop 2 l) := by simpa [List.drop_take] using h2
      simp only [Nat.sub_zero, n0, h1, h3]
      simp [h2', strOf_size, maxN]
      omega
end Go.Proofs.Ytildepkogbcdpaa.Pure
