/- The plain law of FnExactReadPacket. -/
import Derived.Test.YtildepkogbcdpaaSaysFnExactReadPacket
namespace Go.Proofs.Ytildepkogbcdpaa.Pure
open Go Go.B Go.Proofs.Ytildepkogbcdpaa.B Go.Proofs.Ytildepkogbcdpaa.SaysFnExactReadPacket
set_option linter.unusedVariables false
set_option linter.unusedSimpArgs false
theorem w64 {n : Int} (h0 : -9223372036854775808 ≤ n) (h1 : n ≤ 9223372036854775807) : IntKind.i64.wrap n = n := by
  rw [IntKind.wrap_i64]; omega
theorem tb {c : Prop} [Decidable c] (h : c) : decide c = true := decide_eq_true h
theorem fb {c : Prop} [Decidable c] (h : ¬ c) : ¬ decide c = true := by simpa using h
theorem ff {c : Prop} [Decidable c] (h : ¬ c) : decide c = false := by simpa using h
theorem gm {α : Type} (pre rest : List α) (x d : α) : List.getD (pre ++ x :: rest) (Int.toNat (pre.length : Int)) d = x := by
  simp [List.getD_eq_getElem?_getD]
theorem lt_mid {α : Type} (pre rest : List α) (x : α) : (pre.length : Int) < ((pre ++ x :: rest).length : Int) := by simp; omega
theorem set_mid {α : Type} (pre rest : List α) (x y : α) : List.set (pre ++ x :: rest) (Int.toNat (pre.length : Int)) y = pre ++ y :: rest := by
  simp
theorem set_at {e : TypeId} (pre rest : List (env.T e)) (x y : env.T e) {off : Nat} {cs : List (Cell env.T)} (h : putCells (E := env) e x off cs = some y) : setE env e (pre ++ x :: rest) (Int.toNat (pre.length : Int)) off cs = pre ++ y :: rest := by
  have hg : List.getD (pre ++ x :: rest) (Int.toNat (pre.length : Int)) (env.dflt e) = x := gm pre rest x _
  simp only [setE, hg, h, Option.getD_some, set_mid]
theorem mid_next {α : Type} (pre rest : List α) (x : α) : pre ++ x :: rest = (pre ++ [x]) ++ rest := by simp
/-! ### rows of bytes -/
theorem copyB_loop (k : Nat) (xs : List Int) (hl : xs.length ≤ 1048576) : ∀ (rest pre : List Int) (j : Nat), xs = pre ++ rest → rest.length < j → f30.l3 k j xs (pre.length : Int) (pre ++ List.replicate rest.length 0) = some xs := by
  intro rest
  induction rest with
  | nil =>
    intro pre j hx hj
    obtain ⟨j, rfl⟩ : ∃ j', j = j' + 1 := ⟨j - 1, by omega⟩
    simp only [f30.l3, f30.l3.step]
    have : xs.length = pre.length := by rw [hx]; simp
    rw [if_neg (fb (by omega)), hx]; simp
  | cons x rest ih =>
    intro pre j hx hj
    obtain ⟨j, rfl⟩ : ∃ j', j = j' + 1 := ⟨j - 1, by omega⟩
    have hlt : (pre.length : Int) < (xs.length : Int) := by rw [hx]; exact lt_mid _ _ _
    have hg : xs.getD (Int.toNat (pre.length : Int)) 0 = x := by rw [hx]; exact gm _ _ _ _
    simp only [f30.l3, f30.l3.step, hg, List.length_cons, List.replicate_succ, set_mid]
    rw [if_pos (tb hlt), if_pos (by omega), if_pos hlt, if_pos (by omega), if_pos (lt_mid _ _ _), w64 (by omega) (by omega)]
    have := ih (pre ++ [x]) j (by rw [hx]; simp) (by simp at hj; omega)
    simp only [List.length_append, List.length_singleton, List.append_assoc, List.singleton_append] at this
    exact this
theorem copyB (k : Nat) (hK : 2097152 ≤ k) {xs : List Int} (hl : xs.length ≤ 1048576) : f30 k xs = some xs := by
  have := copyB_loop k xs hl xs [] k rfl (by omega)
  simp only [f30, f30.step]
  rw [if_pos (by omega), if_pos (by simp [maxN]; omega)]
  have h0 : f30.l3 k k xs 0 (List.replicate (Int.toNat (xs.length : Int)) 0) = some xs := this
  rw [h0]; rfl
theorem eqB_loop (k : Nat) (xs : List Int) (hl : xs.length ≤ 1048576) : ∀ (d i j : Nat), i + d = xs.length → d < j → f33.l4 k j xs xs (i : Int) = some (.inr ()) := by
  intro d
  induction d with
  | zero =>
    intro i j hi hj
    obtain ⟨j, rfl⟩ : ∃ j', j = j' + 1 := ⟨j - 1, by omega⟩
    simp only [f33.l4, f33.l4.step]
    rw [if_neg (fb (by omega))]
  | succ d ih =>
    intro i j hi hj
    obtain ⟨j, rfl⟩ : ∃ j', j = j' + 1 := ⟨j - 1, by omega⟩
    simp only [f33.l4, f33.l4.step]
    rw [if_pos (tb (by omega)), if_pos (by omega), if_pos (by omega), if_pos (by omega), if_pos (by omega), if_neg (by simp), w64 (by omega) (by omega)]
    exact ih (i + 1) j (by omega) (by omega)
theorem eqB (k : Nat) (hK : 2097152 ≤ k) {xs : List Int} (hl : xs.length ≤ 1048576) : f33 k xs xs = some true := by
  have h0 : f33.l4 k k xs xs 0 = some (.inr ()) := eqB_loop k xs hl xs.length 0 k (by omega) (by omega)
  simp only [f33, f33.step, h0]
  simp
def HeldB : Int → List Int → Prop
  | _, [] => True
  | a, y :: ys => y = IntKind.u8.wrap a ∧ HeldB (a + 1) ys
theorem markB_loop (k : Nat) : ∀ (rest pre : List Int) (j : Nat) (a : Int), rest.length < j → pre.length + rest.length ≤ 1048576 → 0 ≤ a → a + rest.length ≤ 1000000000000 →
    ∃ ys, f34.l2 k j a (pre.length : Int) (pre ++ rest) = some (a + (rest.length : Int), pre ++ ys) ∧ HeldB a ys ∧ ys.length = rest.length := by
  intro rest
  induction rest with
  | nil =>
    intro pre j a hj hl h0 h1
    obtain ⟨j, rfl⟩ : ∃ j', j = j' + 1 := ⟨j - 1, by omega⟩
    simp only [f34.l2, f34.l2.step]
    rw [if_neg (fb (by simp))]
    exact ⟨[], by simp, trivial, rfl⟩
  | cons x rest ih =>
    intro pre j a hj hl h0 h1
    obtain ⟨j, rfl⟩ : ∃ j', j = j' + 1 := ⟨j - 1, by omega⟩
    simp only [List.length_cons] at hj hl h1
    simp only [f34.l2, f34.l2.step, set_mid]
    rw [if_pos (tb (lt_mid _ _ _)), if_pos (by omega), if_pos (lt_mid _ _ _), w64 (by omega) (by omega), w64 (by omega) (by omega)]
    obtain ⟨ys, h, hh, hl2⟩ := ih (pre ++ [IntKind.u8.wrap a]) j (a + 1) (by omega) (by simp; omega) (by omega) (by omega)
    simp only [List.length_append, List.length_singleton, List.append_assoc, List.singleton_append] at h
    refine ⟨IntKind.u8.wrap a :: ys, Eq.trans h ?_, ⟨rfl, hh⟩, by simp [hl2]⟩
    simp only [List.length_cons]
    rw [show a + 1 + (rest.length : Int) = a + ((rest.length + 1 : Nat) : Int) by omega]
theorem markB (k : Nat) (hK : 2097152 ≤ k) {xs : List Int} (hl : xs.length ≤ 1048576) {a : Int} (h0 : 0 ≤ a) (h1 : a ≤ 100000000000) : ∃ ys, f34 k xs a = some (a + (xs.length : Int), ys) ∧ HeldB a ys ∧ ys.length = xs.length := by
  obtain ⟨ys, h, h2, h3⟩ := markB_loop k xs [] k a (by omega) (by simpa using hl) h0 (by omega)
  have h : f34.l2 k k a 0 xs = some (a + (xs.length : Int), ys) := h
  exact ⟨ys, by simp only [f34, f34.step, h]; rfl, h2, h3⟩
theorem heldB_loop (k : Nat) : ∀ (ys pre : List Int) (j : Nat) (a : Int), HeldB a ys → ys.length < j → pre.length + ys.length ≤ 1048576 → 0 ≤ a → a + ys.length ≤ 1000000000000 → f95.l2 k j (pre ++ ys) a (pre.length : Int) = some (.inr (a + (ys.length : Int))) := by
  intro ys
  induction ys with
  | nil =>
    intro pre j a hh hj hl h0 h1
    obtain ⟨j, rfl⟩ : ∃ j', j = j' + 1 := ⟨j - 1, by omega⟩
    simp only [f95.l2, f95.l2.step]
    rw [if_neg (fb (by simp))]
    simp
  | cons y ys ih =>
    intro pre j a hh hj hl h0 h1
    obtain ⟨j, rfl⟩ : ∃ j', j = j' + 1 := ⟨j - 1, by omega⟩
    simp only [List.length_cons] at hj hl h1
    obtain ⟨rfl, hh⟩ := hh
    simp only [f95.l2, f95.l2.step, gm]
    rw [if_pos (tb (lt_mid _ _ _)), if_pos (by omega), if_pos (lt_mid _ _ _), if_neg (by simp), w64 (by omega) (by omega), w64 (by omega) (by omega)]
    have := ih (pre ++ [IntKind.u8.wrap a]) j (a + 1) hh (by omega) (by simp; omega) (by omega) (by omega)
    simp only [List.length_append, List.length_singleton, List.append_assoc, List.singleton_append] at this
    refine Eq.trans this ?_
    simp only [List.length_cons]
    rw [show a + 1 + (ys.length : Int) = a + ((ys.length + 1 : Nat) : Int) by omega]
theorem heldB (k : Nat) (hK : 2097152 ≤ k) {ys : List Int} (hl : ys.length ≤ 1048576) {a : Int} (h0 : 0 ≤ a) (h1 : a ≤ 100000000000) (hh : HeldB a ys) : f95 k ys a = some (a + (ys.length : Int)) := by
  have := heldB_loop k ys [] k a hh (by omega) (by simpa using hl) h0 (by omega)
  have h : f95.l2 k k ys a 0 = some (.inr (a + (ys.length : Int))) := this
  simp only [f95, f95.step, h]; rfl
/-! ### right packets -/
theorem in_spec (k : Nat) (a b c : Int) : f86 k a b c = some (decide (b ≤ a ∧ a ≤ c)) := by
  simp only [f86, f86.step]
  split <;> simp at * <;> omega
theorem in_impl (k : Nat) (a b c : Int) : f83 k a b c = some (decide (b ≤ a ∧ a ≤ c)) := by
  simp only [f83, f83.step]
  split <;> simp at * <;> omega
/-- A right packet; n: how long its data are. -/
def PkOK (v : Int) (from_ to : ByteArray) (hop proto id off : Int) (more keep : Bool) (n : Nat) : Prop :=
  (0 ≤ hop ∧ hop ≤ 255) ∧ (0 ≤ proto ∧ proto ≤ 255) ∧ n ≤ 1500 ∧
    ((v = 4 ∧ from_.size = 4 ∧ to.size = 4 ∧ (0 ≤ id ∧ id ≤ 65535) ∧ (0 ≤ off ∧ off ≤ 8191) ∧ (keep = true → more = false ∧ off = 0) ∧ (more = true → n % 8 = 0 ∧ 0 < n) ∧ 8 * off + n ≤ 65515) ∨
     (v = 6 ∧ from_.size = 16 ∧ to.size = 16 ∧ id = 0 ∧ off = 0 ∧ more = false ∧ keep = false))
instance (v : Int) (from_ to : ByteArray) (hop proto id off : Int) (more keep : Bool) (n : Nat) : Decidable (PkOK v from_ to hop proto id off more keep n) := by unfold PkOK; infer_instance
theorem tm8 (n : Nat) : Int.tmod (n : Int) 8 = ((n % 8 : Nat) : Int) := by rw [Int.tmod_eq_emod_of_nonneg (by omega)]; rfl
theorem wsum {off : Int} {n : Nat} (h : 0 ≤ off ∧ off ≤ 8191) (hn : n ≤ 1500) : IntKind.i64.wrap (IntKind.i64.wrap (8 * off) + (n : Int)) = 8 * off + n := by rw [w64 (n := 8 * off) (by omega) (by omega), w64 (by omega) (by omega)]
theorem pk_impl (k : Nat) (v : Int) (from_ to : ByteArray) (hop proto id off : Int) (more keep : Bool) (xs : List Int) : f20 k v from_ to hop proto id off more keep xs = some (decide (PkOK v from_ to hop proto id off more keep xs.length)) := by
  simp only [f20, f20.step, in_impl, Option.bind_some, tm8, PkOK]
  by_cases h1 : 0 ≤ hop ∧ hop ≤ 255
  case neg => simp [h1]
  by_cases h2 : 0 ≤ proto ∧ proto ≤ 255
  case neg => simp [h1, h2]
  by_cases h3 : xs.length ≤ 1500
  case neg =>
    have : ((xs.length : Int) > 1500) := by omega
    simp [h1, h2, h3, this]
  have h3' : ¬ ((xs.length : Int) > 1500) := by omega
  by_cases h4 : v = 4
  · subst h4
    by_cases h5 : from_.size = 4
    case neg =>
      have : ¬ ((from_.size : Int) = 4) := by omega
      simp [h1, h2, h3, h3', h5, this]
    by_cases h6 : to.size = 4
    case neg =>
      have : ¬ ((to.size : Int) = 4) := by omega
      simp [h1, h2, h3, h3', h5, h6, this]
    by_cases h7 : 0 ≤ id ∧ id ≤ 65535
    case neg => simp [h1, h2, h3, h3', h5, h6, h7]
    by_cases h8 : 0 ≤ off ∧ off ≤ 8191
    case neg => simp [h1, h2, h3, h3', h5, h6, h7, h8]
    simp only [wsum h8 h3]
    simp [-List.length_eq_zero_iff, h1, h2, h3, h3', h5, h6, h7, h8]
    cases keep <;> cases more <;> simp [-List.length_eq_zero_iff]
    · rcases Nat.eq_zero_or_pos xs.length with q1 | q1
      · simp [-List.length_eq_zero_iff, q1]
      · by_cases q2 : xs.length % 8 = 0 <;> simp [-List.length_eq_zero_iff, Nat.ne_of_gt q1, q1, q2] <;> omega
    · by_cases q0 : off = 0
      · subst q0; simp
      · have : ¬ off ≤ 0 := by omega
        simp [q0, this]
  · simp [h1, h2, h3, h3', h4]
    by_cases g1 : v = 6
    case neg => simp [g1]
    by_cases g2 : from_.size = 16
    case neg =>
      have : ¬ ((from_.size : Int) = 16) := by omega
      simp [g2, this]
    by_cases g3 : to.size = 16
    case neg =>
      have : ¬ ((to.size : Int) = 16) := by omega
      simp [g3, this]
    by_cases g4 : id = 0 <;> by_cases g5 : off = 0 <;> cases more <;> cases keep <;> simp [g1, g2, g3, g4, g5]
theorem pk_spec (k : Nat) (v : Int) (from_ to : ByteArray) (hop proto id off : Int) (more keep : Bool) (xs : List Int) : f85 k v from_ to hop proto id off more keep xs = some (decide (PkOK v from_ to hop proto id off more keep xs.length)) := by
  simp only [f85, f85.step, in_spec, Option.bind_some, tm8, PkOK]
  by_cases h1 : 0 ≤ hop ∧ hop ≤ 255
  case neg => simp [h1]
  by_cases h2 : 0 ≤ proto ∧ proto ≤ 255
  case neg => simp [h1, h2]
  by_cases h3 : xs.length ≤ 1500
  case neg =>
    have : ((xs.length : Int) > 1500) := by omega
    simp [h1, h2, h3, this]
  have h3' : ¬ ((xs.length : Int) > 1500) := by omega
  by_cases h4 : v = 4
  · subst h4
    by_cases h5 : from_.size = 4
    case neg =>
      have : ¬ ((from_.size : Int) = 4) := by omega
      simp [h1, h2, h3, h3', h5, this]
    by_cases h6 : to.size = 4
    case neg =>
      have : ¬ ((to.size : Int) = 4) := by omega
      simp [h1, h2, h3, h3', h5, h6, this]
    by_cases h7 : 0 ≤ id ∧ id ≤ 65535
    case neg => simp [h1, h2, h3, h3', h5, h6, h7]
    by_cases h8 : 0 ≤ off ∧ off ≤ 8191
    case neg => simp [h1, h2, h3, h3', h5, h6, h7, h8]
    simp only [wsum h8 h3]
    simp [-List.length_eq_zero_iff, h1, h2, h3, h3', h5, h6, h7, h8]
    cases keep <;> cases more <;> simp [-List.length_eq_zero_iff]
    · rcases Nat.eq_zero_or_pos xs.length with q1 | q1
      · simp [-List.length_eq_zero_iff, q1]
      · by_cases q2 : xs.length % 8 = 0 <;> simp [-List.length_eq_zero_iff, Nat.ne_of_gt q1, q1, q2] <;> omega
    · by_cases q0 : off = 0
      · subst q0; simp
      · have : ¬ off ≤ 0 := by omega
        simp [q0, this]
  · simp [h1, h2, h3, h3', h4]
    by_cases g1 : v = 6
    case neg => simp [g1]
    by_cases g2 : from_.size = 16
    case neg =>
      have : ¬ ((from_.size : Int) = 16) := by omega
      simp [g2, this]
    by_cases g3 : to.size = 16
    case neg =>
      have : ¬ ((to.size : Int) = 16) := by omega
      simp [g3, this]
    by_cases g4 : id = 0 <;> by_cases g5 : off = 0 <;> cases more <;> cases keep <;> simp [g1, g2, g3, g4, g5]
/-! ### bits -/
theorem ofInt_nat {n : Nat} (h : n < 9223372036854775808) : (BitVec.ofInt 64 (n : Int)).toNat = n := by
  rw [BitVec.toNat_ofInt]; omega
theorem and_nat {a b : Nat} (ha : a < 9223372036854775808) (hb : b < 9223372036854775808) : bitsV .and .i64 (a : Int) (b : Int) = ((a &&& b : Nat) : Int) := by
  have h1 : a &&& b ≤ a := Nat.and_le_left
  show IntKind.i64.wrap (((BitVec.ofInt 64 (a : Int) &&& BitVec.ofInt 64 (b : Int)).toNat : Nat) : Int) = _
  rw [BitVec.toNat_and, ofInt_nat ha, ofInt_nat hb, w64 (by omega) (by omega)]
theorem or_nat {a b : Nat} (ha : a < 9223372036854775808) (hb : b < 9223372036854775808) (hc : a ||| b < 9223372036854775808) : bitsV .or .i64 (a : Int) (b : Int) = ((a ||| b : Nat) : Int) := by
  show IntKind.i64.wrap (((BitVec.ofInt 64 (a : Int) ||| BitVec.ofInt 64 (b : Int)).toNat : Nat) : Int) = _
  rw [BitVec.toNat_or, ofInt_nat ha, ofInt_nat hb, w64 (by omega) (by omega)]
theorem and_mask {x : Int} (h0 : 0 ≤ x) (h1 : x < 9223372036854775808) (i : Nat) (hi : i < 62) : bitsV .and .i64 x ((2 ^ i - 1 : Nat) : Int) = x % ((2 ^ i : Nat) : Int) := by
  obtain ⟨n, rfl⟩ : ∃ n : Nat, x = n := ⟨x.toNat, by omega⟩
  have h2 : 2 ^ i ≤ 2 ^ 61 := Nat.pow_le_pow_right (by omega) (by omega)
  rw [and_nat (by omega) (by omega), Nat.and_two_pow_sub_one_eq_mod]
  rfl
theorem and_pow (n i : Nat) : n &&& 2 ^ i = n / 2 ^ i % 2 * 2 ^ i := by
  have e : n / 2 ^ i % 2 = (n.testBit i).toNat := by rw [Nat.testBit_eq_decide_div_mod_eq]; rcases Nat.mod_two_eq_zero_or_one (n / 2 ^ i) with h | h <;> simp [h]
  rw [e]
  apply Nat.eq_of_testBit_eq
  intro j
  rw [Nat.testBit_and, Nat.testBit_two_pow]
  by_cases h : i = j
  · subst h
    cases hb : n.testBit i <;> simp [Nat.testBit_two_pow]
  · cases hb : n.testBit i <;> simp [h, Nat.testBit_two_pow]
theorem and_bit {x : Int} (h0 : 0 ≤ x) (h1 : x < 9223372036854775808) (i : Nat) (hi : i < 62) : bitsV .and .i64 x ((2 ^ i : Nat) : Int) = x / ((2 ^ i : Nat) : Int) % 2 * ((2 ^ i : Nat) : Int) := by
  obtain ⟨n, rfl⟩ : ∃ n : Nat, x = n := ⟨x.toNat, by omega⟩
  have h2 : 2 ^ i ≤ 2 ^ 61 := Nat.pow_le_pow_right (by omega) (by omega)
  rw [and_nat (by omega) (by omega), and_pow]
  rfl
theorem or_byte {a b : Int} (ha : 0 ≤ a ∧ a ≤ 255) (hb : 0 ≤ b ∧ b ≤ 255) : bitsV .or .i64 (a * 256) b = a * 256 + b := by
  obtain ⟨n, rfl⟩ : ∃ n : Nat, a = n := ⟨a.toNat, by omega⟩
  obtain ⟨m, rfl⟩ : ∃ m : Nat, b = m := ⟨b.toNat, by omega⟩
  have e : (2 ^ 8 * n + m : Nat) = 2 ^ 8 * n ||| m := Nat.two_pow_add_eq_or_of_lt (by omega) n
  have e2 : (n * 256 : Nat) = 2 ^ 8 * n := by omega
  have := or_nat (a := n * 256) (b := m) (by omega) (by omega) (by rw [e2, ← e]; omega)
  rw [show ((n : Int) * 256) = ((n * 256 : Nat) : Int) by omega, this, e2, ← e]
  omega
/-! ### bytes; the Internet sum -/
theorem wf_u8 {x : Int} (h : (Lit.int .u8 x).wf = true) : 0 ≤ x ∧ x ≤ 255 := by
  simp [Lit.wf, IntKind.min, IntKind.max, IntKind.bits, IntKind.signed] at h
  omega
/-! ### what is drawn -/
def Bytes (l : List Int) : Prop := ∀ x ∈ l, 0 ≤ x ∧ x ≤ 255
theorem getD_byte {l : List Int} (h : Bytes l) (i : Nat) : 0 ≤ l.getD i 0 ∧ l.getD i 0 ≤ 255 := by
  rw [List.getD_eq_getElem?_getD]
  cases e : l[i]? with
  | none => simp
  | some x => exact h x (List.mem_of_getElem? e)
theorem Bytes.drop {l : List Int} (h : Bytes l) (i : Nat) : Bytes (l.drop i) := fun x hx => h x (List.mem_of_mem_drop hx)
theorem Bytes.take {l : List Int} (h : Bytes l) (i : Nat) : Bytes (l.take i) := fun x hx => h x (List.mem_of_mem_take hx)
theorem wbyte {l : List Int} (h : Bytes l) (i : Nat) : IntKind.i64.wrap (l.getD i 0) = l.getD i 0 := by
  have := getD_byte h i
  rw [w64 (by omega) (by omega)]
def isum : List Int → Int
  | [] => 0
  | [a] => a * 256
  | a :: b :: t => a * 256 + b + isum t
/-- What folding a sum comes to. -/
def fold (n : Int) : Int := if n = 0 then 0 else (n - 1) % 65535 + 1
theorem fold_small {n : Int} (h0 : 0 ≤ n) (h1 : n ≤ 65535) : fold n = n := by
  unfold fold
  split <;> omega
theorem fold_step {n : Int} (_ : n > 65535) : fold (n % 65536 + n / 65536) = fold n := by
  unfold fold
  split <;> split <;> omega
theorem fold_range {n : Int} (_ : 0 ≤ n) : 0 ≤ fold n ∧ fold n ≤ 65535 := by
  unfold fold
  split <;> omega
theorem isum_range (l : List Int) : Bytes l → 0 ≤ isum l ∧ isum l ≤ 65535 * ((l.length + 1) / 2 : Nat) := by
  induction l using isum.induct with
  | case1 => intro _; simp [isum]
  | case2 a =>
    intro h
    have := h a (by simp)
    simp [isum]
    omega
  | case3 a b t ih =>
    intro h
    have h1 := h a (by simp)
    have h2 := h b (by simp)
    have h3 := ih (fun x hx => h x (by simp [hx]))
    simp only [isum, List.length_cons]
    omega
theorem isum_drop2 (l : List Int) (i : Nat) (h : i + 1 < l.length) : isum (l.drop i) = l.getD i 0 * 256 + l.getD (i + 1) 0 + isum (l.drop (i + 2)) := by
  rw [List.drop_eq_getElem_cons (by omega), List.drop_eq_getElem_cons (by omega)]
  simp [isum, List.getD_eq_getElem?_getD, List.getElem?_eq_getElem h, List.getElem?_eq_getElem (show i < l.length by omega)]
theorem isum_drop1 (l : List Int) (i : Nat) (h : i + 1 = l.length) : isum (l.drop i) = l.getD i 0 * 256 := by
  rw [List.drop_eq_getElem_cons (by omega), List.drop_eq_nil_of_le (by omega)]
  simp [isum, List.getD_eq_getElem?_getD, List.getElem?_eq_getElem (show i < l.length by omega)]
theorem isum_drop0 (l : List Int) (i : Nat) (h : l.length ≤ i) : isum (l.drop i) = 0 := by
  rw [List.drop_eq_nil_of_le h]
  rfl
theorem isum_drop_range {l : List Int} (h : Bytes l) (i : Nat) : 0 ≤ isum (l.drop i) ∧ isum (l.drop i) ≤ 65535 * ((l.length + 1) / 2 : Nat) := by
  have := isum_range _ (h.drop i)
  simp only [List.length_drop] at this
  have h2 : ((l.length - i + 1) / 2 : Nat) ≤ (l.length + 1) / 2 := Nat.div_le_div_right (by omega)
  omega
/-- The check sum. -/
def csum (l : List Int) : Int := 65535 - fold (isum l)
theorem csum_range {l : List Int} (h : Bytes l) : 0 ≤ csum l ∧ csum l ≤ 65535 := by
  have := fold_range (isum_range l h).1
  unfold csum
  omega
theorem fold_less {n : Int} (h : n > 65535) : n % 65536 + n / 65536 < n := by omega
theorem specFold (k : Nat) : ∀ (d j : Nat) (n : Int), 0 ≤ n → n ≤ 4611686018427387903 → n ≤ 65535 + d → d < j → f151.l8 k j n = some (fold n) := by
  intro d
  induction d with
  | zero =>
    intro j n h0 h1 h2 hj
    obtain ⟨j, rfl⟩ : ∃ j', j = j' + 1 := ⟨j - 1, by omega⟩
    simp only [f151.l8, f151.l8.step]
    rw [if_neg (fb (by omega)), fold_small h0 (by omega)]
  | succ d ih =>
    intro j n h0 h1 h2 hj
    obtain ⟨j, rfl⟩ : ∃ j', j = j' + 1 := ⟨j - 1, by omega⟩
    simp only [f151.l8, f151.l8.step]
    by_cases c : n > 65535
    · have e : IntKind.i64.wrap (Int.tmod n 65536 + IntKind.i64.wrap (Int.tdiv n 65536)) = n % 65536 + n / 65536 := by
        rw [Int.tmod_eq_emod_of_nonneg h0, Int.tdiv_eq_ediv_of_nonneg h0, w64 (n := n / 65536) (by omega) (by omega), w64 (by omega) (by omega)]
      rw [if_pos (tb c), e, ih j _ (by omega) (by omega) (by omega) (by omega), fold_step c]
    · rw [if_neg (fb c), fold_small h0 (by omega)]
theorem implFold (k : Nat) : ∀ (d j : Nat) (n : Int), 0 ≤ n → n ≤ 4611686018427387903 → n ≤ 65535 + d → d < j → f152.l8 k j n = some (fold n) := by
  intro d
  induction d with
  | zero =>
    intro j n h0 h1 h2 hj
    obtain ⟨j, rfl⟩ : ∃ j', j = j' + 1 := ⟨j - 1, by omega⟩
    simp only [f152.l8, f152.l8.step]
    rw [if_neg (fb (by omega)), fold_small h0 (by omega)]
  | succ d ih =>
    intro j n h0 h1 h2 hj
    obtain ⟨j, rfl⟩ : ∃ j', j = j' + 1 := ⟨j - 1, by omega⟩
    simp only [f152.l8, f152.l8.step]
    by_cases c : n > 65535
    · have e : IntKind.i64.wrap (bitsV .and .i64 n 65535 + Int.fdiv n (2 ^ (min (Int.toNat 16) IntKind.i64.bits))) = n % 65536 + n / 65536 := by
        have m : bitsV .and .i64 n 65535 = n % 65536 := and_mask h0 (by omega) 16 (by omega)
        have q : (2 ^ (min (Int.toNat 16) IntKind.i64.bits) : Int) = 65536 := by decide
        rw [m, q, Int.fdiv_eq_ediv_of_nonneg _ (by omega), w64 (by omega) (by omega)]
      rw [if_pos (tb c), e, ih j _ (by omega) (by omega) (by omega) (by omega), fold_step c]
    · rw [if_neg (fb c), fold_small h0 (by omega)]
theorem specSum_loop (k : Nat) (l : List Int) (hb : Bytes l) (hl : l.length ≤ 1000000) : ∀ (d j i : Nat) (s : Int), l.length ≤ i + d → i % 2 = 0 → 2 * d < j → 0 ≤ s → s ≤ 65535 * i → f151.l3 k j l s i = some (s + isum (l.drop i)) := by
  intro d
  induction d using Nat.strongRecOn with
  | _ d ih =>
    intro j i s hd h2 hj h0 h1
    obtain ⟨j, rfl⟩ : ∃ j', j = j' + 1 := ⟨j - 1, by omega⟩
    by_cases c : i < l.length
    · have b1 := getD_byte hb i
      have hm : Int.tmod (i : Int) 2 = 0 := by rw [Int.tmod_eq_emod_of_nonneg (by omega)]; omega
      have w1 : IntKind.i64.wrap (l.getD i 0 * 256) = l.getD i 0 * 256 := w64 (by omega) (by omega)
      have w2 : IntKind.i64.wrap (s + l.getD i 0 * 256) = s + l.getD i 0 * 256 := w64 (by omega) (by omega)
      have w3 : IntKind.i64.wrap ((i : Int) + 1) = ((i + 1 : Nat) : Int) := by rw [w64 (by omega) (by omega)]; omega
      have e1 : f151.l3 k (j + 1) l s i = f151.l3 k j l (s + l.getD i 0 * 256) ((i + 1 : Nat) : Int) := by
        simp only [f151.l3, f151.l3.step, Int.toNat_natCast, wbyte hb, w1, w2, w3]
        rw [if_pos (tb (by omega)), if_pos (tb hm), if_pos (by omega), if_pos (by omega)]
      rw [e1]
      obtain ⟨j, rfl⟩ : ∃ j', j = j' + 1 := ⟨j - 1, by omega⟩
      by_cases c2 : i + 1 < l.length
      · have b2 := getD_byte hb (i + 1)
        have hm2 : ¬ Int.tmod ((i + 1 : Nat) : Int) 2 = 0 := by rw [Int.tmod_eq_emod_of_nonneg (by omega)]; omega
        have w4 : IntKind.i64.wrap (s + l.getD i 0 * 256 + l.getD (i + 1) 0) = s + l.getD i 0 * 256 + l.getD (i + 1) 0 := w64 (by omega) (by omega)
        have w5 : IntKind.i64.wrap (((i + 1 : Nat) : Int) + 1) = ((i + 2 : Nat) : Int) := by rw [w64 (by omega) (by omega)]; omega
        simp only [f151.l3, f151.l3.step, Int.toNat_natCast, wbyte hb, w4, w5]
        rw [if_pos (tb (by omega)), if_neg (fb hm2), if_pos (by omega), if_pos (by omega)]
        refine (ih (d - 2) (by omega) j (i + 2) _ (by omega) (by omega) (by omega) (by omega) (by omega)).trans ?_
        rw [isum_drop2 l i c2, Int.add_assoc, Int.add_assoc, Int.add_assoc]
      · simp only [f151.l3, f151.l3.step]
        rw [if_neg (fb (by omega)), isum_drop1 l i (by omega)]
    · simp only [f151.l3, f151.l3.step]
      rw [if_neg (fb (by omega)), isum_drop0 l i (by omega), Int.add_zero]
theorem implSum_loop (k : Nat) (l : List Int) (hb : Bytes l) (hl : l.length ≤ 1000000) : ∀ (d j i : Nat) (s : Int), l.length ≤ i + d → i % 2 = 0 → d < j → 0 ≤ s → s ≤ 65535 * i → f152.l3 k j l s i = some (s + isum (l.drop i)) := by
  intro d
  induction d using Nat.strongRecOn with
  | _ d ih =>
    intro j i s hd h2 hj h0 h1
    obtain ⟨j, rfl⟩ : ∃ j', j = j' + 1 := ⟨j - 1, by omega⟩
    have q : (2 ^ (min (Int.toNat 8) IntKind.i64.bits) : Int) = 256 := by decide
    by_cases c : i < l.length
    · have b1 := getD_byte hb i
      have w1 : IntKind.i64.wrap (l.getD i 0 * 256) = l.getD i 0 * 256 := w64 (by omega) (by omega)
      have w2 : IntKind.i64.wrap (s + l.getD i 0 * 256) = s + l.getD i 0 * 256 := w64 (by omega) (by omega)
      have w3 : IntKind.i64.wrap ((i : Int) + 1) = ((i + 1 : Nat) : Int) := by rw [w64 (by omega) (by omega)]; omega
      have w5 : IntKind.i64.wrap ((i : Int) + 2) = ((i + 2 : Nat) : Int) := by rw [w64 (by omega) (by omega)]; omega
      by_cases c2 : i + 1 < l.length
      · have b2 := getD_byte hb (i + 1)
        have w4 : IntKind.i64.wrap (s + l.getD i 0 * 256 + l.getD (i + 1) 0) = s + l.getD i 0 * 256 + l.getD (i + 1) 0 := w64 (by omega) (by omega)
        simp only [f152.l3, f152.l3.step, q, w3, w5, Int.toNat_natCast, wbyte hb, w1, w2, w4]
        rw [if_pos (tb (by omega)), if_pos (by omega), if_pos (by omega), if_pos (tb (by omega)), if_pos (by omega), if_pos (by omega)]
        refine (ih (d - 2) (by omega) j (i + 2) _ (by omega) (by omega) (by omega) (by omega) (by omega)).trans ?_
        rw [isum_drop2 l i c2, Int.add_assoc, Int.add_assoc, Int.add_assoc]
      · simp only [f152.l3, f152.l3.step, q, w3, w5, Int.toNat_natCast, wbyte hb, w1, w2]
        rw [if_pos (tb (by omega)), if_pos (by omega), if_pos (by omega), if_neg (fb (by omega))]
        refine (ih (d - 1) (by omega) j (i + 2) _ (by omega) (by omega) (by omega) (by omega) (by omega)).trans ?_
        rw [isum_drop1 l i (by omega), isum_drop0 l (i + 2) (by omega), Int.add_zero]
    · simp only [f152.l3, f152.l3.step]
      rw [if_neg (fb (by omega)), isum_drop0 l i (by omega), Int.add_zero]
theorem specSum {k : Nat} (hK : 2097152 ≤ k) {l : List Int} (hb : Bytes l) (hl : l.length ≤ 60) : f151 k l = some (csum l) := by
  have hr := isum_range l hb
  have e1 : f151.l3 k k l 0 0 = some (isum l) := by have := specSum_loop k l hb (by omega) l.length k 0 0 (by omega) rfl (by omega) (by omega) (by omega); simpa using this
  have e2 := specFold k 2031585 k (isum l) hr.1 (by omega) (by omega) (by omega)
  have hf := fold_range hr.1
  simp only [f151, f151.step, e1, e2, Option.bind_some, csum]
  rw [w64 (by omega) (by omega)]
theorem implSum {k : Nat} (hK : 2097152 ≤ k) {l : List Int} (hb : Bytes l) (hl : l.length ≤ 60) : f94 k l = some (csum l) := by
  have hr := isum_range l hb
  have e1 : f152.l3 k k l 0 0 = some (isum l) := by have := implSum_loop k l hb (by omega) l.length k 0 0 (by omega) rfl (by omega) (by omega) (by omega); simpa using this
  have e2 := implFold k 2031585 k (isum l) hr.1 (by omega) (by omega) (by omega)
  have hf := fold_range hr.1
  simp only [f94, f94.step, f152, f152.step, e1, e2, Option.bind_some, csum]
  rw [w64 (by omega) (by omega)]
/-! ### words of two bytes -/
def at16 (l : List Int) (i : Nat) : Int := l.getD i 0 * 256 + l.getD (i + 1) 0
theorem at16_range {l : List Int} (hb : Bytes l) (i : Nat) : 0 ≤ at16 l i ∧ at16 l i ≤ 65535 := by
  have b1 := getD_byte hb i
  have b2 := getD_byte hb (i + 1)
  unfold at16
  omega
theorem specAt (k : Nat) {l : List Int} (hb : Bytes l) (hl : l.length ≤ 1048576) (i : Nat) (h : i + 1 < l.length) : f150 k l i = some (at16 l i) := by
  have b1 := getD_byte hb i
  have b2 := getD_byte hb (i + 1)
  have w3 : IntKind.i64.wrap ((i : Int) + 1) = ((i + 1 : Nat) : Int) := by rw [w64 (by omega) (by omega)]; omega
  simp only [f150, f150.step, w3, Int.toNat_natCast, wbyte hb]
  rw [if_pos (by omega), if_pos (by omega), if_pos (by omega), if_pos (by omega), w64 (n := l.getD i 0 * 256) (by omega) (by omega), w64 (by omega) (by omega)]
  rfl
theorem implAt (k : Nat) {l : List Int} (hb : Bytes l) (hl : l.length ≤ 1048576) (i : Nat) (h : i + 1 < l.length) : f93 k l i = some (at16 l i) := by
  have b1 := getD_byte hb i
  have b2 := getD_byte hb (i + 1)
  have w3 : IntKind.i64.wrap ((i : Int) + 1) = ((i + 1 : Nat) : Int) := by rw [w64 (by omega) (by omega)]; omega
  have q : (2 ^ (min (Int.toNat 8) IntKind.i64.bits) : Int) = 256 := by decide
  simp only [f93, f93.step, w3, Int.toNat_natCast, wbyte hb, q]
  rw [if_pos (by omega), if_pos (by omega), if_pos (by omega), if_pos (by omega), w64 (n := l.getD i 0 * 256) (by omega) (by omega), or_byte b1 b2]
  rfl
/-! ### a packet that is read -/
abbrev RP := (Int × ByteArray × ByteArray × Int × Int × Int × Int × Bool × Bool × Int) ⊕ (Int × ByteArray × ByteArray × Int × Int × Int × Int × Bool × Bool × List Int × Int)
def noP (c : Int) : RP := .inl (0, ByteArray.empty, ByteArray.empty, 0, 0, 0, 0, false, false, c)
/-- What is read of bytes that begin as one of version 6; of others. -/
def rd6 (l : List Int) : RP :=
  if l.length < 40 then noP 3 else if at16 l 4 ≠ (l.length : Int) - 40 then noP 3 else
  if PkOK 6 (strOf (List.drop 8 (List.take 24 l))) (strOf (List.drop 24 (List.take 40 l))) (l.getD 7 0) (l.getD 6 0) 0 0 false false (List.drop 40 l).length then
    .inr (6, strOf (List.drop 8 (List.take 24 l)), strOf (List.drop 24 (List.take 40 l)), l.getD 7 0, l.getD 6 0, 0, 0, false, false, List.drop 40 l, 0)
  else noP 1
def rd4 (l : List Int) : RP :=
  if l.length < 20 then noP 3 else if l.getD 0 0 ≠ 69 then noP 3 else if at16 l 2 ≠ (l.length : Int) then noP 3 else
  if csum (List.take 20 l) ≠ 0 then noP 8 else if at16 l 6 ≥ 32768 then noP 1 else
  if PkOK 4 (strOf (List.drop 12 (List.take 16 l))) (strOf (List.drop 16 (List.take 20 l))) (l.getD 8 0) (l.getD 9 0) (at16 l 4) (at16 l 6 % 8192) (decide (at16 l 6 / 8192 % 2 = 1)) (decide (at16 l 6 / 16384 % 2 = 1)) (List.drop 20 l).length then
    .inr (4, strOf (List.drop 12 (List.take 16 l)), strOf (List.drop 16 (List.take 20 l)), l.getD 8 0, l.getD 9 0, at16 l 4, at16 l 6 % 8192, decide (at16 l 6 / 8192 % 2 = 1), decide (at16 l 6 / 16384 % 2 = 1), List.drop 20 l, 0)
  else noP 1
def rdP (l : List Int) : RP := if l.length > 65536 then noP 2 else if l.length = 0 then noP 3 else if l.getD 0 0 / 16 = 6 then rd6 l else rd4 l
theorem elim_id (r : RP) : (some r).bind (Sum.elim (fun t2 => some (.inl (t2.1, t2.2.1, t2.2.2.1, t2.2.2.2.1, t2.2.2.2.2.1, t2.2.2.2.2.2.1, t2.2.2.2.2.2.2.1, t2.2.2.2.2.2.2.2.1, t2.2.2.2.2.2.2.2.2.1, t2.2.2.2.2.2.2.2.2.2))) (fun t3 => some (.inr (t3.1, t3.2.1, t3.2.2.1, t3.2.2.2.1, t3.2.2.2.2.1, t3.2.2.2.2.2.1, t3.2.2.2.2.2.2.1, t3.2.2.2.2.2.2.2.1, t3.2.2.2.2.2.2.2.2.1, t3.2.2.2.2.2.2.2.2.2.1, t3.2.2.2.2.2.2.2.2.2.2)))) = some r := by
  rcases r with r | r <;> rfl
theorem dn {a b : Int} (h : a = b) : ¬ decide (a ≠ b) = true := by simp [h]
theorem dp {a b : Int} (h : a ≠ b) : decide (a ≠ b) = true := by simp [h]
theorem impl6 (k : Nat) {l : List Int} (hb : Bytes l) (hl : l.length ≤ 1048576) : f92 k l = some (rd6 l) := by
  simp only [f92, f92.step]
  by_cases c4 : l.length < 40
  · rw [if_neg (show ¬ decide ((l.length : Int) < 40) = false by rw [tb (show (l.length : Int) < 40 by omega)]; simp)]
    simp only [rd6, if_pos c4]
    rfl
  have a1 : f93 k l 4 = some (at16 l 4) := implAt k hb hl 4 (by omega)
  have ar := at16_range hb 4
  have e2 : IntKind.i64.wrap ((l.length : Int) - 40) = (l.length : Int) - 40 := w64 (by omega) (by omega)
  have e3 : IntKind.i64.wrap (40 + at16 l 4) = 40 + at16 l 4 := w64 (by omega) (by omega)
  rw [if_pos (ff (show ¬ (l.length : Int) < 40 by omega)), a1]
  simp only [Option.bind_some, e2, e3]
  by_cases c5 : at16 l 4 = (l.length : Int) - 40
  case neg =>
    rw [if_pos (dp (by omega))]
    simp only [rd6, if_neg c4, if_pos (show at16 l 4 ≠ (l.length : Int) - 40 from c5)]
    rfl
  rw [if_neg (dn (by omega))]
  have u1 : (24 : Int) ≤ (l.length : Int) := by omega
  have u2 : (40 : Int) ≤ (l.length : Int) := by omega
  have u3 : (7 : Int) < (l.length : Int) := by omega
  have u4 : (6 : Int) < (l.length : Int) := by omega
  have u5 : (l.length : Int) ≤ (l.length : Int) := by omega
  have u6 : (([] : List Int).length + (List.drop 40 (List.take (Int.toNat (l.length : Int)) l)).length) * 1 ≤ maxN := by simp [maxN]; omega
  have tk : List.drop 40 (List.take (Int.toNat (l.length : Int)) l) = List.drop 40 l := by simp
  have y7 : IntKind.i64.wrap (l.getD 7 0) = l.getD 7 0 := wbyte hb 7
  have y6 : IntKind.i64.wrap (l.getD 6 0) = l.getD 6 0 := wbyte hb 6
  simp only [if_pos u1, if_pos u2, if_pos u3, if_pos u4]
  rw [if_pos u5, if_pos u6, tk, y7, y6, List.nil_append, pk_impl]
  simp only [Option.bind_some, rd6, if_neg c4, if_neg (show ¬ at16 l 4 ≠ (l.length : Int) - 40 by simpa using c5)]
  by_cases c6 : PkOK 6 (strOf (List.drop 8 (List.take 24 l))) (strOf (List.drop 24 (List.take 40 l))) (l.getD 7 0) (l.getD 6 0) 0 0 false false (List.drop 40 l).length
  · rw [if_pos c6, tb c6]; rfl
  · rw [if_neg c6, ff c6]; rfl
theorem impl_read {k : Nat} (hK : 2097152 ≤ k) {l : List Int} (hb : Bytes l) (hl : l.length ≤ 1048576) : f31 k l = some (rdP l) := by
  have b0 := getD_byte hb 0
  simp only [f31, f31.step, rdP]
  by_cases c1 : l.length > 65536
  · rw [if_pos (tb (show (l.length : Int) > 65536 by omega)), if_pos c1]; rfl
  rw [if_neg (fb (show ¬ (l.length : Int) > 65536 by omega)), if_neg c1]
  by_cases c2 : l.length = 0
  · rw [if_neg (fb (show ¬ (l.length : Int) > 0 by omega)), if_pos c2, if_neg (show ¬ decide ((l.length : Int) < 20) = false by rw [tb (show (l.length : Int) < 20 by omega)]; simp)]; rfl
  have q4 : (2 ^ (min (Int.toNat 4) IntKind.u8.bits) : Int) = 16 := by decide
  have e0 : Int.fdiv (l.getD 0 0) 16 = l.getD 0 0 / 16 := Int.fdiv_eq_ediv_of_nonneg _ (by omega)
  have h0 : (0 : Int) < (l.length : Int) := by omega
  rw [if_pos (tb (show (l.length : Int) > 0 by omega)), if_neg c2, if_pos h0, q4, e0]
  by_cases c3 : l.getD 0 0 / 16 = 6
  · rw [if_pos (tb c3), if_pos c3, impl6 k hb hl]
    exact elim_id _
  rw [if_neg (fb c3), if_neg c3]
  by_cases c4 : l.length < 20
  · rw [if_neg (show ¬ decide ((l.length : Int) < 20) = false by rw [tb (show (l.length : Int) < 20 by omega)]; simp)]
    simp only [rd4, if_pos c4]
    rfl
  rw [if_pos (ff (show ¬ (l.length : Int) < 20 by omega)), if_pos h0]
  by_cases c5 : l.getD 0 0 ≠ 69
  · rw [if_neg (show ¬ decide (l.getD 0 0 ≠ 69) = false by rw [tb c5]; simp)]
    simp only [rd4, if_neg c4, if_pos c5]
    rfl
  rw [if_pos (ff c5)]
  have r6 := at16_range hb 6
  have i2 : f93 k l 2 = some (at16 l 2) := implAt k hb hl 2 (by omega)
  have i4 : f93 k l 4 = some (at16 l 4) := implAt k hb hl 4 (by omega)
  have i6 : f93 k l 6 = some (at16 l 6) := implAt k hb hl 6 (by omega)
  rw [i2, Option.bind_some]
  by_cases c6 : at16 l 2 = (l.length : Int)
  case neg =>
    rw [if_pos (dp c6)]
    simp only [rd4, if_neg c4, if_neg (show ¬ l.getD 0 0 ≠ 69 by simpa using c5), if_pos (show at16 l 2 ≠ (l.length : Int) from c6)]
    rfl
  have tk0 : List.drop 0 (List.take 20 l) = List.take 20 l := List.drop_zero
  have hl20 : (List.take 20 l).length ≤ 60 := by simp; omega
  rw [if_neg (dn c6), if_pos (show (20 : Int) ≤ (l.length : Int) by omega), tk0, implSum hK (hb.take 20) hl20, Option.bind_some]
  by_cases c7 : csum (List.take 20 l) ≠ 0
  · rw [if_pos (tb c7)]
    simp only [rd4, if_neg c4, if_neg (show ¬ l.getD 0 0 ≠ 69 by simpa using c5), if_neg (show ¬ at16 l 2 ≠ (l.length : Int) by simpa using c6), if_pos c7]
    rfl
  rw [if_neg (fb c7), i6, Option.bind_some]
  have u1 : (16 : Int) ≤ (l.length : Int) := by omega
  have u2 : (20 : Int) ≤ (l.length : Int) := by omega
  have u3 : (8 : Int) < (l.length : Int) := by omega
  have u4 : (9 : Int) < (l.length : Int) := by omega
  have u5 : (l.length : Int) ≤ (l.length : Int) := by omega
  have u6 : (([] : List Int).length + (List.drop 20 (List.take (Int.toNat (l.length : Int)) l)).length) * 1 ≤ maxN := by simp [maxN]; omega
  have tk : List.drop 20 (List.take (Int.toNat (l.length : Int)) l) = List.drop 20 l := by simp
  have y8 : IntKind.i64.wrap (l.getD 8 0) = l.getD 8 0 := wbyte hb 8
  have y9 : IntKind.i64.wrap (l.getD 9 0) = l.getD 9 0 := wbyte hb 9
  have m1 : bitsV .and .i64 (at16 l 6) 8191 = at16 l 6 % 8192 := and_mask r6.1 (by omega) 13 (by omega)
  have m2 : bitsV .and .i64 (at16 l 6) 8192 = at16 l 6 / 8192 % 2 * 8192 := and_bit r6.1 (by omega) 13 (by omega)
  have m3 : bitsV .and .i64 (at16 l 6) 16384 = at16 l 6 / 16384 % 2 * 16384 := and_bit r6.1 (by omega) 14 (by omega)
  have m4 : bitsV .and .i64 (at16 l 6) 32768 = at16 l 6 / 32768 % 2 * 32768 := and_bit r6.1 (by omega) 15 (by omega)
  have d2 : decide (at16 l 6 / 8192 % 2 * 8192 ≠ 0) = decide (at16 l 6 / 8192 % 2 = 1) := decide_eq_decide.mpr (by omega)
  have d3 : decide (at16 l 6 / 16384 % 2 * 16384 ≠ 0) = decide (at16 l 6 / 16384 % 2 = 1) := decide_eq_decide.mpr (by omega)
  have d4 : decide (at16 l 6 / 32768 % 2 * 32768 ≠ 0) = decide (at16 l 6 ≥ 32768) := decide_eq_decide.mpr (by omega)
  simp only [i4, Option.bind_some, if_pos u1, if_pos u2, if_pos u3, if_pos u4]
  rw [if_pos u5, if_pos u6, tk, y8, y9, List.nil_append, m1, m2, m3, m4, d2, d3, d4]
  simp only [rd4, if_neg c4, if_neg (show ¬ l.getD 0 0 ≠ 69 by simpa using c5), if_neg (show ¬ at16 l 2 ≠ (l.length : Int) by simpa using c6), if_neg c7]
  by_cases c8 : at16 l 6 ≥ 32768
  · rw [if_pos c8, if_neg (show ¬ decide (at16 l 6 ≥ 32768) = false by rw [tb c8]; simp)]
    rfl
  rw [if_neg c8, if_pos (ff c8), pk_impl]
  simp only [Option.bind_some]
  by_cases c9 : PkOK 4 (strOf (List.drop 12 (List.take 16 l))) (strOf (List.drop 16 (List.take 20 l))) (l.getD 8 0) (l.getD 9 0) (at16 l 4) (at16 l 6 % 8192) (decide (at16 l 6 / 8192 % 2 = 1)) (decide (at16 l 6 / 16384 % 2 = 1)) (List.drop 20 l).length
  · rw [if_pos c9, tb c9]; rfl
  · rw [if_neg c9, ff c9]; rfl
theorem spec_readP {k : Nat} (hK : 2097152 ≤ k) {l : List Int} (hb : Bytes l) (hl : l.length ≤ 65536) : f91 k l = some (if l.length = 0 then noP 3 else if l.getD 0 0 / 16 = 6 then rd6 l else rd4 l) := by
  have b0 := getD_byte hb 0
  simp only [f91, f91.step]
  by_cases c2 : l.length = 0
  · rw [if_pos (tb (show (l.length : Int) = 0 by omega)), if_pos c2]; rfl
  have e1 : IntKind.u8.wrap (Int.tdiv (l.getD 0 0) 16) = l.getD 0 0 / 16 := by
    rw [Int.tdiv_eq_ediv_of_nonneg (by omega), IntKind.wrap_u8]; omega
  have h0 : (0 : Int) < (l.length : Int) := by omega
  rw [if_neg (fb (show ¬ (l.length : Int) = 0 by omega)), if_neg c2, if_pos h0, e1]
  have hl : l.length ≤ 1048576 := by omega
  by_cases c3 : l.getD 0 0 / 16 = 6
  · rw [if_pos (tb c3), if_pos c3]
    by_cases c4 : l.length < 40
    · rw [if_neg (show ¬ decide ((l.length : Int) < 40) = false by rw [tb (show (l.length : Int) < 40 by omega)]; simp)]
      simp only [rd6, if_pos c4]
      rfl
    have a1 : f150 k l 4 = some (at16 l 4) := specAt k hb hl 4 (by omega)
    have ar := at16_range hb 4
    have e2 : IntKind.i64.wrap ((l.length : Int) - 40) = (l.length : Int) - 40 := w64 (by omega) (by omega)
    have e3 : IntKind.i64.wrap (40 + at16 l 4) = 40 + at16 l 4 := w64 (by omega) (by omega)
    rw [if_pos (ff (show ¬ (l.length : Int) < 40 by omega)), a1]
    simp only [Option.bind_some, e2, e3]
    by_cases c5 : at16 l 4 = (l.length : Int) - 40
    case neg =>
      rw [if_pos (dp (by omega))]
      simp only [rd6, if_neg c4, if_pos (show at16 l 4 ≠ (l.length : Int) - 40 from c5)]
      rfl
    rw [if_neg (dn (by omega))]
    have u1 : (24 : Int) ≤ (l.length : Int) := by omega
    have u2 : (40 : Int) ≤ (l.length : Int) := by omega
    have u3 : (7 : Int) < (l.length : Int) := by omega
    have u4 : (6 : Int) < (l.length : Int) := by omega
    have u5 : (l.length : Int) ≤ (l.length : Int) := by omega
    have u6 : (([] : List Int).length + (List.drop 40 (List.take (Int.toNat (l.length : Int)) l)).length) * 1 ≤ maxN := by simp [maxN]; omega
    have tk : List.drop 40 (List.take (Int.toNat (l.length : Int)) l) = List.drop 40 l := by simp
    have y7 : IntKind.i64.wrap (l.getD 7 0) = l.getD 7 0 := wbyte hb 7
    have y6 : IntKind.i64.wrap (l.getD 6 0) = l.getD 6 0 := wbyte hb 6
    simp only [if_pos u1, if_pos u2, if_pos u3, if_pos u4]
    rw [if_pos u5, if_pos u6, tk, y7, y6, List.nil_append, pk_spec]
    simp only [Option.bind_some, rd6, if_neg c4, if_neg (show ¬ at16 l 4 ≠ (l.length : Int) - 40 by simpa using c5)]
    by_cases c6 : PkOK 6 (strOf (List.drop 8 (List.take 24 l))) (strOf (List.drop 24 (List.take 40 l))) (l.getD 7 0) (l.getD 6 0) 0 0 false false (List.drop 40 l).length
    · rw [if_pos c6, tb c6]; rfl
    · rw [if_neg c6, ff c6]; rfl
  rw [if_neg (fb c3), if_neg c3, if_pos h0]
  by_cases c5 : l.getD 0 0 ≠ 69
  · rw [if_neg (show ¬ decide (l.getD 0 0 ≠ 69) = false by rw [tb c5]; simp)]
    by_cases c4 : l.length < 20
    · simp only [rd4, if_pos c4]; rfl
    · simp only [rd4, if_neg c4, if_pos c5]; rfl
  rw [if_pos (ff c5)]
  by_cases c4 : l.length < 20
  · rw [if_neg (show ¬ decide ((l.length : Int) < 20) = false by rw [tb (show (l.length : Int) < 20 by omega)]; simp)]
    simp only [rd4, if_pos c4]
    rfl
  rw [if_pos (ff (show ¬ (l.length : Int) < 20 by omega))]
  have r6 := at16_range hb 6
  have i2 : f150 k l 2 = some (at16 l 2) := specAt k hb hl 2 (by omega)
  have i4 : f150 k l 4 = some (at16 l 4) := specAt k hb hl 4 (by omega)
  have i6 : f150 k l 6 = some (at16 l 6) := specAt k hb hl 6 (by omega)
  rw [i2, Option.bind_some]
  by_cases c6 : at16 l 2 = (l.length : Int)
  case neg =>
    rw [if_pos (dp (fun h => c6 h.symm))]
    simp only [rd4, if_neg c4, if_neg (show ¬ l.getD 0 0 ≠ 69 by simpa using c5), if_pos (show at16 l 2 ≠ (l.length : Int) from c6)]
    rfl
  have tk0 : List.drop 0 (List.take 20 l) = List.take 20 l := List.drop_zero
  have hl20 : (List.take 20 l).length ≤ 60 := by simp; omega
  rw [if_neg (dn c6.symm), if_pos (show (20 : Int) ≤ (l.length : Int) by omega), tk0, specSum hK (hb.take 20) hl20, Option.bind_some]
  by_cases c7 : csum (List.take 20 l) ≠ 0
  · rw [if_pos (tb c7)]
    simp only [rd4, if_neg c4, if_neg (show ¬ l.getD 0 0 ≠ 69 by simpa using c5), if_neg (show ¬ at16 l 2 ≠ (l.length : Int) by simpa using c6), if_pos c7]
    rfl
  rw [if_neg (fb c7), i6, Option.bind_some]
  have u1 : (16 : Int) ≤ (l.length : Int) := by omega
  have u2 : (20 : Int) ≤ (l.length : Int) := by omega
  have u3 : (8 : Int) < (l.length : Int) := by omega
  have u4 : (9 : Int) < (l.length : Int) := by omega
  have u5 : (l.length : Int) ≤ (l.length : Int) := by omega
  have u6 : (([] : List Int).length + (List.drop 20 (List.take (Int.toNat (l.length : Int)) l)).length) * 1 ≤ maxN := by simp [maxN]; omega
  have tk : List.drop 20 (List.take (Int.toNat (l.length : Int)) l) = List.drop 20 l := by simp
  have y8 : IntKind.i64.wrap (l.getD 8 0) = l.getD 8 0 := wbyte hb 8
  have y9 : IntKind.i64.wrap (l.getD 9 0) = l.getD 9 0 := wbyte hb 9
  have t1 : Int.tmod (at16 l 6) 8192 = at16 l 6 % 8192 := Int.tmod_eq_emod_of_nonneg r6.1
  have t2 : Int.tmod (IntKind.i64.wrap (Int.tdiv (at16 l 6) 8192)) 2 = at16 l 6 / 8192 % 2 := by rw [Int.tdiv_eq_ediv_of_nonneg r6.1, w64 (by omega) (by omega), Int.tmod_eq_emod_of_nonneg (by omega)]
  have t3 : Int.tmod (IntKind.i64.wrap (Int.tdiv (at16 l 6) 16384)) 2 = at16 l 6 / 16384 % 2 := by rw [Int.tdiv_eq_ediv_of_nonneg r6.1, w64 (by omega) (by omega), Int.tmod_eq_emod_of_nonneg (by omega)]
  simp only [i4, Option.bind_some, if_pos u1, if_pos u2, if_pos u3, if_pos u4]
  rw [if_pos u5, if_pos u6, tk, y8, y9, List.nil_append, t1, t2, t3]
  simp only [rd4, if_neg c4, if_neg (show ¬ l.getD 0 0 ≠ 69 by simpa using c5), if_neg (show ¬ at16 l 2 ≠ (l.length : Int) by simpa using c6), if_neg c7]
  by_cases c8 : at16 l 6 ≥ 32768
  · rw [if_pos c8, if_neg (show ¬ decide (at16 l 6 ≥ 32768) = false by rw [tb c8]; simp)]
    rfl
  rw [if_neg c8, if_pos (ff c8), pk_spec]
  simp only [Option.bind_some]
  by_cases c9 : PkOK 4 (strOf (List.drop 12 (List.take 16 l))) (strOf (List.drop 16 (List.take 20 l))) (l.getD 8 0) (l.getD 9 0) (at16 l 4) (at16 l 6 % 8192) (decide (at16 l 6 / 8192 % 2 = 1)) (decide (at16 l 6 / 16384 % 2 = 1)) (List.drop 20 l).length
  · rw [if_pos c9, tb c9]; rfl
  · rw [if_neg c9, ff c9]; rfl
theorem spec_read {k : Nat} (hK : 2097152 ≤ k) {l : List Int} (hb : Bytes l) : f29 k l = some (rdP l) := by
  simp only [f29, f29.step, rdP]
  by_cases c1 : l.length > 65536
  · rw [if_pos (tb (show (l.length : Int) > 65536 by omega)), if_pos c1]; rfl
  rw [if_neg (fb (show ¬ (l.length : Int) > 65536 by omega)), if_neg c1, spec_readP hK hb (by omega)]
  exact elim_id _
/-- What both functions answer: a code and nothing; or a packet. -/
def Good (l : List Int) (r : RP) : Prop := (∃ c, r = noP c ∧ c ≠ 0) ∨ ∃ v A B hop proto id off more keep d, r = .inr (v, A, B, hop, proto, id, off, more, keep, d, 0) ∧ PkOK v A B hop proto id off more keep d.length ∧ Bytes d ∧ d.length ≤ l.length
theorem rdP_good {l : List Int} (hb : Bytes l) : Good l (rdP l) := by
  unfold rdP rd6 rd4
  repeat' split
  all_goals first
    | exact .inl ⟨_, rfl, by decide⟩
    | exact .inr ⟨_, _, _, _, _, _, _, _, _, _, rfl, by assumption, hb.drop _, by simp⟩
theorem rdP_cases {l : List Int} (hb : Bytes l) : (∃ c, rdP l = noP c ∧ c ≠ 0) ∨ ∃ v A B hop proto id off more keep d, rdP l = .inr (v, A, B, hop, proto, id, off, more, keep, d, 0) ∧ PkOK v A B hop proto id off more keep d.length ∧ Bytes d ∧ d.length ≤ l.length := rdP_good hb
theorem read_ok {k : Nat} (hK : 2097152 ≤ k) {l : List Int} (hb : Bytes l) (hl : l.length ≤ 1048576) :
    (∃ c, f31 k l = some (.inl (0, ByteArray.empty, ByteArray.empty, 0, 0, 0, 0, false, false, c)) ∧ f29 k l = some (.inl (0, ByteArray.empty, ByteArray.empty, 0, 0, 0, 0, false, false, c))) ∨
    ∃ v A B hop proto id off more keep d, f31 k l = some (.inr (v, A, B, hop, proto, id, off, more, keep, d, 0)) ∧ f29 k l = some (.inr (v, A, B, hop, proto, id, off, more, keep, d, 0)) ∧ PkOK v A B hop proto id off more keep d.length ∧ Bytes d ∧ d.length ≤ l.length := by
  rw [impl_read hK hb hl, spec_read hK hb]
  rcases rdP_cases hb with ⟨c, e, _⟩ | ⟨v, A, B, hop, proto, id, off, more, keep, d, e, h⟩
  · exact .inl ⟨c, by rw [e]; rfl, by rw [e]; rfl⟩
  · exact .inr ⟨v, A, B, hop, proto, id, off, more, keep, d, by rw [e], by rw [e], h⟩
theorem eqP' (k : Nat) (hK : 2097152 ≤ k) (p0 : Int) (p1 p2 : ByteArray) (p3 p4 p5 p6 : Int) (p7 p8 : Bool) {xs : List Int} (hl : xs.length ≤ 1048576) : f32 k p0 p1 p2 p3 p4 p5 p6 p7 p8 xs p0 p1 p2 p3 p4 p5 p6 p7 p8 xs = some true := by
  simp [f32, f32.step, eqB k hK hl]
theorem FnExactReadPacket : Says := by
  intro l ⟨_, hw⟩
  obtain ⟨k, hK⟩ : ∃ k : Nat, 2097152 ≤ k := ⟨_, Nat.le_refl _⟩
  refine ⟨k, ?_⟩
  have hb : Bytes l := fun x hx => wf_u8 (hw x hx)
  simp only [f5, f5.step]
  by_cases c : (l.length : Int) > 1048576
  · rw [if_pos (tb c)]
  rw [if_neg (fb c)]
  have hl : l.length ≤ 1048576 := by omega
  obtain ⟨ys, m1, m2, m3⟩ := markB k hK hl (a := 1) (by omega) (by omega)
  have p0 : decide (1 + (l.length : Int) < 0) = false := ff (by omega)
  simp only [copyB k hK hl, Option.bind_some, eqB k hK hl, m1, p0]
  have n1 : ([] : List Int).length ≤ 1048576 := by simp
  rcases read_ok hK hb hl with ⟨c, e1, e2⟩ | ⟨v, A, B, hop, proto, id, off, more, keep, d, e1, e2, _, _, hd⟩
  · obtain ⟨ys, g1, g2, g3⟩ := markB k hK n1 (a := 1) (by omega) (by omega)
    have g4 := heldB k hK (ys := ys) (by omega) (a := 1) (by omega) (by omega) g2
    have : ys = [] := List.length_eq_zero_iff.mp g3
    subst this
    simp only [e1, e2, Option.bind_some, Sum.elim_inl, eqP' k hK _ _ _ _ _ _ _ _ _ n1, f35, f35.step, f36, f36.step, g1, g4]
    simp
  · obtain ⟨ys, g1, g2, g3⟩ := markB k hK (xs := d) (by omega) (a := 1) (by omega) (by omega)
    have g4 := heldB k hK (ys := ys) (by omega) (a := 1) (by omega) (by omega) g2
    have p1 : decide (1 + (d.length : Int) < 0) = false := ff (by omega)
    rw [g3] at g4
    simp only [e1, e2, Option.bind_some, Sum.elim_inr, eqP' k hK _ _ _ _ _ _ _ _ _ (xs := d) (by omega), f35, f35.step, f36, f36.step, g1, g4, p1]
    have p2 : ¬ (1 + (d.length : Int) < 0) := by omega
    simp [p2]
end Go.Proofs.Ytildepkogbcdpaa.Pure
