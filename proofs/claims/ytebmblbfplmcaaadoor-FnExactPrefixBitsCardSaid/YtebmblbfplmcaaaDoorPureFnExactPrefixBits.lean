/- The plain law of FnExactPrefixBits. -/
import Derived.Test.YtebmblbfplmcaaaDoorSaysFnExactPrefixBits
namespace Go.Proofs.YtebmblbfplmcaaaDoor.Pure
open Go Go.B Go.Proofs.YtebmblbfplmcaaaDoor.B Go.Proofs.YtebmblbfplmcaaaDoor.SaysFnExactPrefixBits
set_option linter.unusedVariables false
set_option linter.unusedSimpArgs false
theorem w64 {n : Int} (h0 : -9223372036854775808 ≤ n) (h1 : n ≤ 9223372036854775807) : IntKind.i64.wrap n = n := by
  rw [IntKind.wrap_i64]; omega
theorem tb {c : Prop} [Decidable c] (h : c) : decide c = true := decide_eq_true h
theorem fb {c : Prop} [Decidable c] (h : ¬ c) : ¬ decide c = true := by simpa using h
theorem ff {c : Prop} [Decidable c] (h : ¬ c) : decide c = false := by simpa using h
theorem gm {α : Type} (pre rest : List α) (x d : α) : List.getD (pre ++ x :: rest) (Int.toNat (pre.length : Int)) d = x := by
  simp [List.getD_eq_getElem?_getD]
theorem lt_mid {α : Type} (pre rest : List α) (x : α) : (pre.length : Int) < ((pre ++ x :: rest).length : Int) := by simp; omega
theorem set_mid {α : Type} (pre rest : List α) (x y : α) : List.set (pre ++ x :: rest) (Int.toNat (pre.length : Int)) y = pre ++ y :: rest := by
  simp
theorem set_at {e : TypeId} (pre rest : List (env.T e)) (x y : env.T e) {off : Nat} {cs : List (Cell env.T)} (h : putCells (E := env) e x off cs = some y) : setE env e (pre ++ x :: rest) (Int.toNat (pre.length : Int)) off cs = pre ++ y :: rest := by
  have hg : List.getD (pre ++ x :: rest) (Int.toNat (pre.length : Int)) (env.dflt e) = x := gm pre rest x _
  simp only [setE, hg, h, Option.getD_some, set_mid]
theorem mid_next {α : Type} (pre rest : List α) (x : α) : pre ++ x :: rest = (pre ++ [x]) ++ rest := by simp
def ds (s : ByteArray) : List UInt8 := s.data.toList
theorem ds_len (s : ByteArray) : (ds s).length = s.size := (Lib.size_eq s).symm
theorem ds_inj {s t : ByteArray} (h : ds s = ds t) : s = t := by
  obtain ⟨⟨l⟩⟩ := s; obtain ⟨⟨m⟩⟩ := t
  simp only [ds] at h
  rw [h]
theorem ds_mk (l : List UInt8) : ds ⟨l.toArray⟩ = l := rfl
theorem bt_get {s : ByteArray} {i : Nat} {b : UInt8} (h : (ds s)[i]? = some b) : bt s (i : Int) = (b.toNat : Int) := by
  obtain ⟨⟨l⟩⟩ := s
  simp only [ds] at h
  have hl : i < l.length := (List.getElem?_eq_some_iff.1 h).1
  unfold bt
  rw [dif_pos (by rw [Int.toNat_natCast]; exact hl)]
  have : l[i] = b := (List.getElem?_eq_some_iff.1 h).2
  simp only [Int.toNat_natCast]
  show ((l[i].toNat : Nat) : Int) = _
  rw [this]
theorem bt_at {s : ByteArray} {i : Nat} {b : UInt8} {rest : List UInt8} (hi : i < s.size) (e : ds s = (ds s).take i ++ b :: rest) : bt s (i : Int) = (b.toNat : Int) := by
  apply bt_get
  rw [e, List.getElem?_append_right (by simp; omega)]
  simp [ds_len, Nat.min_eq_left (Nat.le_of_lt hi)]
theorem take_next {l rest : List UInt8} {i : Nat} {b : UInt8} (e : l = l.take i ++ b :: rest) (h : i < l.length) : l = l.take (i + 1) ++ rest := by
  have h2 : l.drop i = b :: rest := List.append_cancel_left ((List.take_append_drop i l).trans e)
  have h3 : l.drop (i + 1) = rest := by rw [← List.drop_drop, h2]; rfl
  rw [← h3, List.take_append_drop]
def dig : Int → List UInt8 → Option Int
  | a, [] => some a
  | a, b :: l => if 48 ≤ (b.toNat : Int) ∧ (b.toNat : Int) ≤ 57 then dig (10 * a + ((b.toNat : Int) - 48)) l else none
theorem w8_id {n : Int} (h0 : 0 ≤ n) (h1 : n ≤ 255) : IntKind.u8.wrap n = n := by
  simp [IntKind.wrap, IntKind.bits, IntKind.signed]; omega
theorem wr_spec {a x : Int} (h0 : 0 ≤ a) (h1 : a ≤ 100000000000000000) (hx : 48 ≤ x ∧ x ≤ 57) : IntKind.i64.wrap (IntKind.i64.wrap (IntKind.i64.wrap (a * 10) + IntKind.i64.wrap x) - 48) = 10 * a + (x - 48) := by
  rw [w64 (n := a * 10) (by omega) (by omega), w64 (n := x) (by omega) (by omega), w64 (n := a * 10 + x) (by omega) (by omega), w64 (by omega) (by omega)]; omega
theorem wr_impl {a x : Int} (h0 : 0 ≤ a) (h1 : a ≤ 100000000000000000) (hx : 48 ≤ x ∧ x ≤ 57) : IntKind.i64.wrap (IntKind.i64.wrap (10 * a) + IntKind.i64.wrap (IntKind.u8.wrap (x - 48))) = 10 * a + (x - 48) := by
  rw [w8_id (by omega) (by omega), w64 (n := 10 * a) (by omega) (by omega), w64 (n := x - 48) (by omega) (by omega), w64 (by omega) (by omega)]
theorem spec_dig (k : Nat) (s : ByteArray) (g : Int) (hs : s.size ≤ 1000) : ∀ (rest : List UInt8) (i j : Nat) (a : Int), ds s = (ds s).take i ++ rest → i + rest.length = s.size → rest.length < j → 0 ≤ a → (a + 1) * 10 ^ rest.length ≤ 1000000000000000000 →
    (∃ v, dig a rest = some v ∧ f38.l9 k j s g a (i : Int) = some (.inr (g, v)) ∧ 0 ≤ v ∧ v < 1000000000000000000) ∨ (dig a rest = none ∧ ∃ c, f38.l9 k j s g a (i : Int) = some (.inl (0, false, g, c)))
  | rest, i, 0, a, e, hi, hj, h0, h1 => by omega
  | [], i, j + 1, a, e, hi, hj, h0, h1 => by
    left
    have h2 : ¬ (i : Int) < (s.size : Int) := by simp at hi; omega
    simp only [List.length_nil, Nat.pow_zero] at h1
    refine ⟨a, rfl, ?_, h0, by omega⟩
    simp only [f38.l9, f38.l9.step, h2, decide_false]; rfl
  | b :: rest, i, j + 1, a, e, hi, hj, h0, h1 => by
    simp only [List.length_cons] at hi hj
    have hil : i < s.size := by omega
    have h2 : (i : Int) < (s.size : Int) := by omega
    have h3 : (0 : Int) ≤ (i : Int) := by omega
    have hb : bt s (i : Int) = (b.toNat : Int) := bt_at hil e
    have hb2 : b.toNat ≤ 255 := by have := b.toNat_lt; omega
    have hw : IntKind.i64.wrap ((i : Int) + 1) = ((i + 1 : Nat) : Int) := by rw [w64 (by omega) (by omega)]; omega
    have e' : ds s = (ds s).take (i + 1) ++ rest := take_next e (by rw [ds_len]; omega)
    have hp : (10 : Int) ^ (rest.length + 1) = 10 ^ rest.length * 10 := by rw [Int.pow_succ]
    have hpp : (0 : Int) < 10 ^ rest.length := Int.pow_pos (by omega)
    rw [List.length_cons, hp] at h1
    by_cases hlo : (b.toNat : Int) < 48
    · right
      refine ⟨by simp only [dig]; rw [if_neg (by omega)], a, ?_⟩
      simp only [f38.l9, f38.l9.step, h2, h3, hb, hlo, decide_true, if_true]; rfl
    by_cases hhi : (b.toNat : Int) > 57
    · right
      refine ⟨by simp only [dig]; rw [if_neg (by omega)], a, ?_⟩
      simp only [f38.l9, f38.l9.step, h2, h3, hb, hlo, hhi, decide_true, decide_false, if_true]
    have hd : dig a (b :: rest) = dig (10 * a + ((b.toNat : Int) - 48)) rest := by simp only [dig]; rw [if_pos (by omega)]
    have hle : (a + 1) * 10 ≤ 1000000000000000000 := by
      have : (a + 1) * (10 ^ rest.length * 10) = ((a + 1) * 10) * 10 ^ rest.length := by rw [Int.mul_comm (10 ^ rest.length) 10, Int.mul_assoc]
      rw [this] at h1
      have h5 : ((a + 1) * 10) * 1 ≤ ((a + 1) * 10) * 10 ^ rest.length := Int.mul_le_mul_of_nonneg_left (by omega) (by omega)
      omega
    have hn : (10 * a + ((b.toNat : Int) - 48) + 1) * 10 ^ rest.length ≤ 1000000000000000000 := by
      have : (a + 1) * (10 ^ rest.length * 10) = (10 * a + 10) * 10 ^ rest.length := by
        rw [Int.mul_comm (10 ^ rest.length) 10, ← Int.mul_assoc]; congr 1; omega
      rw [this] at h1
      have h5 : (10 * a + ((b.toNat : Int) - 48) + 1) * 10 ^ rest.length ≤ (10 * a + 10) * 10 ^ rest.length := Int.mul_le_mul_of_nonneg_right (by omega) (by omega)
      omega
    have ih := spec_dig k s g hs rest (i + 1) j (10 * a + ((b.toNat : Int) - 48)) e' (by omega) (by omega) (by omega) hn
    rw [hd]
    have hst : f38.l9 k (j + 1) s g a (i : Int) = f38.l9 k j s g (10 * a + ((b.toNat : Int) - 48)) ((i + 1 : Nat) : Int) := by
      rw [f38.l9]
      simp only [f38.l9.step, h2, h3, hb, hlo, hhi, decide_true, decide_false, if_true, hw]
      rw [wr_spec h0 (by omega) ⟨by omega, by omega⟩]
      rfl
    rw [hst]
    exact ih
theorem spec_dig1 (k : Nat) (s : ByteArray) (g : Int) (hs : s.size ≤ 1000) : ∀ (rest : List UInt8) (i j : Nat) (a : Int), ds s = (ds s).take i ++ rest → i + rest.length = s.size → rest.length < j → 0 ≤ a → (a + 1) * 10 ^ rest.length ≤ 1000000000000000000 →
    (∃ v, dig a rest = some v ∧ f38.l9_1 k j s g a (i : Int) = some (.inr (g, v)) ∧ 0 ≤ v ∧ v < 1000000000000000000) ∨ (dig a rest = none ∧ ∃ c, f38.l9_1 k j s g a (i : Int) = some (.inl (0, false, g, c)))
  | rest, i, 0, a, e, hi, hj, h0, h1 => by omega
  | [], i, j + 1, a, e, hi, hj, h0, h1 => by
    left
    have h2 : ¬ (i : Int) < (s.size : Int) := by simp at hi; omega
    simp only [List.length_nil, Nat.pow_zero] at h1
    refine ⟨a, rfl, ?_, h0, by omega⟩
    simp only [f38.l9_1, f38.l9_1.step, h2, decide_false]; rfl
  | b :: rest, i, j + 1, a, e, hi, hj, h0, h1 => by
    simp only [List.length_cons] at hi hj
    have hil : i < s.size := by omega
    have h2 : (i : Int) < (s.size : Int) := by omega
    have h3 : (0 : Int) ≤ (i : Int) := by omega
    have hb : bt s (i : Int) = (b.toNat : Int) := bt_at hil e
    have hb2 : b.toNat ≤ 255 := by have := b.toNat_lt; omega
    have hw : IntKind.i64.wrap ((i : Int) + 1) = ((i + 1 : Nat) : Int) := by rw [w64 (by omega) (by omega)]; omega
    have e' : ds s = (ds s).take (i + 1) ++ rest := take_next e (by rw [ds_len]; omega)
    have hp : (10 : Int) ^ (rest.length + 1) = 10 ^ rest.length * 10 := by rw [Int.pow_succ]
    have hpp : (0 : Int) < 10 ^ rest.length := Int.pow_pos (by omega)
    rw [List.length_cons, hp] at h1
    by_cases hlo : (b.toNat : Int) < 48
    · right
      refine ⟨by simp only [dig]; rw [if_neg (by omega)], a, ?_⟩
      simp only [f38.l9_1, f38.l9_1.step, h2, h3, hb, hlo, decide_true, if_true]; rfl
    by_cases hhi : (b.toNat : Int) > 57
    · right
      refine ⟨by simp only [dig]; rw [if_neg (by omega)], a, ?_⟩
      simp only [f38.l9_1, f38.l9_1.step, h2, h3, hb, hlo, hhi, decide_true, decide_false, if_true]
    have hd : dig a (b :: rest) = dig (10 * a + ((b.toNat : Int) - 48)) rest := by simp only [dig]; rw [if_pos (by omega)]
    have hle : (a + 1) * 10 ≤ 1000000000000000000 := by
      have : (a + 1) * (10 ^ rest.length * 10) = ((a + 1) * 10) * 10 ^ rest.length := by rw [Int.mul_comm (10 ^ rest.length) 10, Int.mul_assoc]
      rw [this] at h1
      have h5 : ((a + 1) * 10) * 1 ≤ ((a + 1) * 10) * 10 ^ rest.length := Int.mul_le_mul_of_nonneg_left (by omega) (by omega)
      omega
    have hn : (10 * a + ((b.toNat : Int) - 48) + 1) * 10 ^ rest.length ≤ 1000000000000000000 := by
      have : (a + 1) * (10 ^ rest.length * 10) = (10 * a + 10) * 10 ^ rest.length := by
        rw [Int.mul_comm (10 ^ rest.length) 10, ← Int.mul_assoc]; congr 1; omega
      rw [this] at h1
      have h5 : (10 * a + ((b.toNat : Int) - 48) + 1) * 10 ^ rest.length ≤ (10 * a + 10) * 10 ^ rest.length := Int.mul_le_mul_of_nonneg_right (by omega) (by omega)
      omega
    have ih := spec_dig1 k s g hs rest (i + 1) j (10 * a + ((b.toNat : Int) - 48)) e' (by omega) (by omega) (by omega) hn
    rw [hd]
    have hst : f38.l9_1 k (j + 1) s g a (i : Int) = f38.l9_1 k j s g (10 * a + ((b.toNat : Int) - 48)) ((i + 1 : Nat) : Int) := by
      rw [f38.l9_1]
      simp only [f38.l9_1.step, h2, h3, hb, hlo, hhi, decide_true, decide_false, if_true, hw]
      rw [wr_spec h0 (by omega) ⟨by omega, by omega⟩]
      rfl
    rw [hst]
    exact ih
theorem impl_dig (k : Nat) (s : ByteArray) (s0 : ByteArray) (hs : s.size ≤ 1000) : ∀ (rest : List UInt8) (i j : Nat) (a : Int), ds s = (ds s).take i ++ rest → i + rest.length = s.size → rest.length < j → 0 ≤ a → (a + 1) * 10 ^ rest.length ≤ 1000000000000000000 →
    (∃ v, dig a rest = some v ∧ f20.l10 k j s0 s a (i : Int) = some (.inr (s0, s, v)) ∧ 0 ≤ v ∧ v < 1000000000000000000) ∨ (dig a rest = none ∧ ∃ c, f20.l10 k j s0 s a (i : Int) = some (.inl (s0, 0, false, s, c)))
  | rest, i, 0, a, e, hi, hj, h0, h1 => by omega
  | [], i, j + 1, a, e, hi, hj, h0, h1 => by
    left
    have h2 : ¬ (i : Int) < (s.size : Int) := by simp at hi; omega
    simp only [List.length_nil, Nat.pow_zero] at h1
    refine ⟨a, rfl, ?_, h0, by omega⟩
    simp only [f20.l10, f20.l10.step, h2, decide_false]; rfl
  | b :: rest, i, j + 1, a, e, hi, hj, h0, h1 => by
    simp only [List.length_cons] at hi hj
    have hil : i < s.size := by omega
    have h2 : (i : Int) < (s.size : Int) := by omega
    have h3 : (0 : Int) ≤ (i : Int) := by omega
    have hb : bt s (i : Int) = (b.toNat : Int) := bt_at hil e
    have hb2 : b.toNat ≤ 255 := by have := b.toNat_lt; omega
    have hw : IntKind.i64.wrap ((i : Int) + 1) = ((i + 1 : Nat) : Int) := by rw [w64 (by omega) (by omega)]; omega
    have e' : ds s = (ds s).take (i + 1) ++ rest := take_next e (by rw [ds_len]; omega)
    have hp : (10 : Int) ^ (rest.length + 1) = 10 ^ rest.length * 10 := by rw [Int.pow_succ]
    have hpp : (0 : Int) < 10 ^ rest.length := Int.pow_pos (by omega)
    rw [List.length_cons, hp] at h1
    by_cases hlo : (b.toNat : Int) < 48
    · right
      refine ⟨by simp only [dig]; rw [if_neg (by omega)], a, ?_⟩
      simp only [f20.l10, f20.l10.step, h2, h3, hb, hlo, decide_true, if_true]; rfl
    by_cases hhi : (b.toNat : Int) > 57
    · right
      refine ⟨by simp only [dig]; rw [if_neg (by omega)], a, ?_⟩
      simp only [f20.l10, f20.l10.step, h2, h3, hb, hlo, hhi, decide_true, decide_false, if_true]
    have hd : dig a (b :: rest) = dig (10 * a + ((b.toNat : Int) - 48)) rest := by simp only [dig]; rw [if_pos (by omega)]
    have hle : (a + 1) * 10 ≤ 1000000000000000000 := by
      have : (a + 1) * (10 ^ rest.length * 10) = ((a + 1) * 10) * 10 ^ rest.length := by rw [Int.mul_comm (10 ^ rest.length) 10, Int.mul_assoc]
      rw [this] at h1
      have h5 : ((a + 1) * 10) * 1 ≤ ((a + 1) * 10) * 10 ^ rest.length := Int.mul_le_mul_of_nonneg_left (by omega) (by omega)
      omega
    have hn : (10 * a + ((b.toNat : Int) - 48) + 1) * 10 ^ rest.length ≤ 1000000000000000000 := by
      have : (a + 1) * (10 ^ rest.length * 10) = (10 * a + 10) * 10 ^ rest.length := by
        rw [Int.mul_comm (10 ^ rest.length) 10, ← Int.mul_assoc]; congr 1; omega
      rw [this] at h1
      have h5 : (10 * a + ((b.toNat : Int) - 48) + 1) * 10 ^ rest.length ≤ (10 * a + 10) * 10 ^ rest.length := Int.mul_le_mul_of_nonneg_right (by omega) (by omega)
      omega
    have ih := impl_dig k s s0 hs rest (i + 1) j (10 * a + ((b.toNat : Int) - 48)) e' (by omega) (by omega) (by omega) hn
    rw [hd]
    have hst : f20.l10 k (j + 1) s0 s a (i : Int) = f20.l10 k j s0 s (10 * a + ((b.toNat : Int) - 48)) ((i + 1 : Nat) : Int) := by
      rw [f20.l10]
      simp only [f20.l10.step, h2, h3, hb, hlo, hhi, decide_true, decide_false, if_true, hw]
      rw [wr_impl h0 (by omega) ⟨by omega, by omega⟩]
      rfl
    rw [hst]
    exact ih
theorem impl_dig1 (k : Nat) (s : ByteArray) (s0 : ByteArray) (hs : s.size ≤ 1000) : ∀ (rest : List UInt8) (i j : Nat) (a : Int), ds s = (ds s).take i ++ rest → i + rest.length = s.size → rest.length < j → 0 ≤ a → (a + 1) * 10 ^ rest.length ≤ 1000000000000000000 →
    (∃ v, dig a rest = some v ∧ f20.l10_1 k j s0 s a (i : Int) = some (.inr (s0, s, v)) ∧ 0 ≤ v ∧ v < 1000000000000000000) ∨ (dig a rest = none ∧ ∃ c, f20.l10_1 k j s0 s a (i : Int) = some (.inl (s0, 0, false, s, c)))
  | rest, i, 0, a, e, hi, hj, h0, h1 => by omega
  | [], i, j + 1, a, e, hi, hj, h0, h1 => by
    left
    have h2 : ¬ (i : Int) < (s.size : Int) := by simp at hi; omega
    simp only [List.length_nil, Nat.pow_zero] at h1
    refine ⟨a, rfl, ?_, h0, by omega⟩
    simp only [f20.l10_1, f20.l10_1.step, h2, decide_false]; rfl
  | b :: rest, i, j + 1, a, e, hi, hj, h0, h1 => by
    simp only [List.length_cons] at hi hj
    have hil : i < s.size := by omega
    have h2 : (i : Int) < (s.size : Int) := by omega
    have h3 : (0 : Int) ≤ (i : Int) := by omega
    have hb : bt s (i : Int) = (b.toNat : Int) := bt_at hil e
    have hb2 : b.toNat ≤ 255 := by have := b.toNat_lt; omega
    have hw : IntKind.i64.wrap ((i : Int) + 1) = ((i + 1 : Nat) : Int) := by rw [w64 (by omega) (by omega)]; omega
    have e' : ds s = (ds s).take (i + 1) ++ rest := take_next e (by rw [ds_len]; omega)
    have hp : (10 : Int) ^ (rest.length + 1) = 10 ^ rest.length * 10 := by rw [Int.pow_succ]
    have hpp : (0 : Int) < 10 ^ rest.length := Int.pow_pos (by omega)
    rw [List.length_cons, hp] at h1
    by_cases hlo : (b.toNat : Int) < 48
    · right
      refine ⟨by simp only [dig]; rw [if_neg (by omega)], a, ?_⟩
      simp only [f20.l10_1, f20.l10_1.step, h2, h3, hb, hlo, decide_true, if_true]; rfl
    by_cases hhi : (b.toNat : Int) > 57
    · right
      refine ⟨by simp only [dig]; rw [if_neg (by omega)], a, ?_⟩
      simp only [f20.l10_1, f20.l10_1.step, h2, h3, hb, hlo, hhi, decide_true, decide_false, if_true]
    have hd : dig a (b :: rest) = dig (10 * a + ((b.toNat : Int) - 48)) rest := by simp only [dig]; rw [if_pos (by omega)]
    have hle : (a + 1) * 10 ≤ 1000000000000000000 := by
      have : (a + 1) * (10 ^ rest.length * 10) = ((a + 1) * 10) * 10 ^ rest.length := by rw [Int.mul_comm (10 ^ rest.length) 10, Int.mul_assoc]
      rw [this] at h1
      have h5 : ((a + 1) * 10) * 1 ≤ ((a + 1) * 10) * 10 ^ rest.length := Int.mul_le_mul_of_nonneg_left (by omega) (by omega)
      omega
    have hn : (10 * a + ((b.toNat : Int) - 48) + 1) * 10 ^ rest.length ≤ 1000000000000000000 := by
      have : (a + 1) * (10 ^ rest.length * 10) = (10 * a + 10) * 10 ^ rest.length := by
        rw [Int.mul_comm (10 ^ rest.length) 10, ← Int.mul_assoc]; congr 1; omega
      rw [this] at h1
      have h5 : (10 * a + ((b.toNat : Int) - 48) + 1) * 10 ^ rest.length ≤ (10 * a + 10) * 10 ^ rest.length := Int.mul_le_mul_of_nonneg_right (by omega) (by omega)
      omega
    have ih := impl_dig1 k s s0 hs rest (i + 1) j (10 * a + ((b.toNat : Int) - 48)) e' (by omega) (by omega) (by omega) hn
    rw [hd]
    have hst : f20.l10_1 k (j + 1) s0 s a (i : Int) = f20.l10_1 k j s0 s (10 * a + ((b.toNat : Int) - 48)) ((i + 1 : Nat) : Int) := by
      rw [f20.l10_1]
      simp only [f20.l10_1.step, h2, h3, hb, hlo, hhi, decide_true, decide_false, if_true, hw]
      rw [wr_impl h0 (by omega) ⟨by omega, by omega⟩]
      rfl
    rw [hst]
    exact ih
theorem p18 : ∀ n : Nat, n ≤ 18 → ((0 : Int) + 1) * 10 ^ n ≤ 1000000000000000000 := fun n h => by
  have : ∀ m : Fin 19, ((0 : Int) + 1) * 10 ^ m.val ≤ 1000000000000000000 := by decide
  exact this ⟨n, by omega⟩
theorem dig_ge : ∀ (l : List UInt8) (a v : Int), dig a l = some v → 0 ≤ a → a * 10 ^ l.length ≤ v
  | [], a, v, h, h0 => by simp only [dig, Option.some.injEq] at h; simp [h]
  | b :: l, a, v, h, h0 => by
    simp only [dig] at h
    split at h
    · rename_i hb
      have ih := dig_ge l _ v h (by omega)
      have hpp : (0 : Int) < 10 ^ l.length := Int.pow_pos (by omega)
      have e : a * 10 ^ (b :: l).length = (10 * a) * 10 ^ l.length := by rw [List.length_cons, Int.pow_succ, Int.mul_comm (10 ^ l.length) 10, ← Int.mul_assoc, Int.mul_comm a 10]
      have h5 : (10 * a) * 10 ^ l.length ≤ (10 * a + ((b.toNat : Int) - 48)) * 10 ^ l.length := Int.mul_le_mul_of_nonneg_right (by omega) (by omega)
      rw [e]; omega
    · cases h
theorem dig_small {s : ByteArray} {v : Int} (h : dig 0 (ds s) = some v) (hs : 0 < s.size) (hb : ¬ bt s 0 = 48) (hv : v ≤ 255) : 0 < v ∧ s.size ≤ 3 := by
  have hl := ds_len s
  cases hd : ds s with
  | nil => rw [hd] at hl; simp at hl; omega
  | cons b l =>
    rw [hd] at h hl
    have hb0 : bt s 0 = (b.toNat : Int) := bt_get (s := s) (i := 0) (by rw [hd]; rfl)
    rw [hb0] at hb
    simp only [dig] at h
    split at h
    · rename_i hr
      have hg := dig_ge l _ v h (by omega)
      have hpp : (0 : Int) < 10 ^ l.length := Int.pow_pos (by omega)
      have h5 : 1 * 10 ^ l.length ≤ (10 * 0 + ((b.toNat : Int) - 48)) * 10 ^ l.length := Int.mul_le_mul_of_nonneg_right (by omega) (by omega)
      refine ⟨by omega, ?_⟩
      simp only [List.length_cons] at hl
      by_cases c : l.length ≤ 2
      · omega
      · have : (10 : Int) ^ 3 ≤ 10 ^ l.length := by
          obtain ⟨m, hm⟩ : ∃ m, l.length = 3 + m := ⟨l.length - 3, by omega⟩
          rw [hm, Int.pow_add]
          have hq : (0 : Int) < 10 ^ m := Int.pow_pos (by omega)
          have : (10 : Int) ^ 3 * 1 ≤ 10 ^ 3 * 10 ^ m := Int.mul_le_mul_of_nonneg_left (by omega) (by decide)
          omega
        have e3 : (10 : Int) ^ 3 = 1000 := by decide
        omega
    · cases h
theorem num_eq (k : Nat) (hK : 2097152 ≤ k) (s : ByteArray) (hs : s.size ≤ 1000) : ∃ v b, f38 k s = some (v, b) ∧ f20 k s = some (v, b) ∧ (b = true → 0 ≤ v → v ≤ 255 → s.size ≤ 10) := by
  simp only [f38, f38.step, f20, f20.step]
  by_cases h0 : (s.size : Int) > 0
  case neg =>
    have h1 : (s.size : Int) = 0 := by omega
    have h2 : (s.size : Int) < 1 := by omega
    simp only [h0, h1, h2, decide_true, decide_false]
    exact ⟨0, false, rfl, rfl, fun h => by cases h⟩
  have hlt : (0 : Int) < (s.size : Int) := h0
  have hne : ¬ (s.size : Int) = 0 := by omega
  have hn1 : ¬ (s.size : Int) < 1 := by omega
  have h1l : (1 : Int) ≤ (s.size : Int) := by omega
  simp only [h0, hlt, decide_true, if_true]
  by_cases hm : bt s 0 = 45
  · let t := s.extract 1 s.size
    have ht : s.extract 1 (Int.toNat (s.size : Int)) = t := by rw [Int.toNat_natCast]
    have hts : t.size = s.size - 1 := by show (s.extract 1 s.size).size = _; rw [ByteArray.size_extract]; omega
    simp only [hm, h1l, decide_true, if_true, Int.le_refl, ht]
    by_cases c1 : (t.size : Int) = 0
    · have c2 : (t.size : Int) < 1 := by omega
      simp only [c1, c2, decide_true]
      exact ⟨0, false, rfl, rfl, fun h => by cases h⟩
    have c2 : ¬ (t.size : Int) < 1 := by omega
    simp only [c1, c2, decide_false, if_true]
    by_cases c3 : (t.size : Int) > 18
    · simp only [c3, decide_true]
      exact ⟨0, false, rfl, rfl, fun h => by cases h⟩
    have c4 : (0 : Int) < (t.size : Int) := by omega
    simp only [c3, c4, decide_false, if_true]
    by_cases c5 : bt t 0 = 48
    · have c6 : (s.size : Int) > 1 := by omega
      simp only [c5, c6, decide_true, if_true]
      by_cases c7 : (t.size : Int) > 1
      · simp only [c7, decide_true]; exact ⟨0, false, rfl, rfl, fun h => by cases h⟩
      · simp only [c7, decide_false, if_true]; exact ⟨0, false, rfl, rfl, fun h => by cases h⟩
    simp only [c5, decide_false]
    have d1 := spec_dig k t (-1) (by omega) (ds t) 0 k 0 (by simp) (by rw [ds_len]; omega) (by rw [ds_len]; omega) (by omega) (p18 _ (by rw [ds_len]; omega))
    have d2 := impl_dig k t s (by omega) (ds t) 0 k 0 (by simp) (by rw [ds_len]; omega) (by rw [ds_len]; omega) (by omega) (p18 _ (by rw [ds_len]; omega))
    rcases d1 with ⟨v, e1, e2, b0, b1⟩ | ⟨e1, c, e2⟩
    · rcases d2 with ⟨v', e3, e4, _⟩ | ⟨e3, _⟩
      · rw [e1] at e3; cases e3
        have e2' : f38.l9 k k t (-1) 0 0 = some (.inr (-1, v)) := e2
        have e4' : f20.l10 k k s t 0 0 = some (.inr (s, t, v)) := e4
        have c8 : (t.size : Int) < (s.size : Int) := by omega
        simp only [e2', e4', Option.bind_some, Sum.elim_inr, c8, decide_true, if_true]
        have w1 : IntKind.i64.wrap (-1 * v) = -v := by rw [w64 (by omega) (by omega)]; omega
        have w2 : IntKind.i64.wrap (0 - v) = -v := by rw [w64 (by omega) (by omega)]; omega
        rw [w1, w2]
        refine ⟨-v, true, rfl, rfl, fun _ hv _ => ?_⟩
        have := dig_small e1 (by omega) c5 (by omega)
        omega
      · rw [e1] at e3; cases e3
    · rcases d2 with ⟨v', e3, _⟩ | ⟨e3, c', e4⟩
      · rw [e1] at e3; cases e3
      · have e2' : f38.l9 k k t (-1) 0 0 = some (.inl (0, false, -1, c)) := e2
        have e4' : f20.l10 k k s t 0 0 = some (.inl (s, 0, false, t, c')) := e4
        simp only [e2', e4', Option.bind_some, Sum.elim_inl]
        exact ⟨0, false, rfl, rfl, fun h => by cases h⟩
  · simp only [hm, decide_false, hne, hn1]
    by_cases c3 : (s.size : Int) > 18
    · simp only [c3, decide_true]
      exact ⟨0, false, rfl, rfl, fun h => by cases h⟩
    have d1 := spec_dig1 k s 1 (by omega) (ds s) 0 k 0 (by simp) (by rw [ds_len]; omega) (by rw [ds_len]; omega) (by omega) (p18 _ (by rw [ds_len]; omega))
    have d2 := impl_dig1 k s s (by omega) (ds s) 0 k 0 (by simp) (by rw [ds_len]; omega) (by rw [ds_len]; omega) (by omega) (p18 _ (by rw [ds_len]; omega))
    have key : ∃ v b, ((f38.l9_1 k k s 1 0 0).bind (Sum.elim (fun t6 => some (t6.1, t6.2.1)) (fun t7 => some ((IntKind.i64.wrap (t7.1 * t7.2)), true)))) = some (v, b) ∧
        ((f20.l10_1 k k s s 0 0).bind (Sum.elim (fun t14 => some (t14.2.1, t14.2.2.1)) (fun t15 => if (decide ((t15.2.1.size : Int) < (t15.1.size : Int))) = true then some ((IntKind.i64.wrap (0 - t15.2.2)), true) else some (t15.2.2, true)))) = some (v, b) ∧ (b = true → dig 0 (ds s) = some v) := by
      rcases d1 with ⟨v, e1, e2, b0, b1⟩ | ⟨e1, c, e2⟩
      · rcases d2 with ⟨v', e3, e4, _⟩ | ⟨e3, _⟩
        · rw [e1] at e3; cases e3
          have e2' : f38.l9_1 k k s 1 0 0 = some (.inr (1, v)) := e2
          have e4' : f20.l10_1 k k s s 0 0 = some (.inr (s, s, v)) := e4
          have c8 : ¬ (s.size : Int) < (s.size : Int) := by omega
          simp only [e2', e4', Option.bind_some, Sum.elim_inr, c8, decide_false]
          have w1 : IntKind.i64.wrap (1 * v) = v := by rw [w64 (by omega) (by omega)]; omega
          rw [w1]
          exact ⟨v, true, rfl, rfl, fun _ => e1⟩
        · rw [e1] at e3; cases e3
      · rcases d2 with ⟨v', e3, _⟩ | ⟨e3, c', e4⟩
        · rw [e1] at e3; cases e3
        · have e2' : f38.l9_1 k k s 1 0 0 = some (.inl (0, false, 1, c)) := e2
          have e4' : f20.l10_1 k k s s 0 0 = some (.inl (s, 0, false, s, c')) := e4
          simp only [e2', e4', Option.bind_some, Sum.elim_inl]
          exact ⟨0, false, rfl, rfl, fun h => by cases h⟩
    simp only [c3, decide_false, if_true]
    by_cases c5 : bt s 0 = 48
    · simp only [c5, decide_true, if_true]
      by_cases c7 : (s.size : Int) > 1
      · simp only [c7, decide_true]; exact ⟨0, false, rfl, rfl, fun h => by cases h⟩
      · simp only [c7, decide_false, if_true]
        obtain ⟨v, b, k1, k2, k3⟩ := key
        exact ⟨v, b, k1, k2, fun _ _ _ => by omega⟩
    · simp only [c5, decide_false]
      obtain ⟨v, b, k1, k2, k3⟩ := key
      exact ⟨v, b, k1, k2, fun h _ hv => by have := dig_small (k3 h) (by omega) c5 hv; omega⟩
/-! ### cut at a byte -/
def sp (c : UInt8) : List UInt8 → List (List UInt8)
  | [] => [[]]
  | b :: l => if b = c then [] :: sp c l else match sp c l with
    | [] => [[b]]
    | x :: xs => (b :: x) :: xs
theorem sp_ne (c : UInt8) : ∀ l, sp c l ≠ []
  | [] => by simp [sp]
  | b :: l => by
    unfold sp
    split
    · simp
    · split <;> simp
theorem split_sp (c : UInt8) : ∀ l : List UInt8, Lib.splitK [c] 0 (Lib.count l [c]) l = sp c l
  | [] => by
    rw [Lib.count_miss (by simp [Lib.index])]; rfl
  | b :: l => by
    have ih := split_sp c l
    by_cases h : b = c
    · subst h
      have hix : Lib.index (b :: l) [b] = 0 := by rw [Lib.index]; simp [List.isPrefixOf]
      rw [Lib.count_cons_eq, Nat.add_comm]
      simp only [Lib.splitK, hix]
      simp [ih, sp]
    · rw [Lib.count_cons_ne b c l h]
      have hp : ([c] : List UInt8).isPrefixOf (b :: l) = false := by simp [List.isPrefixOf, Ne.symm h]
      have hix : Lib.index (b :: l) [c] = if Lib.index l [c] == -1 then -1 else Lib.index l [c] + 1 := by rw [Lib.index, hp]; simp
      cases hc : Lib.count l [c] with
      | zero =>
        rw [hc] at ih
        simp only [Lib.splitK] at ih ⊢
        simp only [sp, h, if_false, ← ih]
      | succ m =>
        rw [hc] at ih
        by_cases hm : Lib.index l [c] = -1
        · rw [Lib.count_miss hm] at hc; cases hc
        · have hge := Lib.index_ge l [c]
          obtain ⟨j, hj⟩ : ∃ j : Nat, Lib.index l [c] = j := ⟨(Lib.index l [c]).toNat, by omega⟩
          have hix' : Lib.index (b :: l) [c] = ((j + 1 : Nat) : Int) := by rw [hix, if_neg (fun e => hm (beq_iff_eq.1 e)), hj]; omega
          have n1 : ¬ (((j + 1 : Nat) : Int) == -1) = true := fun e => by have := beq_iff_eq.1 e; omega
          have n2 : ¬ (((j : Nat) : Int) == -1) = true := fun e => by have := beq_iff_eq.1 e; omega
          simp only [Lib.splitK, hj, if_neg n2] at ih
          simp only [Lib.splitK, hix', if_neg n1, sp, h, if_false, ← ih]
          simp
theorem pieces_sp (c : UInt8) (s : ByteArray) : (Lib.splitB ⟨#[c]⟩ 0 (Lib.countB s ⟨#[c]⟩) s).map ds = sp c (ds s) := by
  have h := Lib.splitB_data ⟨#[c]⟩ 0 (Lib.countB s ⟨#[c]⟩) s
  have h2 : (Lib.splitB ⟨#[c]⟩ 0 (Lib.countB s ⟨#[c]⟩) s).map ds = (Lib.splitB ⟨#[c]⟩ 0 (Lib.countB s ⟨#[c]⟩) s).map (·.data.toList) := rfl
  rw [h2, h]
  exact split_sp c (ds s)
/-! ### the specification's cut -/
def spA (c : UInt8) : List UInt8 → List UInt8 → List (List UInt8)
  | p, [] => [p]
  | p, b :: l => if b = c then p :: spA c [] l else spA c (p ++ [b]) l
theorem spA_sp (c : UInt8) : ∀ l p, spA c p l = (p ++ (sp c l).headD []) :: (sp c l).tail
  | [], p => by simp [spA, sp]
  | b :: l, p => by
    unfold spA sp
    by_cases h : b = c
    · rw [if_pos h, if_pos h, spA_sp c l []]
      cases hh : sp c l with
      | nil => exact absurd hh (sp_ne c l)
      | cons x xs => simp
    · rw [if_neg h, if_neg h, spA_sp c l (p ++ [b])]
      cases hh : sp c l with
      | nil => exact absurd hh (sp_ne c l)
      | cons x xs => simp
theorem spA_nil (c : UInt8) (l : List UInt8) : spA c [] l = sp c l := by
  rw [spA_sp]
  cases hh : sp c l with
  | nil => exact absurd hh (sp_ne c l)
  | cons x xs => simp
theorem ds_ex (s : ByteArray) (p i : Nat) : ds (s.extract p i) = ((ds s).take i).drop p := by
  show (s.extract p i).data.toList = _
  rw [Lib.extract_data, List.drop_take]; rfl
theorem drop_next {l rest : List UInt8} {i : Nat} {b : UInt8} (h : l.drop i = b :: rest) : l[i]? = some b ∧ l.drop (i + 1) = rest ∧ l.take (i + 1) = l.take i ++ [b] := by
  have h1 : l[i]? = some b := by rw [← List.head?_drop, h]; rfl
  refine ⟨h1, by rw [← List.drop_drop, h]; rfl, by rw [List.take_add_one, h1]; rfl⟩
theorem bn_eq {b c : UInt8} {C : Int} (hC : C = (c.toNat : Int)) (h : b = c) : (b.toNat : Int) = C := by rw [hC, h]
theorem bn_ne {b c : UInt8} {C : Int} (hC : C = (c.toNat : Int)) (h : ¬ b = c) : ¬ (b.toNat : Int) = C := fun e => h (UInt8.toNat_inj.1 (by omega))
theorem cut_loop (k : Nat) (s : ByteArray) (c : UInt8) (C : Int) (hC : C = (c.toNat : Int)) (hs : s.size ≤ 1000) : ∀ (rest : List UInt8) (p i j : Nat) (acc : List ByteArray), p ≤ i → (ds s).drop i = rest → i + rest.length = s.size → rest.length < j → acc.length ≤ i →
    ∃ (p' : Nat) (acc' : List ByteArray), f57.l4 k j s C (p : Int) (i : Int) acc = some (s, (p' : Int), acc') ∧ p' ≤ s.size ∧ acc'.length ≤ s.size ∧ (acc' ++ [s.extract p' s.size]).map ds = acc.map ds ++ spA c (((ds s).take i).drop p) rest
  | rest, p, i, 0, acc, hp, hd, hi, hj, ha => by omega
  | [], p, i, j + 1, acc, hp, hd, hi, hj, ha => by
    have hi' : i = s.size := by simpa using hi
    have h2 : ¬ (i : Int) < (s.size : Int) := by omega
    refine ⟨p, acc, ?_, by omega, by omega, ?_⟩
    · simp only [f57.l4, f57.l4.step, h2, decide_false]; rfl
    · rw [List.map_append, hi']; simp only [List.map_cons, List.map_nil, ds_ex, spA]
  | b :: rest, p, i, j + 1, acc, hp, hd, hi, hj, ha => by
    simp only [List.length_cons] at hi hj
    obtain ⟨g1, g2, g3⟩ := drop_next hd
    have h2 : (i : Int) < (s.size : Int) := by omega
    have h3 : (0 : Int) ≤ (i : Int) := by omega
    have h4 : (0 : Int) ≤ (p : Int) := by omega
    have h5 : (p : Int) ≤ (i : Int) := by omega
    have h6 : (i : Int) ≤ (s.size : Int) := by omega
    have hb : bt s (i : Int) = (b.toNat : Int) := bt_get g1
    have hw : IntKind.i64.wrap ((i : Int) + 1) = ((i + 1 : Nat) : Int) := by rw [w64 (by omega) (by omega)]; omega
    by_cases he : b = c
    · have hm : (List.length acc + List.length [s.extract p i]) * 16 ≤ maxN := by simp only [List.length_cons, List.length_nil, maxN]; omega
      obtain ⟨p', acc', e1, e2, e3, e4⟩ := cut_loop k s c C hC hs rest (i + 1) (i + 1) j (acc ++ [s.extract p i]) (by omega) g2 (by omega) (by omega) (by simp; omega)
      refine ⟨p', acc', ?_, e2, e3, ?_⟩
      · rw [← e1, f57.l4]
        simp only [f57.l4.step, h2, h3, h4, h5, h6, hb, bn_eq hC he, Int.toNat_natCast, hm, decide_true, if_true, hw]
      · rw [e4, spA, if_pos he]
        have : List.drop (i + 1) (List.take (i + 1) (ds s)) = [] := by rw [List.drop_eq_nil_iff]; simp; omega
        rw [this]
        simp [ds_ex]
    · obtain ⟨p', acc', e1, e2, e3, e4⟩ := cut_loop k s c C hC hs rest p (i + 1) j acc (by omega) g2 (by omega) (by omega) (by omega)
      refine ⟨p', acc', ?_, e2, e3, ?_⟩
      · rw [← e1, f57.l4]
        simp only [f57.l4.step, h2, h3, hb, bn_ne hC he, decide_true, decide_false, if_true, hw]; rfl
      · rw [e4, spA, if_neg he, g3]
        rw [List.drop_append_of_le_length (by simp [ds_len]; omega)]
theorem map_ds_inj : ∀ {l m : List ByteArray}, l.map ds = m.map ds → l = m
  | [], [], _ => rfl
  | [], _ :: _, h => by cases h
  | _ :: _, [], h => by cases h
  | a :: l, b :: m, h => by
    simp only [List.map_cons, List.cons.injEq] at h
    rw [ds_inj h.1, map_ds_inj h.2]
def pcs (c : UInt8) (s : ByteArray) : List ByteArray := Lib.splitB ⟨#[c]⟩ 0 (Lib.countB s ⟨#[c]⟩) s
theorem pcs_ds (c : UInt8) (s : ByteArray) : (pcs c s).map ds = sp c (ds s) := pieces_sp c s
theorem spec_cut (k : Nat) (hK : 2097152 ≤ k) (s : ByteArray) (c : UInt8) (C : Int) (hC : C = (c.toNat : Int)) (hs : s.size ≤ 1000) : f57 k s C = some (pcs c s) := by
  obtain ⟨p', acc', e1, e2, e3, e4⟩ := cut_loop k s c C hC hs (ds s) 0 0 k [] (Nat.le_refl _) rfl (by rw [ds_len]; omega) (by rw [ds_len]; omega) (Nat.zero_le _)
  have e1' : f57.l4 k k s C 0 0 ([] : List ByteArray) = some (s, (p' : Int), acc') := e1
  have h0 : (0 : Int) ≤ (p' : Int) := by omega
  have h1 : (p' : Int) ≤ (s.size : Int) := by omega
  have hm : (List.length acc' + List.length [s.extract p' s.size]) * 16 ≤ maxN := by simp only [List.length_cons, List.length_nil, maxN]; omega
  simp only [f57, f57.step, e1', Option.bind_some, h0, h1, Int.le_refl, Int.toNat_natCast, hm, if_true]
  congr 1
  apply map_ds_inj
  rw [pcs_ds, e4, List.map_nil, List.nil_append]
  exact spA_nil c (ds s)
theorem impl_cut (k : Nat) (s : ByteArray) (c : UInt8) (hs : s.size ≤ 1000) : f36 k s (⟨#[c]⟩ : ByteArray) = some (pcs c s) := by
  unfold f36
  have h1 : (⟨#[c]⟩ : ByteArray).size = 1 := rfl
  rw [if_pos ⟨by omega, by omega⟩]; rfl
theorem sp_sum (c : UInt8) : ∀ l, ((sp c l).map List.length).sum + (sp c l).length = l.length + 1
  | [] => by simp [sp]
  | b :: l => by
    have ih := sp_sum c l
    unfold sp
    split
    · simp only [List.map_cons, List.length_nil, List.sum_cons, List.length_cons]; omega
    · cases hh : sp c l with
      | nil => exact absurd hh (sp_ne c l)
      | cons x xs =>
        rw [hh] at ih
        simp only [List.map_cons, List.sum_cons, List.length_cons] at ih ⊢; omega
theorem mem_le_sum : ∀ {l : List Nat} {x : Nat}, x ∈ l → x ≤ l.sum
  | [], _, h => by cases h
  | a :: l, x, h => by
    rw [List.sum_cons]
    rcases List.mem_cons.1 h with h | h
    · omega
    · have := mem_le_sum h; omega
theorem pcs_sum (c : UInt8) (s : ByteArray) : ((pcs c s).map ByteArray.size).sum + (pcs c s).length = s.size + 1 := by
  have h := sp_sum c (ds s)
  rw [← pcs_ds, List.map_map, List.length_map, ds_len] at h
  have : (List.length ∘ ds) = ByteArray.size := by funext x; exact ds_len x
  rw [this] at h; exact h
theorem pcs_le (c : UInt8) (s : ByteArray) (x : ByteArray) (hx : x ∈ pcs c s) : x.size ≤ s.size := by
  have h := pcs_sum c s
  have h1 := mem_le_sum (List.mem_map.2 ⟨x, hx, rfl⟩ : x.size ∈ (pcs c s).map ByteArray.size)
  have h2 : 0 < (pcs c s).length := List.length_pos_iff.2 (fun e => by rw [e] at hx; cases hx)
  omega
/-! ### four numbers -/
def q (k : Nat) (s : ByteArray) : Int × Bool := (f20 k s).getD (0, false)
theorem q_impl (k : Nat) (hK : 2097152 ≤ k) (s : ByteArray) (hs : s.size ≤ 1000) : f20 k s = some (q k s) := by
  obtain ⟨v, b, _, h, _⟩ := num_eq k hK s hs
  unfold q; rw [h]; rfl
theorem q_spec (k : Nat) (hK : 2097152 ≤ k) (s : ByteArray) (hs : s.size ≤ 1000) : f38 k s = some (q k s) := by
  obtain ⟨v, b, h1, h, _⟩ := num_eq k hK s hs
  unfold q; rw [h1, h]; rfl
def bv (k : Nat) (s : ByteArray) : Option Int := if (q k s).2 = true ∧ 0 ≤ (q k s).1 ∧ (q k s).1 ≤ 255 then some (q k s).1 else none
def mv (k : Nat) : List ByteArray → Option (List Int)
  | [] => some []
  | x :: xs => (bv k x).bind fun v => (mv k xs).map fun l => v :: l
theorem gmb (pre rest : List ByteArray) (x : ByteArray) : List.getD (pre ++ x :: rest) (Int.toNat (pre.length : Int)) ByteArray.empty = x := gm pre rest x _
theorem four_spec (k : Nat) (hK : 2097152 ≤ k) (P : List ByteArray) (hP : P.length ≤ 1000) (hb : ∀ x ∈ P, x.size ≤ 1000) : ∀ (rest pre : List ByteArray) (j : Nat) (acc : List Int), P = pre ++ rest → rest.length < j → acc.length = pre.length →
    (∃ vs, mv k rest = some vs ∧ vs.length = rest.length ∧ f34.l4 k j (pre.length : Int) acc P = some (.inr (acc ++ vs))) ∨ (mv k rest = none ∧ ∃ c, f34.l4 k j (pre.length : Int) acc P = some (.inl ((⟨#[]⟩ : ByteArray), false, c)))
  | rest, pre, 0, acc, e, hj, ha => by omega
  | [], pre, j + 1, acc, e, hj, ha => by
    left
    have h2 : ¬ (pre.length : Int) < (P.length : Int) := by rw [e]; simp
    refine ⟨[], rfl, rfl, ?_⟩
    simp only [f34.l4, f34.l4.step, h2, decide_false, List.append_nil]; rfl
  | x :: rest, pre, j + 1, acc, e, hj, ha => by
    simp only [List.length_cons] at hj
    have h2 : (pre.length : Int) < (P.length : Int) := by rw [e]; exact lt_mid pre rest x
    have h3 : (0 : Int) ≤ (pre.length : Int) := by omega
    have hx : List.getD P (Int.toNat (pre.length : Int)) ByteArray.empty = x := by rw [e]; exact gmb pre rest x
    have hq := q_spec k hK x (hb x (by rw [e]; simp))
    have hr : f39 k (q k x).1 0 255 = some (decide (0 ≤ (q k x).1 ∧ (q k x).1 ≤ 255)) := by
      simp only [f39, f39.step]
      by_cases c1 : (q k x).1 ≥ 0
      · simp only [c1, decide_true, if_true, true_and, ge_iff_le]; 
      · simp only [c1, decide_false, ge_iff_le, false_and]; rfl
    by_cases c1 : (q k x).2 = true
    · by_cases c2 : 0 ≤ (q k x).1 ∧ (q k x).1 ≤ 255
      · have hbv : bv k x = some (q k x).1 := by unfold bv; rw [if_pos ⟨c1, c2⟩]
        have hw : IntKind.i64.wrap ((pre.length : Int) + 1) = (((pre ++ [x]).length : Nat) : Int) := by rw [w64 (by omega) (by omega)]; simp
        have hm : (List.length acc + List.length [(q k x).1]) * 1 ≤ maxN := by simp only [List.length_cons, List.length_nil, maxN]; omega
        have hst : f34.l4 k (j + 1) (pre.length : Int) acc P = f34.l4 k j (((pre ++ [x]).length : Nat) : Int) (acc ++ [(q k x).1]) P := by
          rw [f34.l4]
          simp only [f34.l4.step, h2, h3, hx, hq, hr, c1, c2, w8_id c2.1 c2.2, hm, hw, Option.bind_some, decide_true, if_true, Bool.not_true, true_and]
          rfl
        rcases four_spec k hK P hP hb rest (pre ++ [x]) j (acc ++ [(q k x).1]) (by rw [e, mid_next]) (by omega) (by simp [ha]) with ⟨vs, e1, e2, e3⟩ | ⟨e1, c, e3⟩
        · left
          refine ⟨(q k x).1 :: vs, by simp only [mv, hbv, e1]; rfl, by simp [e2], ?_⟩
          rw [hst, e3]; simp
        · right
          exact ⟨by simp only [mv, hbv, e1]; rfl, c, by rw [hst, e3]⟩
      · right
        have hbv : bv k x = none := by unfold bv; rw [if_neg (fun h => c2 h.2)]
        refine ⟨by simp only [mv, hbv]; rfl, acc, ?_⟩
        rw [f34.l4]
        simp only [f34.l4.step, h2, h3, hx, hq, hr, c1, ff c2, Option.bind_some, decide_true, if_true, Bool.not_true, Bool.not_false]
    · right
      have hbv : bv k x = none := by unfold bv; rw [if_neg (fun h => c1 h.1)]
      refine ⟨by simp only [mv, hbv]; rfl, acc, ?_⟩
      rw [f34.l4]
      have c1' : (q k x).2 = false := by simpa using c1
      simp only [f34.l4.step, h2, h3, hx, hq, c1', Option.bind_some, decide_true, if_true, Bool.not_true, Bool.not_false]
      rfl
theorem four_impl (k : Nat) (hK : 2097152 ≤ k) (P : List ByteArray) (hP : P.length ≤ 1000) (hb : ∀ x ∈ P, x.size ≤ 1000) : ∀ (rest pre : List ByteArray) (j : Nat) (acc zs : List Int), P = pre ++ rest → rest.length < j → acc.length = pre.length → zs.length = rest.length →
    (∃ vs, mv k rest = some vs ∧ f16.l6 k j (P.length : Int) (pre.length : Int) P (acc ++ zs) = some (.inr (acc ++ vs))) ∨ (mv k rest = none ∧ ∃ c, f16.l6 k j (P.length : Int) (pre.length : Int) P (acc ++ zs) = some (.inl ((⟨#[]⟩ : ByteArray), false, c)))
  | rest, pre, 0, acc, zs, e, hj, ha, hz => by omega
  | [], pre, j + 1, acc, zs, e, hj, ha, hz => by
    left
    have h2 : ¬ (pre.length : Int) < (P.length : Int) := by rw [e]; simp
    have hz' : zs = [] := List.length_eq_zero_iff.1 hz
    refine ⟨[], rfl, ?_⟩
    simp only [f16.l6, f16.l6.step, h2, decide_false, hz', List.append_nil]; rfl
  | x :: rest, pre, j + 1, acc, zs, e, hj, ha, hz => by
    simp only [List.length_cons] at hj hz
    have h2 : (pre.length : Int) < (P.length : Int) := by rw [e]; exact lt_mid pre rest x
    have h3 : (0 : Int) ≤ (pre.length : Int) := by omega
    have hx : List.getD P (Int.toNat (pre.length : Int)) ByteArray.empty = x := by rw [e]; exact gmb pre rest x
    have hq := q_impl k hK x (hb x (by rw [e]; simp))
    have hr : f21 k (q k x).1 0 255 = some (decide (0 ≤ (q k x).1 ∧ (q k x).1 ≤ 255)) := by
      simp only [f21, f21.step]
      by_cases c1 : (q k x).1 ≥ 0
      · simp only [c1, decide_true, if_true, true_and, ge_iff_le]; 
      · simp only [c1, decide_false, ge_iff_le, false_and]; rfl
    obtain ⟨z, zs, rfl⟩ : ∃ z zs', zs = z :: zs' := by cases zs with | nil => cases hz | cons z zs => exact ⟨z, zs, rfl⟩
    have h4 : (pre.length : Int) < ((acc ++ z :: zs).length : Int) := by rw [← ha]; exact lt_mid acc zs z
    by_cases c1 : (q k x).2 = true
    · by_cases c2 : 0 ≤ (q k x).1 ∧ (q k x).1 ≤ 255
      · have hbv : bv k x = some (q k x).1 := by unfold bv; rw [if_pos ⟨c1, c2⟩]
        have hw : IntKind.i64.wrap ((pre.length : Int) + 1) = (((pre ++ [x]).length : Nat) : Int) := by rw [w64 (by omega) (by omega)]; simp
        have hs : List.set (acc ++ z :: zs) (Int.toNat (pre.length : Int)) (q k x).1 = (acc ++ [(q k x).1]) ++ zs := by rw [← ha, set_mid, mid_next]
        have hst : f16.l6 k (j + 1) (P.length : Int) (pre.length : Int) P (acc ++ z :: zs) = f16.l6 k j (P.length : Int) (((pre ++ [x]).length : Nat) : Int) P ((acc ++ [(q k x).1]) ++ zs) := by
          rw [f16.l6]
          simp only [f16.l6.step, h2, h3, h4, hx, hq, hr, c1, c2, w8_id c2.1 c2.2, hw, hs, Option.bind_some, decide_true, if_true, Bool.not_true, true_and]
          rfl
        rcases four_impl k hK P hP hb rest (pre ++ [x]) j (acc ++ [(q k x).1]) zs (by rw [e, mid_next]) (by omega) (by simp [ha]) (by simpa using hz) with ⟨vs, e1, e3⟩ | ⟨e1, c, e3⟩
        · left
          refine ⟨(q k x).1 :: vs, by simp only [mv, hbv, e1]; rfl, ?_⟩
          rw [hst, e3]; simp
        · right
          exact ⟨by simp only [mv, hbv, e1]; rfl, c, by rw [hst, e3]⟩
      · right
        have hbv : bv k x = none := by unfold bv; rw [if_neg (fun h => c2 h.2)]
        refine ⟨by simp only [mv, hbv]; rfl, acc ++ z :: zs, ?_⟩
        rw [f16.l6]
        simp only [f16.l6.step, h2, h3, hx, hq, hr, c1, ff c2, Option.bind_some, decide_true, if_true, Bool.not_true, Bool.not_false]
    · right
      have hbv : bv k x = none := by unfold bv; rw [if_neg (fun h => c1 h.1)]
      refine ⟨by simp only [mv, hbv]; rfl, acc ++ z :: zs, ?_⟩
      rw [f16.l6]
      have c1' : (q k x).2 = false := by simpa using c1
      simp only [f16.l6.step, h2, h3, hx, hq, c1', Option.bind_some, decide_true, if_true, Bool.not_true, Bool.not_false]
      rfl
/-- Four numbers: the specification and the code say the same. -/
theorem four_eq (k : Nat) (hK : 2097152 ≤ k) (s : ByteArray) (hs : s.size ≤ 100) : ∃ t b t', f34 k s = some (t, b) ∧ f16 k s = some (t', b) ∧ (b = true → t' = t ∧ ∃ vs, mv k (pcs 46 s) = some vs ∧ vs.length = 4 ∧ t = strOf vs) := by
  have e1 := spec_cut k hK s 46 46 rfl (by omega)
  have e2 := impl_cut k s 46 (by omega)
  have hsum := pcs_sum 46 s
  have hP : (pcs 46 s).length ≤ 1000 := by omega
  have hb : ∀ x ∈ pcs 46 s, x.size ≤ 1000 := fun x hx => by have := pcs_le 46 s x hx; omega
  have a1 := four_spec k hK (pcs 46 s) hP hb (pcs 46 s) [] k [] rfl (by omega) rfl
  simp only [f34, f34.step, f16, f16.step, e1, e2, Option.bind_some]
  by_cases c : (((pcs 46 s).length : Nat) : Int) = 4
  · have c' : ¬ (((pcs 46 s).length : Nat) : Int) ≠ 4 := fun h => h c
    have hl : (pcs 46 s).length = 4 := by omega
    rw [if_neg (fb c')]
    have a2 := four_impl k hK (pcs 46 s) hP hb (pcs 46 s) [] k [] (List.replicate 4 0) rfl (by omega) rfl (by simp [hl])
    rcases a1 with ⟨vs, m1, m2, m3⟩ | ⟨m1, c1, m3⟩
    · rcases a2 with ⟨vs', n1, n3⟩ | ⟨n1, _⟩
      · rw [m1] at n1; cases n1
        have m3' : f34.l4 k k 0 ([] : List Int) (pcs 46 s) = some (.inr vs) := m3
        have n3' : f16.l6 k k ((pcs 46 s).length : Int) 0 (pcs 46 s) (List.replicate 4 0) = some (.inr vs) := n3
        rw [m3', n3']
        simp only [Option.bind_some, Sum.elim_inr]
        have h4 : ((vs.length : Nat) : Int) = 4 := by omega
        refine ⟨strOf vs, true, strOf vs, by simp only [h4, decide_true], rfl, fun _ => ⟨rfl, vs, m1, by omega, rfl⟩⟩
      · rw [m1] at n1; cases n1
    · rcases a2 with ⟨vs', n1, n3⟩ | ⟨n1, c2, n3⟩
      · rw [m1] at n1; cases n1
      · have m3' : f34.l4 k k 0 ([] : List Int) (pcs 46 s) = some (.inl ((⟨#[]⟩ : ByteArray), false, c1)) := m3
        have n3' : f16.l6 k k ((pcs 46 s).length : Int) 0 (pcs 46 s) (List.replicate 4 0) = some (.inl ((⟨#[]⟩ : ByteArray), false, c2)) := n3
        rw [m3', n3']
        exact ⟨_, false, _, rfl, rfl, fun h => by cases h⟩
  · have c' : (((pcs 46 s).length : Nat) : Int) ≠ 4 := c
    rw [if_pos (tb c')]
    rcases a1 with ⟨vs, m1, m2, m3⟩ | ⟨m1, c1, m3⟩
    · have m3' : f34.l4 k k 0 ([] : List Int) (pcs 46 s) = some (.inr vs) := m3
      rw [m3']
      have h4 : ¬ ((vs.length : Nat) : Int) = 4 := by omega
      simp only [Option.bind_some, Sum.elim_inr, h4, decide_false]
      exact ⟨_, false, _, rfl, rfl, fun h => by cases h⟩
    · have m3' : f34.l4 k k 0 ([] : List Int) (pcs 46 s) = some (.inl ((⟨#[]⟩ : ByteArray), false, c1)) := m3
      rw [m3']
      exact ⟨_, false, _, rfl, rfl, fun h => by cases h⟩
/-! ### words of hex digits -/
def hx (x : Int) : Int := (f68 0 x).getD 0
theorem hx_all : ∀ x : Fin 256, f68 0 (x.val : Int) = some (hx x.val) ∧ f60 0 (x.val : Int) = some (hx x.val) ∧ -1 ≤ hx x.val ∧ hx x.val ≤ 15 := by decide +kernel
theorem hx_spec (k : Nat) (b : UInt8) : f68 k (b.toNat : Int) = some (hx b.toNat) := (hx_all ⟨b.toNat, b.toNat_lt⟩).1
theorem hx_impl (k : Nat) (b : UInt8) : f60 k (b.toNat : Int) = some (hx b.toNat) := (hx_all ⟨b.toNat, b.toNat_lt⟩).2.1
theorem hx_rng (b : UInt8) : -1 ≤ hx b.toNat ∧ hx b.toNat ≤ 15 := (hx_all ⟨b.toNat, b.toNat_lt⟩).2.2
def hexv : Int → List UInt8 → Option Int
  | a, [] => some a
  | a, b :: l => if hx b.toNat < 0 then none else hexv (16 * a + hx b.toNat) l
theorem hex_step {a d : Int} {n : Nat} (ha : 0 ≤ a) (hd : 0 ≤ d) (hd2 : d ≤ 15) (h1 : (a + 1) * 16 ^ (n + 1) ≤ 65536) : a ≤ 4095 ∧ (16 * a + d + 1) * 16 ^ n ≤ 65536 := by
  have hp : (16 : Int) ^ (n + 1) = 16 ^ n * 16 := by rw [Int.pow_succ]
  have hpp : (0 : Int) < 16 ^ n := Int.pow_pos (by omega)
  rw [hp] at h1
  have e : (a + 1) * (16 ^ n * 16) = (16 * a + 16) * 16 ^ n := by rw [Int.mul_comm (16 ^ n) 16, ← Int.mul_assoc]; congr 1; omega
  rw [e] at h1
  have h5 : (16 * a + d + 1) * 16 ^ n ≤ (16 * a + 16) * 16 ^ n := Int.mul_le_mul_of_nonneg_right (by omega) (by omega)
  have h6 : (16 * a + 16) * 1 ≤ (16 * a + 16) * 16 ^ n := Int.mul_le_mul_of_nonneg_left (by omega) (by omega)
  omega
theorem hex_spec (k : Nat) (s : ByteArray) (m : Int) (acc : List Int) (P : List ByteArray) (hs : s.size ≤ 4) : ∀ (rest : List UInt8) (i j : Nat) (a : Int), (ds s).drop i = rest → i + rest.length = s.size → rest.length < j → 0 ≤ a → (a + 1) * 16 ^ rest.length ≤ 65536 →
    (∃ v, hexv a rest = some v ∧ 0 ≤ v ∧ v < 65536 ∧ f58.l13 k j m s a (i : Int) acc P = some (.inr (m, v, acc, P))) ∨ (hexv a rest = none ∧ ∃ c, f58.l13 k j m s a (i : Int) acc P = some (.inl (false, m, c, acc, P)))
  | rest, i, 0, a, hd, hi, hj, h0, h1 => by omega
  | [], i, j + 1, a, hd, hi, hj, h0, h1 => by
    left
    have h2 : ¬ (i : Int) < (s.size : Int) := by simp at hi; omega
    simp only [List.length_nil, Int.pow_zero] at h1
    refine ⟨a, rfl, h0, by omega, ?_⟩
    simp only [f58.l13, f58.l13.step, h2, decide_false]; rfl
  | b :: rest, i, j + 1, a, hd, hi, hj, h0, h1 => by
    simp only [List.length_cons] at hi hj h1
    obtain ⟨g1, g2, g3⟩ := drop_next hd
    have h2 : (i : Int) < (s.size : Int) := by omega
    have h3 : (0 : Int) ≤ (i : Int) := by omega
    have hb : bt s (i : Int) = (b.toNat : Int) := bt_get g1
    have hw : IntKind.i64.wrap ((i : Int) + 1) = ((i + 1 : Nat) : Int) := by rw [w64 (by omega) (by omega)]; omega
    have hr := hx_rng b
    by_cases c : hx b.toNat < 0
    · right
      refine ⟨by simp only [hexv]; rw [if_pos c], a, ?_⟩
      rw [f58.l13]
      simp only [f58.l13.step, h2, h3, hb, hx_spec, Option.bind_some, c, decide_true, if_true]
    · obtain ⟨q1, q2⟩ := hex_step h0 (by omega) hr.2 h1
      have hv : IntKind.i64.wrap (IntKind.i64.wrap (a * 16) + hx b.toNat) = 16 * a + hx b.toNat := by
        rw [w64 (n := a * 16) (by omega) (by omega), w64 (by omega) (by omega)]; omega
      have hst : f58.l13 k (j + 1) m s a (i : Int) acc P = f58.l13 k j m s (16 * a + hx b.toNat) ((i + 1 : Nat) : Int) acc P := by
        rw [f58.l13]
        simp only [f58.l13.step, h2, h3, hb, hx_spec, Option.bind_some, c, decide_true, decide_false, if_true, hv, hw]; rfl
      rw [hst]
      have hh : hexv a (b :: rest) = hexv (16 * a + hx b.toNat) rest := by simp only [hexv]; rw [if_neg c]
      rw [hh]
      exact hex_spec k s m acc P hs rest (i + 1) j _ g2 (by omega) (by omega) (by omega) q2
theorem hex_impl (k : Nat) (s : ByteArray) (m n : Int) (acc : List Int) (P : List ByteArray) (hs : s.size ≤ 4) : ∀ (rest : List UInt8) (i j : Nat) (a : Int), (ds s).drop i = rest → i + rest.length = s.size → rest.length < j → 0 ≤ a → (a + 1) * 16 ^ rest.length ≤ 65536 →
    (∃ v, hexv a rest = some v ∧ f37.l11 k j s a (i : Int) m n acc P = some (.inr (v, m, n, acc, P))) ∨ (hexv a rest = none ∧ ∃ c, f37.l11 k j s a (i : Int) m n acc P = some (.inl (false, c, m, n, acc, P)))
  | rest, i, 0, a, hd, hi, hj, h0, h1 => by omega
  | [], i, j + 1, a, hd, hi, hj, h0, h1 => by
    left
    have h2 : ¬ (i : Int) < (s.size : Int) := by simp at hi; omega
    refine ⟨a, rfl, ?_⟩
    simp only [f37.l11, f37.l11.step, h2, decide_false]; rfl
  | b :: rest, i, j + 1, a, hd, hi, hj, h0, h1 => by
    simp only [List.length_cons] at hi hj h1
    obtain ⟨g1, g2, g3⟩ := drop_next hd
    have h2 : (i : Int) < (s.size : Int) := by omega
    have h3 : (0 : Int) ≤ (i : Int) := by omega
    have hb : bt s (i : Int) = (b.toNat : Int) := bt_get g1
    have hw : IntKind.i64.wrap ((i : Int) + 1) = ((i + 1 : Nat) : Int) := by rw [w64 (by omega) (by omega)]; omega
    have hr := hx_rng b
    by_cases c : hx b.toNat < 0
    · right
      refine ⟨by simp only [hexv]; rw [if_pos c], a, ?_⟩
      rw [f37.l11]
      simp only [f37.l11.step, h2, h3, hb, hx_impl, Option.bind_some, c, decide_true, if_true]
    · obtain ⟨q1, q2⟩ := hex_step h0 (by omega) hr.2 h1
      have hv : IntKind.i64.wrap (IntKind.i64.wrap (16 * a) + hx b.toNat) = 16 * a + hx b.toNat := by
        rw [w64 (n := 16 * a) (by omega) (by omega), w64 (by omega) (by omega)]
      have hst : f37.l11 k (j + 1) s a (i : Int) m n acc P = f37.l11 k j s (16 * a + hx b.toNat) ((i + 1 : Nat) : Int) m n acc P := by
        rw [f37.l11]
        simp only [f37.l11.step, h2, h3, hb, hx_impl, Option.bind_some, c, decide_true, decide_false, if_true, hv, hw]; rfl
      rw [hst]
      have hh : hexv a (b :: rest) = hexv (16 * a + hx b.toNat) rest := by simp only [hexv]; rw [if_neg c]
      rw [hh]
      exact hex_impl k s m n acc P hs rest (i + 1) j _ g2 (by omega) (by omega) (by omega) q2
def wd (x : ByteArray) : Option (List Int) := if x.size = 0 ∨ x.size > 4 then none else (hexv 0 (ds x)).map fun v => [v / 256, v % 256]
def wm : List ByteArray → Option (List Int)
  | [] => some []
  | x :: xs => (wd x).bind fun v => (wm xs).map fun l => v ++ l
theorem w16 {v : Int} (h0 : 0 ≤ v) (h1 : v < 65536) : IntKind.u8.wrap (IntKind.i64.wrap (Int.tdiv v 256)) = v / 256 ∧ IntKind.u8.wrap (Int.tmod v 256) = v % 256 ∧ IntKind.u8.wrap (Int.fdiv v (2 ^ (min (8 : Int).toNat IntKind.i64.bits))) = v / 256 ∧ IntKind.u8.wrap v = v % 256 := by
  have e : (2 : Int) ^ (min (8 : Int).toNat IntKind.i64.bits) = 256 := by decide
  have t1 : Int.tdiv v 256 = v / 256 := Int.tdiv_eq_ediv_of_nonneg h0
  have t2 : Int.tmod v 256 = v % 256 := Int.tmod_eq_emod_of_nonneg h0
  have t3 : Int.fdiv v 256 = v / 256 := Int.fdiv_eq_ediv_of_nonneg _ (by omega)
  rw [e, t1, t2, t3]
  refine ⟨?_, ?_, ?_, ?_⟩
  · rw [w64 (by omega) (by omega)]; exact w8_id (by omega) (by omega)
  · exact w8_id (by omega) (by omega)
  · exact w8_id (by omega) (by omega)
  · simp [IntKind.wrap, IntKind.bits, IntKind.signed]
theorem words_spec (k : Nat) (hK : 2097152 ≤ k) (P : List ByteArray) (hP : P.length ≤ 1000) : ∀ (rest pre : List ByteArray) (j : Nat) (acc : List Int), P = pre ++ rest → rest.length < j → acc.length = 2 * pre.length →
    (∃ vs, wm rest = some vs ∧ vs.length = 2 * rest.length ∧ f58.l6 k j (pre.length : Int) acc P = some (.inr (acc ++ vs))) ∨ (wm rest = none ∧ ∃ c, f58.l6 k j (pre.length : Int) acc P = some (.inl (false, c)))
  | rest, pre, 0, acc, e, hj, ha => by omega
  | [], pre, j + 1, acc, e, hj, ha => by
    left
    have h2 : ¬ (pre.length : Int) < (P.length : Int) := by rw [e]; simp
    refine ⟨[], rfl, rfl, ?_⟩
    simp only [f58.l6, f58.l6.step, h2, decide_false, List.append_nil]; rfl
  | x :: rest, pre, j + 1, acc, e, hj, ha => by
    simp only [List.length_cons] at hj
    have hpl : pre.length < P.length := by rw [e]; simp
    have h2 : (pre.length : Int) < (P.length : Int) := by omega
    have h3 : (0 : Int) ≤ (pre.length : Int) := by omega
    have hx : List.getD P (Int.toNat (pre.length : Int)) ByteArray.empty = x := by rw [e]; exact gmb pre rest x
    by_cases c0 : (x.size : Int) = 0
    · right
      refine ⟨by simp only [wm, wd]; rw [if_pos (by omega)]; rfl, acc, ?_⟩
      rw [f58.l6]
      simp only [f58.l6.step, h2, h3, hx, c0, decide_true, if_true]
      rfl
    by_cases c4 : (x.size : Int) > 4
    · right
      refine ⟨by simp only [wm, wd]; rw [if_pos (by omega)]; rfl, acc, ?_⟩
      rw [f58.l6]
      simp only [f58.l6.step, h2, h3, hx, c0, c4, decide_true, decide_false, if_true]
    have hwd : wd x = (hexv 0 (ds x)).map fun v => [v / 256, v % 256] := by unfold wd; rw [if_neg (by omega)]
    have hle : ((0 : Int) + 1) * 16 ^ (ds x).length ≤ 65536 := by
      have : ∀ m : Fin 5, ((0 : Int) + 1) * 16 ^ m.val ≤ 65536 := by decide
      exact this ⟨(ds x).length, by rw [ds_len]; omega⟩
    rcases hex_spec k x (pre.length : Int) acc P (by omega) (ds x) 0 k 0 rfl (by rw [ds_len]; omega) (by rw [ds_len]; omega) (by omega) hle with ⟨v, v1, v2, v3, v4⟩ | ⟨v1, c, v4⟩
    · obtain ⟨u1, u2, _, _⟩ := w16 v2 v3
      have v4' : f58.l13 k k (pre.length : Int) x 0 0 acc P = some (.inr ((pre.length : Int), v, acc, P)) := v4
      have hw : IntKind.i64.wrap ((pre.length : Int) + 1) = (((pre ++ [x]).length : Nat) : Int) := by rw [w64 (by omega) (by omega)]; simp
      have hm : (List.length acc + List.length [v / 256, v % 256]) * 1 ≤ maxN := by simp only [List.length_cons, List.length_nil, maxN]; omega
      have hst : f58.l6 k (j + 1) (pre.length : Int) acc P = f58.l6 k j (((pre ++ [x]).length : Nat) : Int) (acc ++ [v / 256, v % 256]) P := by
        rw [f58.l6]
        simp only [f58.l6.step, h2, h3, hx, c0, c4, v4', Option.bind_some, Sum.elim_inr, u1, u2, hm, hw, decide_true, decide_false, if_true]
        rfl
      rcases words_spec k hK P hP rest (pre ++ [x]) j (acc ++ [v / 256, v % 256]) (by rw [e, mid_next]) (by omega) (by simp [ha]; omega) with ⟨vs, e1, e2, e3⟩ | ⟨e1, c, e3⟩
      · left
        refine ⟨[v / 256, v % 256] ++ vs, by simp only [wm, hwd, v1, e1]; rfl, by simp [e2]; omega, ?_⟩
        rw [hst, e3]; simp
      · right
        exact ⟨by simp only [wm, hwd, v1, e1]; rfl, c, by rw [hst, e3]⟩
    · right
      have v4' : f58.l13 k k (pre.length : Int) x 0 0 acc P = some (.inl (false, (pre.length : Int), c, acc, P)) := v4
      refine ⟨by simp only [wm, hwd, v1]; rfl, acc, ?_⟩
      rw [f58.l6]
      simp only [f58.l6.step, h2, h3, hx, c0, c4, v4', Option.bind_some, Sum.elim_inl, decide_true, decide_false, if_true]
      rfl
theorem words_impl (k : Nat) (hK : 2097152 ≤ k) (P : List ByteArray) (hP : P.length ≤ 1000) : ∀ (rest pre : List ByteArray) (j : Nat) (acc : List Int), P = pre ++ rest → rest.length < j → acc.length = 2 * pre.length →
    (∃ vs, wm rest = some vs ∧ f37.l5 k j (P.length : Int) (pre.length : Int) acc P = some (.inr (acc ++ vs))) ∨ (wm rest = none ∧ ∃ c, f37.l5 k j (P.length : Int) (pre.length : Int) acc P = some (.inl (false, c)))
  | rest, pre, 0, acc, e, hj, ha => by omega
  | [], pre, j + 1, acc, e, hj, ha => by
    left
    have h2 : ¬ (pre.length : Int) < (P.length : Int) := by rw [e]; simp
    refine ⟨[], rfl, ?_⟩
    simp only [f37.l5, f37.l5.step, h2, decide_false, List.append_nil]; rfl
  | x :: rest, pre, j + 1, acc, e, hj, ha => by
    simp only [List.length_cons] at hj
    have hpl : pre.length < P.length := by rw [e]; simp
    have h2 : (pre.length : Int) < (P.length : Int) := by omega
    have h3 : (0 : Int) ≤ (pre.length : Int) := by omega
    have hx : List.getD P (Int.toNat (pre.length : Int)) ByteArray.empty = x := by rw [e]; exact gmb pre rest x
    by_cases c0 : (x.size : Int) < 1
    · right
      refine ⟨by simp only [wm, wd]; rw [if_pos (by omega)]; rfl, acc, ?_⟩
      rw [f37.l5]
      simp only [f37.l5.step, h2, h3, hx, c0, decide_true, if_true]
      rfl
    by_cases c4 : (x.size : Int) > 4
    · right
      refine ⟨by simp only [wm, wd]; rw [if_pos (by omega)]; rfl, acc, ?_⟩
      rw [f37.l5]
      simp only [f37.l5.step, h2, h3, hx, c0, c4, decide_true, decide_false, if_true]
    have hwd : wd x = (hexv 0 (ds x)).map fun v => [v / 256, v % 256] := by unfold wd; rw [if_neg (by omega)]
    have hle : ((0 : Int) + 1) * 16 ^ (ds x).length ≤ 65536 := by
      have : ∀ m : Fin 5, ((0 : Int) + 1) * 16 ^ m.val ≤ 65536 := by decide
      exact this ⟨(ds x).length, by rw [ds_len]; omega⟩
    have hsp := hex_spec k x (pre.length : Int) acc P (by omega) (ds x) 0 k 0 rfl (by rw [ds_len]; omega) (by rw [ds_len]; omega) (by omega) hle
    rcases hex_impl k x (P.length : Int) (pre.length : Int) acc P (by omega) (ds x) 0 k 0 rfl (by rw [ds_len]; omega) (by rw [ds_len]; omega) (by omega) hle with ⟨v, v1, v4⟩ | ⟨v1, c, v4⟩
    · obtain ⟨v2, v3⟩ : 0 ≤ v ∧ v < 65536 := by
        rcases hsp with ⟨v', w1, w2, w3, _⟩ | ⟨w1, _⟩
        · rw [v1] at w1; cases w1; exact ⟨w2, w3⟩
        · rw [v1] at w1; cases w1
      obtain ⟨_, _, u1, u2⟩ := w16 v2 v3
      have v4' : f37.l11 k k x 0 0 (P.length : Int) (pre.length : Int) acc P = some (.inr (v, (P.length : Int), (pre.length : Int), acc, P)) := v4
      have hw : IntKind.i64.wrap ((pre.length : Int) + 1) = (((pre ++ [x]).length : Nat) : Int) := by rw [w64 (by omega) (by omega)]; simp
      have hm : (List.length acc + List.length [v / 256, v % 256]) * 1 ≤ maxN := by simp only [List.length_cons, List.length_nil, maxN]; omega
      have h61 : f61 k v = some [v / 256, v % 256] := by simp only [f61, f61.step, u1, u2]
      have hst : f37.l5 k (j + 1) (P.length : Int) (pre.length : Int) acc P = f37.l5 k j (P.length : Int) (((pre ++ [x]).length : Nat) : Int) (acc ++ [v / 256, v % 256]) P := by
        rw [f37.l5]
        simp only [f37.l5.step, h2, h3, hx, c0, c4, v4', h61, Option.bind_some, Sum.elim_inr, hm, hw, decide_true, decide_false, if_true]
        rfl
      rcases words_impl k hK P hP rest (pre ++ [x]) j (acc ++ [v / 256, v % 256]) (by rw [e, mid_next]) (by omega) (by simp [ha]; omega) with ⟨vs, e1, e3⟩ | ⟨e1, c, e3⟩
      · left
        refine ⟨[v / 256, v % 256] ++ vs, by simp only [wm, hwd, v1, e1]; rfl, ?_⟩
        rw [hst, e3]; simp
      · right
        exact ⟨by simp only [wm, hwd, v1, e1]; rfl, c, by rw [hst, e3]⟩
    · right
      have v4' : f37.l11 k k x 0 0 (P.length : Int) (pre.length : Int) acc P = some (.inl (false, c, (P.length : Int), (pre.length : Int), acc, P)) := v4
      refine ⟨by simp only [wm, hwd, v1]; rfl, acc, ?_⟩
      rw [f37.l5]
      simp only [f37.l5.step, h2, h3, hx, c0, c4, v4', Option.bind_some, Sum.elim_inl, decide_true, decide_false, if_true]
      rfl
def wds (s : ByteArray) : Option (List Int) := if ByteArray.toList s = ByteArray.toList (⟨#[]⟩ : ByteArray) then some [] else wm (pcs 58 s)
theorem wds_eq (k : Nat) (hK : 2097152 ≤ k) (s : ByteArray) (hs : s.size ≤ 100) : (∃ x, wds s = some x ∧ x.length ≤ 1000 ∧ f58 k s = some (x, decide ((x.length : Int) ≤ 16)) ∧ f37 k s = some (.inl (x, true))) ∨ (wds s = none ∧ (∃ c, f58 k s = some (c, false)) ∧ f37 k s = some (.inr false)) := by
  by_cases c : ByteArray.toList s = ByteArray.toList (⟨#[]⟩ : ByteArray)
  · left
    refine ⟨[], by unfold wds; rw [if_pos c], Nat.zero_le _, ?_, ?_⟩
    · simp only [f58, f58.step, c, decide_true, if_true]; rfl
    · simp only [f37, f37.step, c, decide_true, if_true]
  have hw : wds s = wm (pcs 58 s) := by unfold wds; rw [if_neg c]
  have e1 := spec_cut k hK s 58 58 rfl (by omega)
  have e2 := impl_cut k s 58 (by omega)
  have hsum := pcs_sum 58 s
  have hP : (pcs 58 s).length ≤ 1000 := by omega
  have a1 := words_spec k hK (pcs 58 s) hP (pcs 58 s) [] k [] rfl (by omega) rfl
  have a2 := words_impl k hK (pcs 58 s) hP (pcs 58 s) [] k [] rfl (by omega) rfl
  rcases a1 with ⟨vs, m1, m2, m3⟩ | ⟨m1, c1, m3⟩
  · rcases a2 with ⟨vs', n1, n3⟩ | ⟨n1, _⟩
    · rw [m1] at n1; cases n1
      have m3' : f58.l6 k k 0 ([] : List Int) (pcs 58 s) = some (.inr vs) := m3
      have n3' : f37.l5 k k ((pcs 58 s).length : Int) 0 ([] : List Int) (pcs 58 s) = some (.inr vs) := n3
      left
      refine ⟨vs, by rw [hw, m1], by omega, ?_, ?_⟩
      · simp only [f58, f58.step, c, decide_false, e1, m3', Option.bind_some, Sum.elim_inr]; rfl
      · simp only [f37, f37.step, c, decide_false, e2, n3', Option.bind_some, Sum.elim_inr]; rfl
    · rw [m1] at n1; cases n1
  · rcases a2 with ⟨vs', n1, n3⟩ | ⟨n1, c2, n3⟩
    · rw [m1] at n1; cases n1
    · have m3' : f58.l6 k k 0 ([] : List Int) (pcs 58 s) = some (.inl (false, c1)) := m3
      have n3' : f37.l5 k k ((pcs 58 s).length : Int) 0 ([] : List Int) (pcs 58 s) = some (.inl (false, c2)) := n3
      right
      refine ⟨by rw [hw, m1], ⟨c1, ?_⟩, ?_⟩
      · simp only [f58, f58.step, c, decide_false, e1, m3', Option.bind_some, Sum.elim_inl]; rfl
      · simp only [f37, f37.step, c, decide_false, e2, n3', Option.bind_some, Sum.elim_inl]; rfl
/-! ### sixteen bytes -/
theorem l2_end (k j : Nat) (s : ByteArray) (hs : s.size ≤ 100) (m : Nat) (h : ¬ m + 1 < s.size) (hm : m ≤ s.size) : f35.l2 k (j + 1) s (m : Int) = some (.inr s) := by
  have hw : IntKind.i64.wrap ((m : Int) + 1) = (m : Int) + 1 := w64 (by omega) (by omega)
  have h2 : ¬ (m : Int) + 1 < (s.size : Int) := by omega
  rw [f35.l2]
  simp only [f35.l2.step, hw, h2, decide_false]; rfl
theorem two_at {s : ByteArray} {m : Nat} (h : m + 1 < s.size) : ∃ b c rest, (ds s).drop m = b :: c :: rest ∧ bt s (m : Int) = (b.toNat : Int) ∧ bt s ((m : Int) + 1) = (c.toNat : Int) := by
  have h1 : ∃ b, (ds s)[m]? = some b := ⟨_, List.getElem?_eq_getElem (by rw [ds_len]; omega)⟩
  have h2 : ∃ c, (ds s)[m + 1]? = some c := ⟨_, List.getElem?_eq_getElem (by rw [ds_len]; omega)⟩
  obtain ⟨b, hb⟩ := h1
  obtain ⟨c, hc⟩ := h2
  refine ⟨b, c, (ds s).drop (m + 2), ?_, bt_get hb, ?_⟩
  · have l1 : m < (ds s).length := by rw [ds_len]; omega
    have l2 : m + 1 < (ds s).length := by rw [ds_len]; omega
    rw [List.drop_eq_getElem_cons l1, List.drop_eq_getElem_cons l2]
    rw [List.getElem?_eq_getElem l1] at hb
    rw [List.getElem?_eq_getElem l2] at hc
    cases hb; cases hc; rfl
  · have := bt_get hc
    rw [show ((m + 1 : Nat) : Int) = (m : Int) + 1 from by omega] at this
    exact this
theorem l2_skip (k j : Nat) (s : ByteArray) (hs : s.size ≤ 100) (m : Nat) (h : m + 1 < s.size) (ho : Lib.occAt (ds s) [58, 58] m = false) : f35.l2 k (j + 1) s (m : Int) = f35.l2 k j s ((m + 1 : Nat) : Int) := by
  have hw : IntKind.i64.wrap ((m : Int) + 1) = (m : Int) + 1 := w64 (by omega) (by omega)
  have h2 : (m : Int) + 1 < (s.size : Int) := by omega
  have h3 : (m : Int) < (s.size : Int) := by omega
  have h4 : (0 : Int) ≤ (m : Int) := by omega
  have h5 : (0 : Int) ≤ (m : Int) + 1 := by omega
  have he : ((m + 1 : Nat) : Int) = (m : Int) + 1 := by omega
  obtain ⟨b, c, rest, hd, hb, hc⟩ := two_at h
  unfold Lib.occAt at ho
  rw [hd] at ho
  rw [f35.l2, he]
  by_cases c1 : b = 58
  · have c2 : ¬ c = 58 := fun e => by subst c1; subst e; simp [List.isPrefixOf] at ho
    have n1 : ¬ (b.toNat : Int) ≠ 58 := fun e => e (by rw [c1]; rfl)
    have n2 : (c.toNat : Int) ≠ 58 := fun e => c2 (UInt8.toNat_inj.1 (by show c.toNat = 58; omega))
    simp only [f35.l2.step, hw, h2, h3, h4, h5, hb, hc, ff n1, tb n2, decide_true, if_true]
  · have n1 : (b.toNat : Int) ≠ 58 := fun e => c1 (UInt8.toNat_inj.1 (by show b.toNat = 58; omega))
    simp only [f35.l2.step, hw, h2, h3, h4, hb, tb n1, decide_true, if_true]; rfl
theorem l2_run (k : Nat) (s : ByteArray) (hs : s.size ≤ 100) : ∀ (n m j : Nat), (∀ i, m ≤ i → i < m + n → Lib.occAt (ds s) [58, 58] i = false) → m + n + 1 ≤ s.size → f35.l2 k (j + n) s (m : Int) = f35.l2 k j s ((m + n : Nat) : Int)
  | 0, m, j, ho, h => rfl
  | n + 1, m, j, ho, h => by
    rw [show j + (n + 1) = (j + n) + 1 from rfl, l2_skip k (j + n) s hs m (by omega) (ho m (Nat.le_refl _) (by omega))]
    rw [l2_run k s hs n (m + 1) j (fun i h1 h2 => ho i (by omega) (by omega)) (by omega)]
    rw [show m + 1 + n = m + (n + 1) from by omega]
theorem occ_room {s : ByteArray} {m : Nat} (h : Lib.occAt (ds s) [58, 58] m = true) : m + 1 < s.size := by
  unfold Lib.occAt at h
  have := (List.isPrefixOf_iff_prefix.1 h).length_le
  simp [ds_len] at this; omega
theorem l2_none (k : Nat) (hK : 2097152 ≤ k) (s : ByteArray) (hs : s.size ≤ 100) (h : ∀ j, j ≤ (ds s).length → Lib.occAt (ds s) [58, 58] j = false) : f35.l2 k k s 0 = some (.inr s) := by
  cases hz : s.size with
  | zero =>
    obtain ⟨j, rfl⟩ : ∃ j, k = j + 1 := ⟨k - 1, by omega⟩
    exact l2_end (j + 1) j s hs 0 (by omega) (by omega)
  | succ n =>
    obtain ⟨j, rfl⟩ : ∃ j, k = j + 1 + n := ⟨k - 1 - n, by omega⟩
    have h1 := l2_run (j + 1 + n) s hs n 0 (j + 1) (fun i _ hi => h i (by rw [ds_len]; omega)) (by omega)
    refine h1.trans ?_
    exact l2_end _ j s hs (0 + n) (by omega) (by omega)
theorem l2_hit (k j : Nat) (s : ByteArray) (hs : s.size ≤ 100) (m : Nat) (ho : Lib.occAt (ds s) [58, 58] m = true)
    (x y : List Int) (b c : Bool) (h1 : f58 k (s.extract 0 m) = some (x, b)) (h2' : f58 k (s.extract (m + 2) s.size) = some (y, c)) (hxl : b = true → x.length ≤ 1000) (hyl : c = true → y.length ≤ 1000) :
    f35.l2 k (j + 1) s (m : Int) = some (.inl (if b = true ∧ c = true ∧ x.length + y.length ≤ 14 then (s, (strOf x ++ strOf (List.replicate (16 - x.length - y.length) 0)) ++ strOf y, true) else (s, (⟨#[]⟩ : ByteArray), false))) := by
  have h := occ_room ho
  have hw : IntKind.i64.wrap ((m : Int) + 1) = (m : Int) + 1 := w64 (by omega) (by omega)
  have hw2 : IntKind.i64.wrap ((m : Int) + 2) = ((m + 2 : Nat) : Int) := by rw [w64 (by omega) (by omega)]; omega
  have h2 : (m : Int) + 1 < (s.size : Int) := by omega
  have h3 : (m : Int) < (s.size : Int) := by omega
  have h3' : (m : Int) ≤ (s.size : Int) := by omega
  have h4 : (0 : Int) ≤ (m : Int) := by omega
  have h5 : (0 : Int) ≤ (m : Int) + 1 := by omega
  have h6 : (0 : Int) ≤ ((m + 2 : Nat) : Int) := by omega
  have h7 : ((m + 2 : Nat) : Int) ≤ (s.size : Int) := by omega
  obtain ⟨p, r, rest, hd, hb, hc⟩ := two_at h
  unfold Lib.occAt at ho
  rw [hd] at ho
  have hpr : p = 58 ∧ r = 58 := by simp [List.isPrefixOf] at ho; exact ⟨ho.1.symm, ho.2.symm⟩
  have n1 : ¬ (p.toNat : Int) ≠ 58 := fun e => e (by rw [hpr.1]; rfl)
  have n2 : ¬ (r.toNat : Int) ≠ 58 := fun e => e (by rw [hpr.2]; rfl)
  rw [f35.l2]
  simp only [f35.l2.step, hw, hw2, h2, h3, h3', h4, h5, h6, h7, Int.le_refl, hb, hc, ff n1, ff n2, Int.toNat_natCast, h1, h2', Option.bind_some, decide_true, if_true, Bool.false_eq_true, if_false]
  cases b with
  | false => simp
  | true =>
    cases c with
    | false => simp
    | true =>
      have lx := hxl rfl
      have ly := hyl rfl
      simp only [Bool.not_true, if_true, true_and]
      have e1 : IntKind.i64.wrap ((x.length : Int) + (y.length : Int)) = (x.length : Int) + (y.length : Int) := w64 (by omega) (by omega)
      have e2 : IntKind.i64.wrap (16 - (x.length : Int)) = 16 - (x.length : Int) := w64 (by omega) (by omega)
      have e3 : IntKind.i64.wrap (16 - (x.length : Int) - (y.length : Int)) = 16 - (x.length : Int) - (y.length : Int) := w64 (by omega) (by omega)
      rw [e1, e2, e3]
      by_cases c14 : x.length + y.length ≤ 14
      · have g1 : ¬ (x.length : Int) + (y.length : Int) > 14 := by omega
        have g2 : (0 : Int) ≤ 16 - (x.length : Int) - (y.length : Int) := by omega
        have g3 : Int.toNat (16 - (x.length : Int) - (y.length : Int)) = 16 - x.length - y.length := by omega
        have z1 : ∀ xs : List Int, (strOf xs).size = xs.length := fun xs => by simp [strOf, ByteArray.size]
        have g4 : (16 - x.length - y.length) * 1 ≤ maxN := by simp only [maxN]; omega
        have g5 : (strOf x).size + (strOf (List.replicate (16 - x.length - y.length) 0)).size ≤ maxN := by rw [z1, z1, List.length_replicate]; simp only [maxN]; omega
        have g6 : (strOf x ++ strOf (List.replicate (16 - x.length - y.length) 0)).size + (strOf y).size ≤ maxN := by rw [ByteArray.size_append, z1, z1, z1, List.length_replicate]; simp only [maxN]; omega
        rw [if_neg (fb g1), if_pos g2, g3, if_pos g4, if_pos g5, if_pos g6, if_pos c14]
      · have g1 : (x.length : Int) + (y.length : Int) > 14 := by omega
        rw [if_pos (tb g1), if_neg c14]
theorem ds_append (a b : ByteArray) : ds (a ++ b) = ds a ++ ds b := by
  simp [ds, ByteArray.data_append]
theorem strOf_append (x y : List Int) : strOf x ++ strOf y = strOf (x ++ y) := by
  apply ds_inj; rw [ds_append]; simp [strOf, ds]
theorem copy_six (x y : List Int) (h : x.length + y.length ≤ 14) : copyL (copyL (List.replicate 16 0) 0 16 x) (16 - y.length) (16 - (16 - y.length)) y = x ++ List.replicate (16 - x.length - y.length) 0 ++ y := by
  have e1 : copyL (List.replicate 16 0) 0 16 x = x ++ List.replicate (16 - x.length) 0 := by
    unfold copyL
    rw [List.take_zero, List.nil_append, List.take_of_length_le (by omega), List.drop_replicate]
    congr 2; omega
  rw [e1]
  unfold copyL
  rw [List.take_append, List.take_of_length_le (l := x) (by omega), List.take_replicate, List.take_of_length_le (l := y) (by omega), List.drop_eq_nil_of_le (by simp; omega), List.append_nil]
  congr 3; omega
/-- Sixteen bytes: the specification and the code say the same. -/
theorem six_eq (k : Nat) (hK : 2097152 ≤ k) (s : ByteArray) (hs : s.size ≤ 100) : ∃ t b t', f35 k s = some (t, b) ∧ f17 k s = some (t', b) ∧ (b = true → t' = t ∧
    ((∃ x, wds s = some x ∧ x.length = 16 ∧ t = strOf x) ∨ ∃ m x y, m + 1 < s.size ∧ wds (s.extract 0 m) = some x ∧ wds (s.extract (m + 2) s.size) = some y ∧ x.length + y.length ≤ 14 ∧ t = strOf (x ++ List.replicate (16 - x.length - y.length) 0 ++ y))) := by
  have hcut : f19 k s (⟨#[58, 58]⟩ : ByteArray) = some (⟨(Lib.cut (ds s) [58, 58]).1.toArray⟩, ⟨(Lib.cut (ds s) [58, 58]).2.1.toArray⟩, (Lib.cut (ds s) [58, 58]).2.2) := by
    unfold f19; rw [if_pos (by omega)]; rfl
  have mk : ∀ a : ByteArray, (⟨(ds a).toArray⟩ : ByteArray) = a := fun a => ds_inj rfl
  rcases Lib.index_spec (ds s) [58, 58] with ⟨i1, i2⟩ | ⟨m, i1, i2, i3, i4⟩
  · have hc : Lib.cut (ds s) [58, 58] = (ds s, [], false) := by unfold Lib.cut; rw [if_neg (by omega)]
    rw [hc] at hcut
    simp only [mk] at hcut
    have hl := l2_none k hK s hs i2
    rcases wds_eq k hK s hs with ⟨x, w1, w2, w3, w4⟩ | ⟨w1, ⟨c, w3⟩, w4⟩
    · simp only [f35, f35.step, f17, f17.step, hl, hcut, Option.bind_some, Sum.elim_inl, Sum.elim_inr, w3, w4, Bool.not_true, Bool.not_false, if_true]
      by_cases c16 : (x.length : Int) ≤ 16
      · rw [if_pos (tb c16)]
        refine ⟨strOf x, decide ((x.length : Int) = 16), strOf x, rfl, rfl, fun h => ⟨rfl, Or.inl ⟨x, w1, ?_, rfl⟩⟩⟩
        have := of_decide_eq_true h; omega
      · rw [if_neg (fb c16)]
        have : ¬ (x.length : Int) = 16 := by omega
        exact ⟨strOf x, false, strOf x, rfl, by simp only [ff this]; rfl, fun h => by cases h⟩
    · simp only [f35, f35.step, f17, f17.step, hl, hcut, Option.bind_some, Sum.elim_inl, Sum.elim_inr, w3, w4, Bool.not_true, Bool.not_false, if_true]
      exact ⟨_, false, _, rfl, rfl, fun h => by cases h⟩
  · have hroom := occ_room (s := s) i3
    have hc : Lib.cut (ds s) [58, 58] = (ds (s.extract 0 m), ds (s.extract (m + 2) s.size), true) := by
      unfold Lib.cut; rw [if_pos (by omega), i1, Int.toNat_natCast, ds_ex, ds_ex]
      rw [List.drop_zero]
      congr 2
      rw [List.take_of_length_le (by rw [ds_len]; omega)]; rfl
    rw [hc] at hcut
    simp only [mk] at hcut
    obtain ⟨j, hj⟩ : ∃ j, k = j + 1 + m := ⟨k - 1 - m, by omega⟩
    have hrun : f35.l2 k k s 0 = f35.l2 k (j + 1) s (m : Int) := by
      have := l2_run k s hs m 0 (j + 1) (fun i _ hi => i4 i (by omega)) (by omega)
      rw [← hj] at this
      rw [Nat.zero_add] at this
      exact this
    have z1 : (s.extract 0 m).size ≤ 100 := by rw [ByteArray.size_extract]; omega
    have z2 : (s.extract (m + 2) s.size).size ≤ 100 := by rw [ByteArray.size_extract]; omega
    rcases wds_eq k hK _ z1 with ⟨x, w1, w2, w3, w4⟩ | ⟨w1, ⟨c1, w3⟩, w4⟩
    · rcases wds_eq k hK _ z2 with ⟨y, v1, v2, v3, v4⟩ | ⟨v1, ⟨c2, v3⟩, v4⟩
      · have hh := l2_hit k j s hs m i3 x y _ _ w3 v3 (fun _ => w2) (fun _ => v2)
        have e1 : IntKind.i64.wrap ((x.length : Int) + (y.length : Int)) = (x.length : Int) + (y.length : Int) := w64 (by omega) (by omega)
        have e2 : IntKind.i64.wrap (16 - (y.length : Int)) = 16 - (y.length : Int) := w64 (by omega) (by omega)
        simp only [f35, f35.step, f17, f17.step, hrun, hh, hcut, Option.bind_some, Sum.elim_inl, Sum.elim_inr, w4, v4, Bool.not_true, Bool.false_eq_true, if_false, if_true, e1, e2]
        by_cases c14 : x.length + y.length ≤ 14
        · have g1 : ¬ (x.length : Int) + (y.length : Int) > 14 := by omega
          have g0 : decide ((x.length : Int) ≤ 16) = true ∧ decide ((y.length : Int) ≤ 16) = true ∧ x.length + y.length ≤ 14 := ⟨tb (by omega), tb (by omega), c14⟩
          have hlen : (copyL (List.replicate 16 (0 : Int)) 0 (List.length (List.replicate 16 (0 : Int))) x).length = 16 := by rw [copyL_len _ _ _ _ (by simp)]; simp
          have g2 : (0 : Int) ≤ 16 - (y.length : Int) := by omega
          have g3 : 16 - (y.length : Int) ≤ ((16 : Nat) : Int) := by omega
          have g4 : Int.toNat (16 - (y.length : Int)) = 16 - y.length := by omega
          rw [if_pos g0, if_neg (fb g1), if_pos g2, hlen, if_pos g3, if_pos (Int.le_refl _), g4, Int.toNat_natCast, List.length_replicate, copy_six x y c14, strOf_append, strOf_append]
          exact ⟨_, true, _, rfl, rfl, fun _ => ⟨rfl, Or.inr ⟨m, x, y, hroom, w1, v1, c14, rfl⟩⟩⟩
        · have g1 : (x.length : Int) + (y.length : Int) > 14 := by omega
          rw [if_neg (fun h => c14 h.2.2), if_pos (tb g1)]
          exact ⟨_, false, _, rfl, rfl, fun h => by cases h⟩
      · have hh := l2_hit k j s hs m i3 x c2 _ _ w3 v3 (fun _ => w2) (fun h => by cases h)
        simp only [f35, f35.step, f17, f17.step, hrun, hh, hcut, Option.bind_some, Sum.elim_inl, Sum.elim_inr, w4, v4, Bool.not_true, Bool.not_false, Bool.false_eq_true, if_false, if_true, false_and, and_false]
        exact ⟨_, false, _, rfl, rfl, fun h => by cases h⟩
    · have hy : ∃ y c, f58 k (s.extract (m + 2) s.size) = some (y, c) ∧ (c = true → y.length ≤ 1000) := by
        rcases wds_eq k hK _ z2 with ⟨y, v1, v2, v3, v4⟩ | ⟨v1, ⟨c2, v3⟩, v4⟩
        · exact ⟨y, _, v3, fun _ => v2⟩
        · exact ⟨c2, false, v3, fun h => by cases h⟩
      obtain ⟨y, c, v3, v2⟩ := hy
      have hh := l2_hit k j s hs m i3 c1 y _ _ w3 v3 (fun h => by cases h) v2
      simp only [f35, f35.step, f17, f17.step, hrun, hh, hcut, Option.bind_some, Sum.elim_inl, Sum.elim_inr, w4, Bool.not_true, Bool.not_false, Bool.false_eq_true, if_false, if_true, false_and, and_false]
      exact ⟨_, false, _, rfl, rfl, fun h => by cases h⟩
/-! ### the address -/
theorem tooLong_eq (k : Nat) (hK : 2097152 ≤ k) (s : ByteArray) : f15 k [s] = some (decide ((s.size : Int) > 65536)) := by
  obtain ⟨j, hj⟩ : ∃ j, k = j + 1 + 1 := ⟨k - 2, by omega⟩
  have h : f15.l2 k k [s] (List.length [s] : Nat) 0 = some (if (s.size : Int) > 65536 then .inl true else .inr ()) := by
    rw [show f15.l2 k k = f15.l2 k (j + 1 + 1) from by rw [← hj], f15.l2]
    by_cases c : (s.size : Int) > 65536
    · have e : List.getD [s] (Int.toNat 0) ByteArray.empty = s := rfl
      simp only [f15.l2.step, e, c, decide_true, if_true]; rfl
    · have e : List.getD [s] (Int.toNat 0) ByteArray.empty = s := rfl
      have hw : IntKind.i64.wrap ((0 : Int) + 1) = 1 := by decide
      simp only [f15.l2.step, e, c, decide_false, hw]
      rw [f15.l2]; rfl
  simp only [f15, f15.step, h, Option.bind_some]
  by_cases c : (s.size : Int) > 65536
  · simp only [c, if_true, Sum.elim_inl, decide_true]
  · simp only [c, if_false, Sum.elim_inr, decide_false]
/-- What an address that is read says. -/
def Got (k : Nat) (s t : ByteArray) : Prop := (∃ vs, mv k (pcs 46 s) = some vs ∧ vs.length = 4 ∧ t = strOf vs) ∨
  (∃ x, wds s = some x ∧ x.length = 16 ∧ t = strOf x) ∨ ∃ m x y, m + 1 < s.size ∧ wds (s.extract 0 m) = some x ∧ wds (s.extract (m + 2) s.size) = some y ∧ x.length + y.length ≤ 14 ∧ t = strOf (x ++ List.replicate (16 - x.length - y.length) 0 ++ y)
theorem read_eq (k : Nat) (hK : 2097152 ≤ k) (s : ByteArray) (hs : s.size ≤ 100) : ∃ t b, f14 k s = some (t, b) ∧ (b = true → Got k s t) ∧
    (∀ hl : s.size ≤ 60, f7 k s = some (if b = true then (t, 0) else ((⟨#[]⟩ : ByteArray), 3))) := by
  obtain ⟨t, b, t', a1, a2, a3⟩ := four_eq k hK s hs
  obtain ⟨u, c, u', b1, b2, b3⟩ := six_eq k hK s hs
  cases b with
  | true =>
    obtain ⟨rfl, hv⟩ := a3 rfl
    refine ⟨t', true, by simp only [f14, f14.step, a1, Option.bind_some, if_true], fun _ => Or.inl hv, fun hl => ?_⟩
    have n1 : ¬ (s.size : Int) > 65536 := by omega
    have n2 : ¬ (s.size : Int) > 60 := by omega
    simp only [f7, f7.step, tooLong_eq k hK, n1, n2, decide_false, Option.bind_some, a2, if_true, Bool.false_eq_true, if_false]
  | false =>
    refine ⟨u, c, by simp only [f14, f14.step, a1, b1, Option.bind_some, Bool.false_eq_true, if_false], fun h => Or.inr (b3 h).2, fun hl => ?_⟩
    have n1 : ¬ (s.size : Int) > 65536 := by omega
    have n2 : ¬ (s.size : Int) > 60 := by omega
    simp only [f7, f7.step, tooLong_eq k hK, n1, n2, decide_false, Option.bind_some, a2, b2, if_true, Bool.false_eq_true, if_false]
    cases c with
    | true => rw [(b3 rfl).1]; rfl
    | false => rfl
theorem addr_eq (k : Nat) (hK : 2097152 ≤ k) (s : ByteArray) : ∃ r, f6 k s = some r ∧ f7 k s = some r := by
  by_cases c1 : (s.size : Int) > 65536
  · refine ⟨((⟨#[]⟩ : ByteArray), 2), ?_, ?_⟩
    · simp only [f6, f6.step, c1, decide_true, if_true]
    · simp only [f7, f7.step, tooLong_eq k hK, c1, decide_true, Option.bind_some, if_true]
  by_cases c2 : (s.size : Int) > 60
  · refine ⟨((⟨#[]⟩ : ByteArray), 3), ?_, ?_⟩
    · simp only [f6, f6.step, c1, c2, decide_true, decide_false, if_true, Bool.false_eq_true, if_false]
    · simp only [f7, f7.step, tooLong_eq k hK, c1, c2, decide_true, decide_false, Option.bind_some, if_true, Bool.false_eq_true, if_false]
  obtain ⟨t, b, h1, _, h2⟩ := read_eq k hK s (by omega)
  have h2 := h2 (by omega)
  refine ⟨_, ?_, h2⟩
  simp only [f6, f6.step, c1, c2, decide_false, Bool.false_eq_true, if_false, h1, Option.bind_some]
  cases b <;> rfl
/-! ### an address that is read is short -/
theorem strOf_size (xs : List Int) : (strOf xs).size = xs.length := by simp [strOf, ByteArray.size]
theorem mv_len (k : Nat) (hK : 2097152 ≤ k) : ∀ (P : List ByteArray) (vs : List Int), (∀ x ∈ P, x.size ≤ 1000) → mv k P = some vs → vs.length = P.length ∧ (P.map ByteArray.size).sum ≤ 10 * P.length
  | [], vs, hb, h => by simp only [mv, Option.some.injEq] at h; subst h; simp
  | x :: P, vs, hb, h => by
    simp only [mv] at h
    obtain ⟨v, h1, h2⟩ := Option.bind_eq_some_iff.1 h
    obtain ⟨l, h3, h4⟩ := Option.map_eq_some_iff.1 h2
    obtain ⟨i1, i2⟩ := mv_len k hK P l (fun y hy => hb y (List.mem_cons_of_mem _ hy)) h3
    have hx : x.size ≤ 10 := by
      obtain ⟨w, b, _, e1, e2⟩ := num_eq k hK x (hb x (List.mem_cons_self ..))
      unfold bv at h1
      split at h1
      · rename_i hc
        have hq : q k x = (w, b) := by unfold q; rw [e1]; rfl
        rw [hq] at hc
        exact e2 hc.1 hc.2.1 hc.2.2
      · cases h1
    subst h4
    simp only [List.length_cons, List.map_cons, List.sum_cons]
    omega
theorem wd_len {x : ByteArray} {v : List Int} (h : wd x = some v) : v.length = 2 ∧ x.size ≤ 4 := by
  unfold wd at h
  split at h
  · cases h
  · obtain ⟨w, _, e⟩ := Option.map_eq_some_iff.1 h
    subst e
    exact ⟨rfl, by omega⟩
theorem wm_len : ∀ (P : List ByteArray) (vs : List Int), wm P = some vs → vs.length = 2 * P.length ∧ (P.map ByteArray.size).sum ≤ 4 * P.length
  | [], vs, h => by simp only [wm, Option.some.injEq] at h; subst h; simp
  | x :: P, vs, h => by
    simp only [wm] at h
    obtain ⟨v, h1, h2⟩ := Option.bind_eq_some_iff.1 h
    obtain ⟨l, h3, h4⟩ := Option.map_eq_some_iff.1 h2
    obtain ⟨i1, i2⟩ := wm_len P l h3
    obtain ⟨j1, j2⟩ := wd_len h1
    subst h4
    simp only [List.length_cons, List.map_cons, List.sum_cons, List.length_append]
    omega
theorem wds_len {s : ByteArray} {x : List Int} (h : wds s = some x) : 2 * s.size ≤ 5 * x.length := by
  unfold wds at h
  split at h
  · rename_i hc
    rw [Lib.toList_data, Lib.toList_data] at hc
    have : (ds s).length = 0 := by show s.data.toList.length = 0; rw [hc]; rfl
    rw [ds_len] at this
    omega
  · have h1 := wm_len _ _ h
    have h2 := pcs_sum 58 s
    omega
theorem got_small (k : Nat) (hK : 2097152 ≤ k) {s t : ByteArray} (hs : s.size ≤ 100) (h : Got k s t) : s.size ≤ 60 ∧ (t.size = 4 ∨ t.size = 16) := by
  rcases h with ⟨vs, h1, h2, h3⟩ | ⟨x, h1, h2, h3⟩ | ⟨m, x, y, h0, h1, h2, h3, h4⟩
  · have a := mv_len k hK _ _ (fun x hx => by have := pcs_le 46 s x hx; omega) h1
    have b := pcs_sum 46 s
    refine ⟨by omega, Or.inl (by rw [h3, strOf_size, h2])⟩
  · have a := wds_len h1
    exact ⟨by omega, Or.inr (by rw [h3, strOf_size, h2])⟩
  · have a := wds_len h1
    have b := wds_len h2
    rw [ByteArray.size_extract] at a b
    refine ⟨by omega, Or.inr ?_⟩
    rw [h4, strOf_size]; simp; omega
/-! ### the bits of an address -/
theorem u64_id {n : Int} (h0 : 0 ≤ n) (h1 : n ≤ 7) : IntKind.u64.wrap n = n := by
  simp [IntKind.wrap, IntKind.bits, IntKind.signed]; omega
theorem bits_in (k : Nat) (s : ByteArray) (p : Int) : ∀ (j : Nat) (i : Int) (acc : List Int), i ≤ 7 → f40.l6 k j s p i acc = f22.l6 k j s p i acc
  | 0, i, acc, h => rfl
  | j + 1, i, acc, h => by
    rw [f40.l6, f22.l6]
    simp only [f40.l6.step, f22.l6.step]
    by_cases c : i ≥ 0
    · have hu : IntKind.u64.wrap i = i := u64_id c h
      have hw : IntKind.i64.wrap (i - 1) = i - 1 := w64 (by omega) (by omega)
      simp only [hu, hw, bits_in k s p j (i - 1) _ (by omega)]
    · simp only [ff c, Bool.false_eq_true, if_false]
theorem bits_out (k : Nat) : ∀ (j : Nat) (s : ByteArray) (p : Int) (acc : List Int), f40.l3 k j s p acc = f22.l3 k j s p acc
  | 0, s, p, acc => rfl
  | j + 1, s, p, acc => by
    rw [f40.l3, f22.l3]
    simp only [f40.l3.step, f22.l3.step, bits_in k s p k 7 acc (by omega), bits_out k j]
theorem bits_byte (k : Nat) (s : ByteArray) (p : Nat) (hp : p < s.size) : ∀ (i j : Nat) (acc : List Int), i ≤ 8 → i < j → acc.length + i ≤ 10000 → ∃ vs, vs.length = i ∧ f22.l6 k j s (p : Int) ((i : Int) - 1) acc = some (s, (p : Int), acc ++ vs)
  | i, 0, acc, h8, hj, ha => by omega
  | 0, j + 1, acc, h8, hj, ha => by
    have c : ¬ ((0 : Nat) : Int) - 1 ≥ 0 := by omega
    refine ⟨[], rfl, ?_⟩
    rw [f22.l6]
    simp only [f22.l6.step, ff c, List.append_nil]; rfl
  | i + 1, j + 1, acc, h8, hj, ha => by
    have c : ((i + 1 : Nat) : Int) - 1 ≥ 0 := by omega
    have c' : (0 : Int) ≤ ((i + 1 : Nat) : Int) - 1 := by omega
    have hp0 : (0 : Int) ≤ (p : Int) := by omega
    have hp1 : (p : Int) < (s.size : Int) := by omega
    have hw : IntKind.i64.wrap (((i + 1 : Nat) : Int) - 1 - 1) = (i : Int) - 1 := by rw [w64 (by omega) (by omega)]; omega
    obtain ⟨v, hv⟩ : ∃ v, v = IntKind.u8.wrap (48 + (bitsV .and .u8 (Int.fdiv (bt s (p : Int)) (2 ^ (min (Int.toNat (((i + 1 : Nat) : Int) - 1)) IntKind.u8.bits))) 1)) := ⟨_, rfl⟩
    have hm : (List.length acc + List.length [v]) * 1 ≤ maxN := by simp only [List.length_cons, List.length_nil, maxN]; omega
    obtain ⟨vs, e1, e2⟩ := bits_byte k s p hp i j (acc ++ [v]) (by omega) (by omega) (by simp; omega)
    refine ⟨v :: vs, by simp [e1], ?_⟩
    rw [f22.l6]
    simp only [f22.l6.step, tb c, if_true, hp0, hp1, c', ← hv, hm, hw, e2]
    simp
theorem bits_all (k : Nat) (hK : 2097152 ≤ k) (s : ByteArray) (hs : s.size ≤ 16) : ∀ (n p j : Nat) (acc : List Int), p + n = s.size → n < j → acc.length = 8 * p → ∃ vs, vs.length = 8 * n ∧ f22.l3 k j s (p : Int) acc = some (acc ++ vs)
  | n, p, 0, acc, hp, hj, ha => by omega
  | 0, p, j + 1, acc, hp, hj, ha => by
    have c : ¬ (p : Int) < (s.size : Int) := by omega
    refine ⟨[], rfl, ?_⟩
    rw [f22.l3]
    simp only [f22.l3.step, ff c, List.append_nil]; rfl
  | n + 1, p, j + 1, acc, hp, hj, ha => by
    have c : (p : Int) < (s.size : Int) := by omega
    have hw : IntKind.i64.wrap ((p : Int) + 1) = ((p + 1 : Nat) : Int) := by rw [w64 (by omega) (by omega)]; omega
    obtain ⟨us, u1, u2⟩ := bits_byte k s p (by omega) 8 k acc (by omega) (by omega) (by omega)
    have u2' : f22.l6 k k s (p : Int) 7 acc = some (s, (p : Int), acc ++ us) := u2
    obtain ⟨vs, e1, e2⟩ := bits_all k hK s hs n (p + 1) j (acc ++ us) (by omega) (by omega) (by simp; omega)
    refine ⟨us ++ vs, by simp; omega, ?_⟩
    rw [f22.l3]
    simp only [f22.l3.step, tb c, if_true, u2', Option.bind_some, hw, e2]
    simp
theorem bits_eq (k : Nat) (hK : 2097152 ≤ k) (t : ByteArray) (ht : t.size ≤ 16) : ∃ b, f40 k t = some b ∧ f22 k t = some b ∧ b.size = 8 * t.size := by
  obtain ⟨vs, e1, e2⟩ := bits_all k hK t ht t.size 0 k [] (by omega) (by omega) rfl
  have e2' : f22.l3 k k t 0 ([] : List Int) = some vs := e2
  have e3 : f40.l3 k k t 0 ([] : List Int) = some vs := (bits_out k k t 0 []).trans e2'
  have hw : IntKind.i64.wrap (8 * (t.size : Int)) = 8 * (t.size : Int) := w64 (by omega) (by omega)
  have h1 : (0 : Int) ≤ 8 * (t.size : Int) := by omega
  have h2 : (Int.toNat (8 * (t.size : Int))) * 1 ≤ maxN := by simp only [maxN]; omega
  refine ⟨strOf vs, ?_, ?_, by rw [strOf_size, e1]⟩
  · simp only [f40, f40.step, e3, Option.bind_some]
  · simp only [f22, f22.step, hw, h1, h2, if_true, List.replicate, e2', Option.bind_some]
/-! ### a byte in a text -/
theorem index_nil (c : UInt8) : Lib.contains [] [c] = false := by
  unfold Lib.contains Lib.index; simp
theorem index_cons (c b : UInt8) (l : List UInt8) : Lib.contains (b :: l) [c] = (decide (b = c) || Lib.contains l [c]) := by
  unfold Lib.contains
  have hge := Lib.index_ge l [c]
  by_cases h : b = c
  · subst h
    have : Lib.index (b :: l) [b] = 0 := by rw [Lib.index]; simp [List.isPrefixOf]
    rw [this]; simp
  · have hp : ([c] : List UInt8).isPrefixOf (b :: l) = false := by simp [List.isPrefixOf, Ne.symm h]
    have hix : Lib.index (b :: l) [c] = if Lib.index l [c] == -1 then -1 else Lib.index l [c] + 1 := by rw [Lib.index, hp]; simp
    rw [hix, decide_eq_false h, Bool.false_or]
    by_cases h1 : Lib.index l [c] = -1
    · simp [h1]
    · rw [if_neg (fun e => h1 (beq_iff_eq.1 e))]
      apply Bool.eq_iff_iff.2
      simp only [decide_eq_true_eq]
      omega
theorem ones (k : Nat) (a : ByteArray) (m : Int) (s : ByteArray) (hs : s.size ≤ 1000) : ∀ (rest : List UInt8) (i j : Nat), (ds s).drop i = rest → i + rest.length = s.size → rest.length < j →
    f18.l11 k j a m s (i : Int) = some (if Lib.contains rest [49] = true then .inl ((⟨#[]⟩ : ByteArray), 0, false, a, m, s) else .inr (a, m, s))
  | rest, i, 0, hd, hi, hj => by omega
  | [], i, j + 1, hd, hi, hj => by
    have h2 : ¬ (i : Int) < (s.size : Int) := by simp at hi; omega
    rw [f18.l11, index_nil]
    simp only [f18.l11.step, ff h2]; rfl
  | b :: rest, i, j + 1, hd, hi, hj => by
    simp only [List.length_cons] at hi hj
    obtain ⟨g1, g2, g3⟩ := drop_next hd
    have h2 : (i : Int) < (s.size : Int) := by omega
    have h3 : (0 : Int) ≤ (i : Int) := by omega
    have hb : bt s (i : Int) = (b.toNat : Int) := bt_get g1
    have hw : IntKind.i64.wrap ((i : Int) + 1) = ((i + 1 : Nat) : Int) := by rw [w64 (by omega) (by omega)]; omega
    rw [f18.l11, index_cons]
    by_cases c : b = 49
    · have c' : (b.toNat : Int) = 49 := bn_eq (c := 49) rfl c
      rw [decide_eq_true c, Bool.true_or, if_pos rfl]
      simp only [f18.l11.step, h2, h3, hb, tb c', decide_true, if_true]
    · have c' : ¬ (b.toNat : Int) = 49 := bn_ne (c := 49) rfl c
      simp only [f18.l11.step, h2, h3, hb, ff c', decide_true, if_true, ff c, Bool.false_or, hw, ones k a m s hs rest (i + 1) j g2 (by omega) (by omega)]
      rfl
/-! ### the prefix -/
theorem s2_end (k j : Nat) (s : ByteArray) (m : Nat) (h : m = s.size) : f18.l2 k (j + 1) s (m : Int) = some (.inr ()) := by
  have h2 : ¬ (m : Int) < (s.size : Int) := by omega
  rw [f18.l2]
  simp only [f18.l2.step, ff h2]; rfl
theorem one_at {s : ByteArray} {m : Nat} (h : m < s.size) : ∃ b rest, (ds s).drop m = b :: rest ∧ bt s (m : Int) = (b.toNat : Int) := by
  have l1 : m < (ds s).length := by rw [ds_len]; omega
  exact ⟨_, _, List.drop_eq_getElem_cons l1, bt_get (List.getElem?_eq_getElem l1)⟩
theorem s2_skip (k j : Nat) (s : ByteArray) (hs : s.size ≤ 100) (m : Nat) (h : m < s.size) (ho : Lib.occAt (ds s) [47] m = false) : f18.l2 k (j + 1) s (m : Int) = f18.l2 k j s ((m + 1 : Nat) : Int) := by
  have hw : IntKind.i64.wrap ((m : Int) + 1) = ((m + 1 : Nat) : Int) := by rw [w64 (by omega) (by omega)]; omega
  have h3 : (m : Int) < (s.size : Int) := by omega
  have h4 : (0 : Int) ≤ (m : Int) := by omega
  obtain ⟨b, rest, hd, hb⟩ := one_at h
  unfold Lib.occAt at ho
  rw [hd] at ho
  have c1 : ¬ b = 47 := fun e => by subst e; simp [List.isPrefixOf] at ho
  have n1 : (b.toNat : Int) ≠ 47 := bn_ne (c := 47) rfl c1
  rw [f18.l2]
  simp only [f18.l2.step, h3, h4, hb, tb n1, decide_true, if_true, hw]
theorem s2_run (k : Nat) (s : ByteArray) (hs : s.size ≤ 100) : ∀ (n m j : Nat), (∀ i, m ≤ i → i < m + n → Lib.occAt (ds s) [47] i = false) → m + n ≤ s.size → f18.l2 k (j + n) s (m : Int) = f18.l2 k j s ((m + n : Nat) : Int)
  | 0, m, j, ho, h => rfl
  | n + 1, m, j, ho, h => by
    rw [show j + (n + 1) = (j + n) + 1 from rfl, s2_skip k (j + n) s hs m (by omega) (ho m (Nat.le_refl _) (by omega))]
    rw [s2_run k s hs n (m + 1) j (fun i h1 h2 => ho i (by omega) (by omega)) (by omega)]
    rw [show m + 1 + n = m + (n + 1) from by omega]
theorem occ1_room {s : ByteArray} {m : Nat} (h : Lib.occAt (ds s) [47] m = true) : m < s.size := by
  unfold Lib.occAt at h
  have := (List.isPrefixOf_iff_prefix.1 h).length_le
  simp [ds_len] at this; omega
theorem s2_none (k : Nat) (hK : 2097152 ≤ k) (s : ByteArray) (hs : s.size ≤ 100) (h : ∀ j, j ≤ (ds s).length → Lib.occAt (ds s) [47] j = false) : f18.l2 k k s 0 = some (.inr ()) := by
  obtain ⟨j, rfl⟩ : ∃ j, k = j + 1 + s.size := ⟨k - 1 - s.size, by omega⟩
  have h1 := s2_run (j + 1 + s.size) s hs s.size 0 (j + 1) (fun i _ hi => h i (by rw [ds_len]; omega)) (by omega)
  refine h1.trans ?_
  exact s2_end _ j s (0 + s.size) (by omega)
theorem rng_spec (k : Nat) (v m : Int) : f39 k v 0 m = some (decide (0 ≤ v ∧ v ≤ m)) := by
  simp only [f39, f39.step]
  by_cases c1 : v ≥ 0
  · simp only [c1, decide_true, if_true, true_and, ge_iff_le]
  · simp only [c1, decide_false, ge_iff_le, false_and]; rfl
theorem rng_impl (k : Nat) (v m : Int) : f21 k v 0 m = some (decide (0 ≤ v ∧ v ≤ m)) := by
  simp only [f21, f21.step]
  by_cases c1 : v ≥ 0
  · simp only [c1, decide_true, if_true, true_and, ge_iff_le]
  · simp only [c1, decide_false, ge_iff_le, false_and]; rfl
/-- What stands behind the cut: the specification's answer at the slash. -/
theorem s2_hit (k j : Nat) (hK : 2097152 ≤ k) (s : ByteArray) (hs : s.size ≤ 100) (m : Nat) (ho : Lib.occAt (ds s) [47] m = true)
    (t : ByteArray) (b : Bool) (h1 : f14 k (s.extract 0 m) = some (t, b)) (ht : b = true → t.size = 4 ∨ t.size = 16) (n : Int) (c : Bool) (h2' : f38 k (s.extract (m + 1) s.size) = some (n, c)) (bs : ByteArray) (h3' : b = true → f40 k t = some bs ∧ bs.size = 8 * t.size) :
    f18.l2 k (j + 1) s (m : Int) = some (.inl (if b = true ∧ c = true ∧ 0 ≤ n ∧ n ≤ 8 * (t.size : Int) then (if Lib.contains ((ds bs).drop n.toNat) [49] = true then ((⟨#[]⟩ : ByteArray), 0, false) else (bs.extract 0 n.toNat, (if (t.size : Int) = 4 then 4 else 6), true)) else ((⟨#[]⟩ : ByteArray), 0, false))) := by
  have h := occ1_room ho
  have hw : IntKind.i64.wrap ((m : Int) + 1) = ((m + 1 : Nat) : Int) := by rw [w64 (by omega) (by omega)]; omega
  have h3 : (m : Int) < (s.size : Int) := by omega
  have h3l : (m : Int) ≤ (s.size : Int) := by omega
  have h4 : (0 : Int) ≤ (m : Int) := by omega
  have h6 : (0 : Int) ≤ ((m + 1 : Nat) : Int) := by omega
  have h7 : ((m + 1 : Nat) : Int) ≤ (s.size : Int) := by omega
  obtain ⟨p, rest, hd, hb⟩ := one_at h
  unfold Lib.occAt at ho
  rw [hd] at ho
  have hp : p = 47 := by simp [List.isPrefixOf] at ho; exact ho.symm
  have n1 : ¬ (p.toNat : Int) ≠ 47 := fun e => e (by rw [hp]; rfl)
  rw [f18.l2]
  simp only [f18.l2.step, hw, h3, h3l, h4, h6, h7, Int.le_refl, hb, ff n1, Int.toNat_natCast, h1, h2', Option.bind_some, decide_true, if_true, Bool.false_eq_true, if_false]
  cases b with
  | false => simp
  | true =>
    cases c with
    | false => simp
    | true =>
      obtain ⟨g1, g2⟩ := h3' rfl
      have hts := ht rfl
      have hw8 : IntKind.i64.wrap (8 * (t.size : Int)) = 8 * (t.size : Int) := w64 (by omega) (by omega)
      simp only [Bool.not_true, if_true, true_and, hw8, rng_spec, Option.bind_some, g1]
      by_cases cn : 0 ≤ n ∧ n ≤ 8 * (t.size : Int)
      · obtain ⟨i, rfl⟩ : ∃ i : Nat, n = i := ⟨n.toNat, by omega⟩
        have ho := ones k t (i : Int) bs (by omega) ((ds bs).drop i) i k rfl (by simp [ds_len]; omega) (by simp [ds_len]; omega)
        have i0 : (0 : Int) ≤ (i : Int) := by omega
        have i1 : (i : Int) ≤ (bs.size : Int) := by omega
        simp only [cn, and_self, decide_true, Bool.not_true, Bool.false_eq_true, if_false, if_true, ho, Option.bind_some, Int.toNat_natCast]
        by_cases c1 : Lib.contains ((ds bs).drop i) [49] = true
        · simp only [c1, if_true, Sum.elim_inl]
        · simp only [c1, Bool.false_eq_true, if_false, Sum.elim_inr, i0, i1, if_true]
          by_cases c4 : (t.size : Int) = 4
          · simp only [c4, decide_true, if_true]; rfl
          · simp only [c4, decide_false, Bool.false_eq_true, if_false]; rfl
      · simp only [cn, decide_false, Bool.not_false, if_true, if_false]
theorem pref_eq (k : Nat) (hK : 2097152 ≤ k) (s : ByteArray) : ∃ r, f8 k s = some r ∧ f9 k s = some r := by
  by_cases c1 : (s.size : Int) > 65536
  · refine ⟨((⟨#[]⟩ : ByteArray), 0, 2), ?_, ?_⟩
    · simp only [f8, f8.step, c1, decide_true, if_true]
    · simp only [f9, f9.step, tooLong_eq k hK, c1, decide_true, Option.bind_some, if_true]
  by_cases c2 : (s.size : Int) > 70
  · refine ⟨((⟨#[]⟩ : ByteArray), 0, 3), ?_, ?_⟩
    · simp only [f8, f8.step, c1, c2, decide_true, decide_false, if_true, Bool.false_eq_true, if_false]
    · simp only [f9, f9.step, tooLong_eq k hK, c1, c2, decide_true, decide_false, Option.bind_some, if_true, Bool.false_eq_true, if_false]
  have hs : s.size ≤ 100 := by omega
  have hcut : f19 k s (⟨#[47]⟩ : ByteArray) = some (⟨(Lib.cut (ds s) [47]).1.toArray⟩, ⟨(Lib.cut (ds s) [47]).2.1.toArray⟩, (Lib.cut (ds s) [47]).2.2) := by
    unfold f19; rw [if_pos (by omega)]; rfl
  have mk : ∀ a : ByteArray, (⟨(ds a).toArray⟩ : ByteArray) = a := fun a => ds_inj rfl
  rcases Lib.index_spec (ds s) [47] with ⟨i1, i2⟩ | ⟨m, i1, i2, i3, i4⟩
  · have hc : Lib.cut (ds s) [47] = (ds s, ds ⟨#[]⟩, false) := by unfold Lib.cut; rw [if_neg (by omega)]; rfl
    rw [hc] at hcut
    simp only [mk] at hcut
    have hl := s2_none k hK s hs i2
    obtain ⟨r, _, a2⟩ := addr_eq k hK s
    have a3 := q_impl k hK (⟨#[]⟩ : ByteArray) (by show 0 ≤ 1000; omega)
    refine ⟨((⟨#[]⟩ : ByteArray), 0, 3), ?_, ?_⟩
    · simp only [f8, f8.step, c1, c2, decide_false, Bool.false_eq_true, if_false, f18, f18.step, hl, Option.bind_some, Sum.elim_inr, Bool.not_false, if_true]
    · simp only [f9, f9.step, tooLong_eq k hK, c1, c2, decide_false, Bool.false_eq_true, if_false, Option.bind_some, hcut, a2, a3, Bool.not_false, if_true]
      simp
  · have hroom := occ1_room (s := s) i3
    have hc : Lib.cut (ds s) [47] = (ds (s.extract 0 m), ds (s.extract (m + 1) s.size), true) := by
      unfold Lib.cut; rw [if_pos (by omega), i1, Int.toNat_natCast, ds_ex, ds_ex]
      rw [List.drop_zero]
      congr 2
      rw [List.take_of_length_le (by rw [ds_len]; omega)]; rfl
    rw [hc] at hcut
    simp only [mk] at hcut
    obtain ⟨j, hj⟩ : ∃ j, k = j + 1 + m := ⟨k - 1 - m, by omega⟩
    have hrun : f18.l2 k k s 0 = f18.l2 k (j + 1) s (m : Int) := by
      have := s2_run k s hs m 0 (j + 1) (fun i _ hi => i4 i (by omega)) (by omega)
      rw [← hj] at this
      rw [Nat.zero_add] at this
      exact this
    have z1 : (s.extract 0 m).size ≤ 100 := by rw [ByteArray.size_extract]; omega
    have z2 : (s.extract (m + 1) s.size).size ≤ 1000 := by rw [ByteArray.size_extract]; omega
    obtain ⟨t, b, r1, r2, r3⟩ := read_eq k hK (s.extract 0 m) z1
    have n1 := q_spec k hK _ z2
    have n2 := q_impl k hK _ z2
    have hf7 : ∃ t' e, f7 k (s.extract 0 m) = some (t', e) ∧ (b = true → t' = t ∧ e = 0) ∧ (b = false → e = 3) := by
      by_cases c60 : (s.extract 0 m).size ≤ 60
      · have := r3 c60
        cases b with
        | true => exact ⟨t, 0, this, fun _ => ⟨rfl, rfl⟩, fun h => by cases h⟩
        | false => exact ⟨_, 3, this, fun h => (by cases h), fun _ => rfl⟩
      · have hb : b = false := by
          cases b with
          | false => rfl
          | true => exact absurd (got_small k hK z1 (r2 rfl)).1 c60
        have g1 : ¬ ((s.extract 0 m).size : Int) > 65536 := by omega
        have g2 : ((s.extract 0 m).size : Int) > 60 := by omega
        refine ⟨(⟨#[]⟩ : ByteArray), 3, ?_, ⟨fun h => (by rw [hb] at h; cases h), fun _ => rfl⟩⟩
        simp only [f7, f7.step, tooLong_eq k hK, g1, g2, decide_true, decide_false, Option.bind_some, if_true, Bool.false_eq_true, if_false]
    obtain ⟨t', e, e1, e2, e3⟩ := hf7
    cases b with
    | false =>
      have he := e3 rfl
      subst he
      have hh := s2_hit k j hK s hs m i3 t false r1 (fun h => by cases h) _ _ n1 ByteArray.empty (fun h => by cases h)
      refine ⟨((⟨#[]⟩ : ByteArray), 0, 3), ?_, ?_⟩
      · simp only [f8, f8.step, c1, c2, decide_false, Bool.false_eq_true, if_false, f18, f18.step, hrun, hh, Option.bind_some, Sum.elim_inl, false_and, Bool.not_false, if_true]
      · simp only [f9, f9.step, tooLong_eq k hK, c1, c2, decide_false, Bool.false_eq_true, if_false, Option.bind_some, hcut, e1, n2, Bool.not_true, if_true]
        rfl
    | true =>
      obtain ⟨rfl, rfl⟩ := e2 rfl
      have hts := (got_small k hK z1 (r2 rfl)).2
      obtain ⟨bs, b1, b2, b3⟩ := bits_eq k hK t' (by omega)
      have hh := s2_hit k j hK s hs m i3 t' true r1 (fun _ => hts) _ _ n1 bs (fun _ => ⟨b1, b3⟩)
      have hw8 : IntKind.i64.wrap (8 * (t'.size : Int)) = 8 * (t'.size : Int) := w64 (by omega) (by omega)
      have hspec : f8 k s = (f18 k s).bind fun t2 => if (!t2.2.2) = true then some ((⟨#[]⟩ : ByteArray), 0, 3) else some (t2.1, t2.2.1, 0) := by
        simp only [f8, f8.step, c1, c2, decide_false, Bool.false_eq_true, if_false]
      have h18 : f18 k s = (f18.l2 k (j + 1) s (m : Int)).bind (Sum.elim (fun t14 => some (t14.1, t14.2.1, t14.2.2)) (fun t15 => some ((⟨#[]⟩ : ByteArray), 0, false))) := by
        simp only [f18, f18.step, hrun]
      rw [hspec, h18, hh]
      generalize hn : q k (s.extract (m + 1) s.size) = nc at n1 n2 ⊢
      obtain ⟨n, c⟩ := nc
      simp only [f9, f9.step, tooLong_eq k hK, c1, c2, decide_false, Bool.false_eq_true, if_false, Option.bind_some, hcut, e1, n2, Bool.not_true, if_true, true_and, Sum.elim_inl, ne_eq, not_true_eq_false]
      cases c with
      | false => exact ⟨_, rfl, rfl⟩
      | true =>
        simp only [Bool.not_true, Bool.false_eq_true, if_false, if_true, true_and, rng_impl, hw8, Option.bind_some]
        by_cases cn : 0 ≤ n ∧ n ≤ 8 * (t'.size : Int)
        · obtain ⟨i, rfl⟩ : ∃ i : Nat, n = i := ⟨n.toNat, by omega⟩
          have i0 : (0 : Int) ≤ (i : Int) := by omega
          have i1 : (i : Int) ≤ (bs.size : Int) := by omega
          have h23 : f23 k (bs.extract i bs.size) (⟨#[49]⟩ : ByteArray) = some (Lib.contains ((ds bs).drop i) [49]) := by
            unfold f23
            rw [if_pos (by rw [ByteArray.size_extract]; omega)]
            congr 2
            show ds (bs.extract i bs.size) = _
            rw [ds_ex, List.take_of_length_le (by rw [ds_len]; omega)]
          have h24 : f24 k t' = some (if (t'.size : Int) = 4 then 4 else 6) := by
            simp only [f24, f24.step]
            by_cases c4 : (t'.size : Int) = 4
            · simp only [c4, decide_true, if_true]
            · simp only [c4, decide_false, if_false]; rfl
          simp only [cn, and_self, decide_true, Bool.not_true, Bool.false_eq_true, if_false, if_true, b2, Option.bind_some, i0, i1, Int.le_refl, Int.toNat_natCast, h23, h24]
          by_cases c1 : Lib.contains ((ds bs).drop i) [49] = true
          · simp only [c1, if_true]; exact ⟨_, rfl, rfl⟩
          · simp only [c1, if_false]; exact ⟨_, rfl, rfl⟩
        · simp only [cn, decide_false, Bool.not_false, if_true, if_false]; exact ⟨_, rfl, rfl⟩
theorem FnExactPrefixBits : Says := by
  intro a0 h0
  refine ⟨2097152, ?_⟩
  obtain ⟨r, e1, e2⟩ := pref_eq 2097152 (Nat.le_refl _) a0
  simp only [f4, f4.step]
  by_cases c : (a0.size : Int) > 1048576
  · simp only [c, decide_true, if_true]
  · simp only [c, decide_false, Bool.false_eq_true, if_false, e1, e2, Option.bind_some, ne_eq, not_true_eq_false]
    rfl
end Go.Proofs.YtebmblbfplmcaaaDoor.Pure
